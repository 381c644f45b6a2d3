import Derived.WalkKit
import Derived.Orders
set_option linter.all false
namespace Go.Hf
open Go.RowKit
section
variable{p c:Prop}{α:Sort _}{i:Nat}
theorem bA[Decidable p](h:¬p:=by omega):decide p=false:=decide_eq_false h
theorem bM[Decidable p](h:p:=by omega):decide p=true:=decide_eq_true h
theorem r4{i:Decidable c}(h:¬c:=by omega){t e:α}:ite c t e=e:=if_neg h
theorem GG{i:Decidable c}(h:c:=by omega){t e:α}:ite c t e=t:=if_pos h
theorem pm{α:Type _}{l:List α}(h:l.length<=i:=by omega):l.drop i=[]:=List.drop_eq_nil_of_le h
theorem Tp{α:Type _}{l:List α}(h:l.length<=i:=by omega):l.take i=l:=List.take_of_length_le h
theorem eC(n:Nat)(h:0<n:=by omega):∃m,n=m+1:=⟨n-1,by omega⟩
theorem p7:(1000000:Nat)=999999+1:=rfl
abbrev DJ:=@List.eq_nil_iff_forall_not_mem
abbrev AN:=@Array.getElem?_setIfInBounds
abbrev l1:=@Array.getD_eq_getD_getElem?
abbrev wv:=@List.getElem?_append_right
abbrev DR:=@Array.getElem?_eq_none_iff
abbrev nA:=@Array.getElem?_eq_some_iff
abbrev g8:=@List.getElem?_eq_some_iff
abbrev sy:=@List.drop_eq_getElem_cons
abbrev ve:=@List.getElem?_append_left
abbrev In:=@Array.getElem?_eq_getElem
abbrev fo:=@List.getElem?_eq_getElem
abbrev AO:=@List.length_eq_zero_iff
abbrev wu:=@List.flatMap_eq_nil_iff
abbrev AR:=@Option.bind_eq_some_iff
abbrev AU:=@List.getElem?_cons_succ
abbrev jG:=@Option.map_eq_some_iff
abbrev If:=@List.drop_eq_nil_of_le
abbrev TX:=@List.take_of_length_le
abbrev dX:=@Nat.le_of_ble_eq_true
abbrev e8:=@Nat.eq_of_beq_eq_true
abbrev tF:=@Nat.ble_eq_true_of_le
abbrev rt:=@List.getElem?_eq_none
abbrev yM:=@List.mem_iff_getElem?
abbrev AV:=@Array.getElem?_toList
abbrev AW:=@List.mem_append_right
abbrev DO:=@List.getElem?_toArray
abbrev Ng:=@Nat.testBit_shiftLeft
abbrev DP:=@Array.getElem?_modify
abbrev eH:=@List.mem_of_getElem?
abbrev ii:=@List.mem_cons_of_mem
abbrev jP:=@Nat.mul_le_mul_right
abbrev qt:=@List.mem_append_left
abbrev yN:=@List.reverse_reverse
abbrev Ig:=@List.getElem?_append
abbrev DQ:=@List.map_eq_nil_iff
abbrev u6:=@List.length_reverse
abbrev AX:=@List.map_congr_left
abbrev Ih:=@Nat.mul_le_mul_left
abbrev Ii:=@List.getElem?_range
abbrev fQ:=@List.mem_cons_self
abbrev io:=@Bool.false_eq_true
abbrev Ij:=@Nat.eq_zero_or_pos
abbrev u7:=@List.length_append
abbrev nz:=@List.getElem?_take
abbrev pi:=@Nat.lt_of_lt_of_le
abbrev u9:=@List.getElem?_drop
abbrev DS:=@List.map_replicate
abbrev Nh:=@Nat.one_lt_two_pow
abbrev Ik:=@UInt8.toNat_ofNat'
abbrev dN:=@Option.some.injEq
abbrev lx:=@List.getElem?_map
abbrev lb:=@List.flatMap_cons
abbrev DT:=@List.append_assoc
abbrev nB:=@decide_eq_true_eq
abbrev qv:=@of_decide_eq_true
abbrev ww:=@Array.size_append
abbrev vb:=@List.size_toArray
abbrev DU:=@Nat.succ_le_of_lt
abbrev DV:=@List.getElem?_set
abbrev vc:=@List.ext_getElem?
abbrev cC:=@Bool.and_eq_true
abbrev qw:=@List.length_cons
abbrev kg:=@List.all_eq_true
abbrev pO:=@List.mem_flatMap
abbrev wx:=@List.cons_append
abbrev sw:=@decide_eq_decide
abbrev sx:=@List.flatMap_map
abbrev tH:=@Option.bind_some
abbrev AY:=@List.length_take
abbrev vd:=@List.take_length
abbrev nC:=@List.any_eq_true
abbrev DW:=@List.map_toArray
abbrev Ni:=@List.getElem_mem
abbrev qx:=@Nat.mod_eq_of_lt
abbrev DX:=@Nat.div_eq_of_lt
abbrev iV:=@List.not_mem_nil
abbrev mw:=@List.length_map
abbrev fq:=@List.mem_append
abbrev gy:=@decide_eq_false
abbrev jH:=@Option.map_some
abbrev yO:=@List.nil_append
abbrev oz:=@List.map_append
abbrev oA:=@Bool.or_eq_true
abbrev qy:=@List.append_nil
abbrev n0:=@Bool.eq_iff_iff
abbrev l2:=@Option.some.inj
abbrev jQ:=@List.cons.injEq
abbrev Il:=@Nat.mul_add_div
abbrev Im:=@Nat.mul_add_mod
abbrev wy:=@Int.natCast_mul
abbrev DY:=@Nat.testBit_and
abbrev dJ:=@decide_eq_true
abbrev jI:=@Bool.not_false
abbrev AZ:=@Nat.mul_le_mul
abbrev sA:=@List.drop_zero
abbrev yP:=@Nat.testBit_or
abbrev hN:=@List.map_cons
abbrev e9:=@List.mem_cons
abbrev h4:=@Prod.mk.injEq
abbrev gX:=@Bool.not_true
abbrev m0:=@Bool.and_self
abbrev st:=@Sum.inr.injEq
abbrev rp:=@Nat.add_assoc
abbrev yI:=@Bool.true_and
abbrev Ib:=@List.map_take
abbrev u4:=@List.all_cons
abbrev Ic:=@Bool.false_or
abbrev fI:=@Nat.beq_refl
abbrev ia:=@List.mem_map
abbrev jv:=@Nat.le_trans
abbrev DK:=@Nat.lt_or_ge
abbrev ou:=@Nat.zero_add
abbrev ny:=@List.map_nil
abbrev su:=@Nat.mul_comm
abbrev rq:=@Nat.add_zero
abbrev yJ:=@Classical.em
abbrev yK:=@List.map_map
abbrev Ie:=@Nat.sub_zero
abbrev m1:=@Nat.pow_succ
abbrev dn:=@Nat.le_refl
abbrev iT:=@Nat.add_mul
abbrev pg:=@Nat.zero_le
abbrev ov:=@Nat.one_mul
abbrev AQ:=@Nat.pow_add
abbrev h5:=@Nat.add_eq
abbrev k9:=@Nat.beq_eq
abbrev sv:=@Nat.sub_eq
abbrev tE:=@Nat.mul_eq
abbrev yL:=@Array.ext'
abbrev rr:=@beq_iff_eq
abbrev AS:=@Nat.blt_eq
abbrev u5:=@Nat.mod_lt
abbrev DM:=@cond_false
abbrev e6:=@cond_true
abbrev oy:=@congrArg
abbrev hV:=@if_false
abbrev iU:=@or_false
abbrev gF:=@if_true
abbrev dr:=@if_pos
abbrev dU:=@if_neg
end
section
abbrev fU:=@Go.Result.andThen_ok
abbrev i7:=@Go.run_underlying
abbrev fy:=@Go.Sem.run_bind
abbrev g7:=@Go.Sem.run_pure
abbrev DL:=@Go.setRow_other
abbrev AP:=@Go.setRow_heap
abbrev AT:=@Go.RowKit.Below.refl
abbrev DN:=@Go.mem_ready
variable{α:Type}
inductive aT where
 |undef
 |bo (v:Value)
 |agg (cs:List aT)
 |bD (vs:List aT)
 |aN (sz:Nat) (es:List (List aT))
 |gk (cs:List aT) (off:Nat)
 |aQ (k s off:Nat)
 |aV (k s off len:Nat)
 |eP (k s i off:Nat)
 |fX (k s:Nat)
 |ey (f:Nat) (cR:List aT)
 deriving Inhabited
abbrev l7:=List (List aT)
abbrev eb:=List aT
inductive Obj where
 |aF (s:Nat)
 |box (s:Nat) (cs:List aT)
 |aV (s e sz:Nat) (es:List (List aT)) (bL:Bool)
 |map (s:Nat) (es:List (Value×Value))
 deriving Inhabited
abbrev nH:=List (Nat×Obj)
abbrev cT:=Nat->Obj
def Obj.cH:Obj->Nat
 | .aF s=>s
 | .box s _=>s
 | .aV s _ _ _ _=>s
 | .map s _=>s
def kP(s t:Nat):Nat:=Nat.add (Nat.mul (Nat.add (Nat.div s 65536) 1) 65536) t
theorem awJ(s t:Nat):s<kP s t:=by show s<(s/65536+1)*65536+t;omega
theorem awL{s t:Nat}(h:t<65536):kP s t%65536=t:=by show((s/65536+1)*65536+t) %65536=t;omega
structure cK where
 aI:Nat->aT
 bC:Nat->Obj
def dk{α:Type}(f:Nat->α)(i:Nat)(v:α):Nat->α:=λj=>if j=i then v else f j
theorem jc(f:Nat->α)(i:Nat)(v:α):dk f i v i=v:=by simp[dk]
theorem h9(f:Nat->α){i j:Nat}(v:α)(h:j≠i):dk f i v j=f j:=by simp[dk,h]
def fE(f:Nat->Obj):List (Nat×Obj)->Nat->Obj
 |[]=>f
 |(k,o)::r=>fE (dk f k o) r
def iS:Value->Bool
 | .bool _=>true
 | .int _ _=>true
 | .string _=>true
 | .pointer none=>true
 | .slice none 0 0=>true
 | .func (.func _) ⟨[]⟩ ⟨[]⟩=>true
 | .func (.yield _) ⟨[]⟩ ⟨[]⟩=>true
 | .nilFunc=>true
 | .nilIface=>true
 | .map none=>true
 |_=>false
def kv:aT:= .bo (.slice none 0 0)
def aT.iN:aT->Bool
 | .bo v=>iS v
 | .aN _ _=>true
 | .gk _ _=>true
 | .aQ _ _ _=>true
 | .aV _ _ _ _=>true
 | .eP _ _ _ _=>true
 | .fX _ _=>true
 | .ey _ _=>true
 |_=>false
def aT.cells:aT->Option (List aT)
 | .agg cs=>some cs
 | .undef=>none
 | .bD _=>none
 |v=>some [v]
def aT.cJ:aT->List Nat
 | .aQ k _ _=>[k]
 | .aV k _ _ _=>[k]
 | .eP k _ _ _=>[k]
 | .fX k _=>[k]
 |_=>[]
def aT.key:aT->List Nat
 | .ey _ cR=>cR.flatMap aT.cJ
 |v=>v.cJ
def aT.fe:aT->List Nat
 | .agg cs=>cs.flatMap aT.key
 |v=>v.key
def aT.dl:aT->List Nat
 | .bD cs=>cs.flatMap aT.fe
 |v=>v.fe
def Ss:Value->aT
 | .agg cs=> .agg (cs.toList.map aT.bo)
 |v=> .bo v
def eX(aR:Nat->aT):Operand->aT
 | .tmp t=>aR t
 | .const v=>Ss v
 | .func f=> .bo (.func (.func f) #[] #[])
 | .global _=> .undef
def h8(ob:Nat->Obj):aT->Option aT
 | .aV k s off len=>
   match ob k with
   | .aV a _ sz es _=>if s=a/\off+len<=es.length then some (.aN sz ((es.drop off).take len)) else none
   |_=>none
 | .bo v=>some (.bo v)
 | .aN sz es=>some (.aN sz es)
 | .gk cs off=>some (.gk cs off)
 |_=>none
def qi(ob:Nat->Obj):List aT->Option (List aT)
 |[]=>some []
 |p::ps=>match h8 ob p,qi ob ps with
  |some q,some a=>some (q::a)
  |_,_=>none
def jb(ob:Nat->Obj):aT->Option aT
 | .agg cs=>(qi ob cs).map aT.agg
 |v=>h8 ob v
def k7(ob:Nat->Obj):aT->List (Nat×Obj)
 | .aV k _ _ _=>
   match ob k with
   | .aV s e sz es true=>[(k,.aV s e sz es false)]
   |_=>[]
 |_=>[]
def jN(ob:Nat->Obj):aT->List (Nat×Obj)
 | .agg cs=>cs.flatMap (k7 ob)
 |v=>k7 ob v
def mK(ob:Nat->Obj)(sz:Nat):aT->Option (List (List aT))
 | .bo (.slice none 0 0)=>some []
 | .aN a es=>if a=sz then some es else none
 | .aV k s off len=>
   match ob k with
   | .aV b _ a es _=>if s=b/\a=sz/\off+len<=es.length then some ((es.drop off).take len) else none
   |_=>none
 |_=>none
def Dw(c:BinOp):Value->Value->Option Value
 | .int k a,.int _ b=>
   if b<0 then none else
    match c with
    | .shl=>some (.int k (k.wrap (a*2^min b.toNat k.bits)))
    | .shr=>some (.int k (a.fdiv (2^min b.toNat k.bits)))
    |_=>none
 |_,_=>none
def Az(c:BinOp):Value->Value->Option Value
 | .int k a,.int d b=>
   if k=d then
    match c with
    | .and=>some (.int k (k.wrap (BitVec.ofInt k.bits a&&& BitVec.ofInt k.bits b).toNat))
    | .or=>some (.int k (k.wrap (BitVec.ofInt k.bits a|||BitVec.ofInt k.bits b).toNat))
    | .xor=>some (.int k (k.wrap (BitVec.ofInt k.bits a^^^BitVec.ofInt k.bits b).toNat))
    | .andNot=>some (.int k (k.wrap (BitVec.ofInt k.bits a&&& ~~~BitVec.ofInt k.bits b).toNat))
    |_=>none
   else none
 |_,_=>none
def kA(c:BinOp):Value->Value->Option Value
 | .int k a,.int d b=>
   if k=d then
    match c with
    | .add=>some (.int k (k.wrap (a+b)))
    | .sub=>some (.int k (k.wrap (a-b)))
    | .mul=>some (.int k (k.wrap (a*b)))
    | .quo=>if b=0 then none else some (.int k (k.wrap (a.tdiv b)))
    | .rem=>if b=0 then none else some (.int k (a.tmod b))
    | .eql=>some (.bool (a==b))
    | .neq=>some (.bool (a !=b))
    | .lss=>some (.bool (a<b))
    | .leq=>some (.bool (a<=b))
    | .gtr=>some (.bool (a>b))
    | .geq=>some (.bool (a≥b))
    |_=>none
   else none
 | .string x,.string y=>
   match c with
   | .add=>if((x.size+y.size:Nat):Int)>IntKind.i64.max then none else some (.string (x++y))
   | .eql=>some (.bool (x.toList==y.toList))
   | .neq=>some (.bool !(x.toList==y.toList))
   | .lss=>some (.bool (Op.bytesLess x.toList y.toList))
   | .leq=>some (.bool (Op.bytesLess x.toList y.toList||x.toList==y.toList))
   | .gtr=>some (.bool !(Op.bytesLess x.toList y.toList||x.toList==y.toList))
   | .geq=>some (.bool !(Op.bytesLess x.toList y.toList))
   |_=>none
 |_,_=>none
def HN(a:UnOp):Value->Option Value
 | .bool b=>match a with| .not=>some (.bool !b)|_=>none
 | .int k n=>match a with
   | .neg=>some (.int k (k.wrap (0-n)))
   | .xor=>some (.int k (k.wrap (BitVec.ofInt k.bits (if k.signed then-1 else k.max)^^^BitVec.ofInt k.bits n).toNat))
   |_=>none
 |_=>none
inductive dO (α:Type) where
 |qa (x:α)
 |pick (c a b:α)
 |alloc (t:Nat) (zero:List Value)
 |box (t:Nat) (x:α)
 |build (zero:List Value) (parts:List (Nat×Nat×α))
 |oN (e sz:Nat) (zero:List Value) (len:Nat) (parts:List (Nat×α)) (bL:Bool)
 |load (isAgg:Bool) (n:Nat) (a:α)
 |store (n:Nat) (a v:α)
 |sg (x:α)
 |rR (op:BinOp) (x y:α)
 |rS (neg:Bool) (x y:α)
 |rZ (neg:Bool) (x y:α)
 |r5 (neg:Bool) (x:α)
 |pd (op:UnOp) (x:α)
 |rU (k:IntKind) (x:α)
 |qI (x:α)
 |p8 (e sz bytes:Nat) (zero:List Value) (l c:α)
 |sr (x:α) (lo hi:Option α)
 |ri (sz:Nat) (x:α) (lo hi:Option α)
 |pW (off:Nat) (x:α)
 |r0 (isAgg:Bool) (off n:Nat) (x:α)
 |qU (sz:Nat) (x i:α)
 |sq (x i:α)
 |ext (x:α) (i:Nat)
 |len (kq:Bool) (x:α)
 |append (e sz bytes:Nat) (s x:α) (bL:Bool)
 |q0 (isMax:Bool) (x y:α)
 |call (f:α) (args:List α)
 |hK (f:α) (args:List α) (frz:List Bool)
 |gE (op:BinOp) (x y:α)
 |bits (op:BinOp) (x y:α)
 |sf (f:Nat) (cR:List α)
 |qZ
 |pD (kd:Nat) (m k v:α)
 |pC (kd:Nat) (ok:Bool) (zero:Value) (m k:α)
 |n7 (e bytes:Nat) (s x:α) (bL:Bool)
 |rO (n sz:Nat) (x i:α)
 |p9 (m k v:α)
 |pY (e sz:Nat) (zero:List Value) (len:Nat) (parts:List (Nat×α))
 |ip
 deriving Inhabited
abbrev mA:=dO Operand
def qn(isAgg:Bool)(n:Nat)(cs:List aT)(off:Nat):Option aT:=
 if isAgg then(if off+n<=cs.length then some (.agg ((cs.drop off).take n)) else none) else cs[off]?
def nW(cs:List aT)(off:Nat)(new:List aT):List aT:=cs.take off++new++cs.drop (off+new.length)
def qQ{α:Type}(ev:α->aT)(cs:List aT):List (Nat×Nat×α)->Option (List aT)
 |[]=>some cs
 |(off,n,x)::r=>
  match(ev x).cells with
  |some new=>if new.length=n/\off+n<=cs.length then qQ ev (nW cs off new) r else none
  |none=>none
def mM{α:Type}(ev:α->aT)(ob:Nat->Obj)(sz:Nat)(es:List (List aT)):List (Nat×α)->Option (List (List aT))
 |[]=>some es
 |(i,x)::r=>
  match(jb ob (ev x)).bind aT.cells with
  |some new=>if new.length=sz/\i<es.length then mM ev ob sz (es.set i new) r else none
  |none=>none
def mG{α:Type}(ev:α->aT)(ju:Nat):Option α->Option Nat
 |none=>some ju
 |some x=>match ev x with
  | .bo (.int _ n)=>if 0<=n then some n.toNat else none
  |_=>none
def xv:List (List aT)->Option (List UInt8)
 |[]=>some []
 |[.bo (.int .u8 n)]::r=>(xv r).map (UInt8.ofNat n.toNat:: ·)
 |_=>none
def Ga:aT->Bool
 | .aQ _ _ _=>true
 | .bo (.pointer none)=>true
 |_=>false
def Ki(l:List aT):Bool:=l.all Ga&&l.any λp=>match p with| .aQ _ _ _=>true|_=>false
def mf:Nat->Value->Bool
 |0,.int _ _=>true
 |1,.string _=>true
 |2,.bool _=>true
 |_,_=>false
def k6:Value->Value->Bool
 | .int k _,.int a _=>k==a
 | .string _,.string _=>true
 | .bool _,.bool _=>true
 |_,_=>false
def re:Value->Value->Bool
 | .int _ a,.int _ b=>a==b
 | .string a,.string b=>a.data.toList==b.data.toList
 | .bool a,.bool b=>a==b
 |_,_=>false
def sd:List (Value×Value)->Value->Option Value
 |[],_=>none
 |(k,v)::r,x=>if re x k then some v else sd r x
def mg:List (Value×Value)->Value->Value->List (Value×Value)
 |[],x,y=>[(x,y)]
 |(k,v)::r,x,y=>if re x k then(x,y)::r else(k,v)::mg r x y
def mX(b:ByteArray):List (List aT):=b.data.toList.map λc=>[.bo (.int .u8 c.toNat)]
def c9{α:Type}(ev:α->aT)(ob:Nat->Obj)(d:Nat):dO α->Option (aT×List (Nat×Obj))
 | .qa x=>some (ev x,[])
 | .pick c a b=>match ev c with
   | .bo (.bool true)=>some (ev a,[])
   | .bo (.bool false)=>some (ev b,[])
   |_=>none
 | .alloc t zero=>some (.aQ d (kP (ob d).cH t) 0,[(d,.box (kP (ob d).cH t) (zero.map aT.bo))])
 | .box t x=>match(ev x).cells with
   |some cs=>some (.aQ d (kP (ob d).cH t) 0,[(d,.box (kP (ob d).cH t) cs)])
   |none=>none
 | .build zero parts=>(qQ ev (zero.map aT.bo) parts).map λcs=>(.agg cs,[])
 | .oN e sz zero len parts bL=>
   (mM ev ob sz (List.replicate len (zero.map aT.bo)) parts).map λes=>
    (.aV d ((ob d).cH+1) 0 len,parts.flatMap (λp=>jN ob (ev p.2))++[(d,.aV ((ob d).cH+1) e sz es bL)])
 | .pY _ sz zero len parts=>(mM ev ob sz (List.replicate len (zero.map aT.bo)) parts).map λes=>(.aN sz es,parts.flatMap λp=>jN ob (ev p.2))
 | .load isAgg n a=>match ev a with
   | .aQ k s off=>match ob k with
     | .box g cs=>if s=g then(qn isAgg n cs off).map λv=>(v,[]) else none
     |_=>none
   | .eP k s i off=>match ob k with
     | .aV g _ _ es _=>if s=g then(es[i]?).bind λcs=>(qn isAgg n cs off).map λv=>(v,[]) else none
     |_=>none
   | .gk cs off=>(qn isAgg n cs off).map λv=>(v,[])
   |_=>none
 | .store n a v=>match ev a with
   | .aQ k s off=>match ob k,(ev v).cells with
     | .box g cs,some new=>if s=g/\new.length=n/\off+n<=cs.length then some (.undef,[(k,.box s (nW cs off new))]) else none
     |_,_=>none
   | .eP k s i off=>match ob k,(jb ob (ev v)).bind aT.cells with
     | .aV g e sz es true,some new=>
       match es[i]? with
       |some cs=>if s=g/\new.length=n/\off+n<=cs.length/\(ev v).dl=[] then some (.undef,[(k,.aV s e sz (es.set i (nW cs off new)) true)]) else none
       |none=>none
     |_,_=>none
   |_=>none
 | .p9 m k _=>match ev m,ev k with
   | .fX r s,.agg [.bo (.string _),.bo (.string _)]=>match ob r with
     | .map g []=>if s=g then some (.undef,[(r,.aF s)]) else none
     |_=>none
   |_,_=>none
 | .sg x=>match ev x with
   | .aQ k s off=>some (.aQ k s off,[])
   | .eP k s i off=>some (.eP k s i off,[])
   | .gk cs off=>some (.gk cs off,[])
   |_=>none
 | .rR q x y=>match ev x,ev y with
   | .bo a,.bo b=>(kA q a b).map λv=>(.bo v,[])
   |_,_=>none
 | .rS neg x y=>match ev x,ev y with
   | .bo (.bool a),.bo (.bool b)=>some (.bo (.bool (xor neg (a==b))),[])
   |_,_=>none
 | .rZ neg x y=>match ev x,ev y with
   | .agg [.bo (.string a),.bo (.string b)],.agg [.bo (.string A),.bo (.string b')]=>some (.bo (.bool (xor neg (a.toList==A.toList&&b.toList==b'.toList))),[])
   |_,_=>none
 | .r5 neg x=>match ev x with
   | .bo (.slice none 0 0)=>some (.bo (.bool !neg),[])
   | .aN _ _=>some (.bo (.bool neg),[])
   | .aV _ _ _ _=>some (.bo (.bool neg),[])
   |_=>none
 | .pd q x=>match ev x with
   | .bo a=>(HN q a).map λv=>(.bo v,[])
   |_=>none
 | .rU k x=>match ev x with
   | .bo (.int _ n)=>some (.bo (.int k (k.wrap n)),[])
   |_=>none
 | .qI x=>((mK ob 1 (ev x)).bind xv).map λl=>(.bo (.string ⟨l.toArray⟩),[])
 | .p8 e sz bytes zero l c=>match ev l,ev c with
   | .bo (.int .i64 a),.bo (.int .i64 b)=>
     if 0<=a/\a<=b/\b*bytes<=1099511627776/\b<=1099511627776 then
      some (.aV d ((ob d).cH+1) 0 a.toNat,[(d,.aV ((ob d).cH+1) e sz (List.replicate a.toNat (zero.map aT.bo)) true)])
     else none
   |_,_=>none
 | .sr x lo hi=>match ev x with
   | .bo (.string s)=>match mG ev 0 lo,mG ev s.size hi with
     |some l,some h=>if l<=h/\h<=s.size then some (.bo (.string (s.extract l h)),[]) else none
     |_,_=>none
   |_=>none
 | .ri sz x lo hi=>match ev x with
   | .aN j es=>match mG ev 0 lo,mG ev es.length hi with
     |some l,some h=>if j=sz/\l<=h/\h<=es.length then some (.aN sz ((es.drop l).take (h-l)),[]) else none
     |_,_=>none
   | .aV k s off len=>match mG ev 0 lo,mG ev len hi,ob k with
     |some l,some h,.aV g _ j _ _=>if s=g/\j=sz/\l<=h/\h<=len then some (.aV k s (off+l) (h-l),[]) else none
     |_,_,_=>none
   | .bo (.slice none 0 0)=>match mG ev 0 lo,mG ev 0 hi with
     |some 0,some 0=>some (kv,[])
     |_,_=>none
   |_=>none
 | .pW o x=>match ev x with
   | .aQ k s off=>some (.aQ k s (off+o),[])
   | .eP k s i off=>some (.eP k s i (off+o),[])
   | .gk cs off=>some (.gk cs (off+o),[])
   |_=>none
 | .r0 isAgg off n x=>match ev x with
   | .agg cs=>(qn isAgg n cs off).map λv=>(v,[])
   |_=>none
 | .qU sz x i=>match ev x,ev i with
   | .aN j es,.bo (.int _ n)=>if j=sz/\0<=n then(es[n.toNat]?).map λcs=>(.gk cs 0,[]) else none
   | .aV k s off len,.bo (.int _ n)=>match ob k with
     | .aV g _ j _ _=>if s=g/\j=sz/\0<=n/\n<len then some (.eP k s (off+n.toNat) 0,[]) else none
     |_=>none
   |_,_=>none
 | .sq x i=>match ev x,ev i with
   | .bo (.string s),.bo (.int _ n)=>if 0<=n then(s.data.toList[n.toNat]?).map λb=>(.bo (.int .u8 b.toNat),[]) else none
   |_,_=>none
 | .ext x i=>match ev x with
   | .bD (.undef::_)=>none
   | .bD vs=>(vs[i]?).map λv=>(v,[])
   |_=>none
 | .len kq x=>match kq,ev x with
   |true,.bo (.string s)=>some (.bo (.int .i64 s.size),[])
   |false,.bo (.slice none 0 0)=>some (.bo (.int .i64 0),[])
   |false,.aN _ es=>some (.bo (.int .i64 es.length),[])
   |false,.aV _ _ _ len=>some (.bo (.int .i64 len),[])
   |_,_=>none
 | .append e sz bytes s x bL=>match ev s,mK ob sz (ev x) with
   | .bo (.slice none 0 0),some ys=>
     if ys.length*bytes<=1099511627776/\ys.length<=1099511627776 then
      if ys.length=0 then some (kv,[]) else some (.aV d ((ob d).cH+1) 0 ys.length,[(d,.aV ((ob d).cH+1) e sz ys bL)])
     else none
   | .aV k bZ 0 len,some ys=>match ob k with
     | .aV u e' j es r=>
       if bZ=u/\e'=e/\j=sz/\(len=es.length\/r=true/\len<=es.length)/\(len+ys.length)*bytes<=1099511627776/\len+ys.length<=1099511627776 then
        some (.aV k (bZ+1) 0 (len+ys.length),[(k,.aV (bZ+1) e sz (es.take len++ys) r)])
       else none
     |_=>none
   | .bD [.undef,.aN j es],some ys=>
     if j=sz/\0<ys.length/\(es.length+ys.length)*bytes<=1099511627776/\es.length+ys.length<=1099511627776 then
      some (.aV d ((ob d).cH+1) 0 (es++ys).length,[(d,.aV ((ob d).cH+1) e sz (es++ys) bL)])
     else none
   |_,_=>none
 | .q0 B x y=>match ev x,ev y with
   | .bo (.int k a),.bo (.int C b)=>if k=C then some (.bo (.int k (if B then(if b>a then b else a) else(if b<a then b else a))),[]) else none
   |_,_=>none
 | .n7 e bytes s x bL=>match ev s,ev x with
   | .bo (.slice none 0 0),.bo (.string b)=>
     if b.size*bytes<=1099511627776/\b.size<=1099511627776 then
      if b.size=0 then some (kv,[]) else some (.aV d ((ob d).cH+1) 0 b.size,[(d,.aV ((ob d).cH+1) e 1 (mX b) bL)])
     else none
   | .aV k bZ 0 len,.bo (.string b)=>match ob k with
     | .aV u e' j es r=>
       if bZ=u/\e'=e/\j=1/\(len=es.length\/r=true/\len<=es.length)/\(len+b.size)*bytes<=1099511627776/\len+b.size<=1099511627776 then
        some (.aV k (bZ+1) 0 (len+b.size),[(k,.aV (bZ+1) e 1 (es.take len++mX b) r)])
       else none
     |_=>none
   |_,_=>none
 | .rO n sz x i=>match ev x,ev i with
   | .aQ k s off,.bo (.int _ m)=>if 0<=m/\m<n then some (.aQ k s (off+m.toNat*sz),[]) else none
   |_,_=>none
 | .gE q x y=>match ev x,ev y with
   | .bo a,.bo b=>(Dw q a b).map λv=>(.bo v,[])
   |_,_=>none
 | .bits q x y=>match ev x,ev y with
   | .bo a,.bo b=>(Az q a b).map λv=>(.bo v,[])
   |_,_=>none
 | .sf f cR=>if cR.length=0 then some (.bo (.func (.func f) #[] #[]),[]) else if Ki (cR.map ev) then some (.ey f (cR.map ev),[]) else none
 | .qZ=>some (.fX d ((ob d).cH+1),[(d,.map ((ob d).cH+1) [])])
 | .pD w m k v=>match ev m,ev k,ev v with
   | .fX r s,.bo x,.bo y=>match ob r with
     | .map g es=>if s=g/\mf w x=true/\es.all (λe=>k6 x e.1)=true/\iS y=true then some (.undef,[(r,.map s (mg es x y))]) else none
     |_=>none
   |_,_,_=>none
 | .pC w z zero m k=>match ev m,ev k with
   | .fX r s,.bo x=>match ob r with
     | .map g es=>if s=g/\mf w x=true/\es.all (λe=>k6 x e.1)=true then
      match sd es x with
      |some y=>some (if z then .bD [.bo y,.bo (.bool true)] else .bo y,[])
      |none=>some (if z then .bD [.bo zero,.bo (.bool false)] else .bo zero,[])
       else none
     |_=>none
   |_,_=>none
 | .call _ _=>none
 | .hK _ _ _=>none
 | .ip=>none
end
section
variable{w w':World}{p:aT}{v:Value}{ob cN:cT}
inductive fM (c:Nat->Nat) (w:World):aT->Value->Prop where
 |bo {v:Value} (h:iS v=true):fM c w (.bo v) v
 |aN {sz:Nat}{es:l7}{b o cap:Nat} (vals:Nat->Nat->Value) (hcap:es.length<=cap) (hm:cap<=maxLen) (hb:b<w.heap.size) (hc:0<es.length->o+es.length*sz<=c b)
  (hsz:∀(i:Nat) (cs:eb),es[i]? =some cs->cs.length=sz)
  (hcell:∀(i j:Nat) (cs:eb) (p:aT),es[i]? =some cs->cs[j]? =some p->w.cell? ⟨b,o+(i*sz+j),none⟩=some (vals i j))
  (hci:∀(i j:Nat) (cs:eb) (p:aT),es[i]? =some cs->cs[j]? =some p->p.iN=true)
  (hv:∀(i j:Nat) (cs:eb) (p:aT),es[i]? =some cs->cs[j]? =some p->fM c w p (vals i j)):fM c w (.aN sz es) (.slice (some ⟨b,o,none⟩) es.length cap)
 |gk {cs:eb}{off b o:Nat} (vals:Nat->Value) (hb:b<w.heap.size) (hc:o+cs.length<=c b)
  (hcell:∀(j:Nat) (p:aT),cs[j]? =some p->w.cell? ⟨b,o+j,none⟩=some (vals j))
  (hci:∀(j:Nat) (p:aT),cs[j]? =some p->p.iN=true)
  (hv:∀(j:Nat) (p:aT),cs[j]? =some p->fM c w p (vals j)):fM c w (.gk cs off) (.pointer (some ⟨b,o+off,none⟩))
 |agg {cs:eb}{vs:List Value} (hl:cs.length=vs.length) (hci:∀(j:Nat) (p:aT),cs[j]? =some p->p.iN=true)
  (hv:∀(j:Nat) (p:aT) (v:Value),cs[j]? =some p->vs[j]? =some v->fM c w p v):fM c w (.agg cs) (.agg vs.toArray)
structure gA (c:Nat->Nat) (w:World) (c':Nat->Nat) (w':World):Prop where
 size:w.heap.size<=w'.heap.size
 le:∀b,b<w.heap.size->c b<=c' b
 cell:∀b i,b<w.heap.size->i<c b->w'.cell? ⟨b,i,none⟩=w.cell? ⟨b,i,none⟩
theorem gA.refl(c:Nat->Nat)(w:World):gA c w c w:=⟨dn _,λ_ _=>dn _,λ_ _ _ _=>rfl⟩
theorem gA.trans{c c' d:Nat->Nat}{w w' e:World}(h:gA c w c' w')(k:gA c' w' d e):gA c w d e:=
 ⟨jv h.size k.size,λb a=>jv (h.le b a) (k.le b (pi a h.size)),
  λb i a hi=>(k.cell b i (pi a h.size) (pi hi (h.le b a))).trans (h.cell b i a hi)⟩
theorem fM.mono{c c':Nat->Nat}(h:gA c w c' w')(r:fM c w p v):fM c' w' p v:=by
 induction r with
 |bo h=>exact .bo h
 |aN l y z a k t n d u e=>rename_i sz es b o C;refine .aN l y z (pi a h.size) (λq=>jv (k q) (h.le _ a)) t ?_ d e;intro i j cs p hi g;rw[h.cell _ _ a ?_];exact n i j cs p hi g;have A:i<_:=(g8.1 hi).1;have x:j<cs.length:=(g8.1 g).1;rw[t i cs hi]at x;have B:(i+1)*sz<=_*sz:=jP sz A;rw[iT,ov]at B;have D:=k (by omega);omega
 |gk l a k n d u e=>refine .gk l (pi a h.size) (jv k (h.le _ a)) ?_ d e;intro j p g;rw[h.cell _ _ a ?_];exact n j p g;have x:j<_:=(g8.1 g).1;omega
 |agg q d u e=>exact .agg q d e
structure cx where
 af:Nat->Nat
 cr:Nat->Nat
 cap:Nat->Nat
abbrev axT:=cx×(Nat->Obj)×World×List Deferred
def hO(g:cx)(ob:cT):aT->Value->Prop
 | .aQ k s off,v=>s<=(ob k).cH/\∃a,v= .pointer (some a)/\∀cs,ob k= .box s cs->a=⟨g.cr k,off,none⟩
 | .eP k s i off,v=>s<=(ob k).cH/\∃a,v= .pointer (some a)/\∀e sz es bL,ob k= .aV s e sz es bL->a=⟨g.cr k,i*sz+off,none⟩
 | .aV k s off len,v=>s<=(ob k).cH/\∃b o c,v= .slice (some ⟨b,o,none⟩) len c/\len<=c/\c<=maxLen/\
  ∀e sz es bL,ob k= .aV s e sz es bL->off+len<=es.length/\b=g.cr k/\(0<len\/off=0->o=off*sz)/\(off=0->c=g.cap k)
 | .fX k s,v=>s<=(ob k).cH/\∃b,v= .map (some b)/\∀es,ob k= .map s es->b=g.cr k
 |_,_=>False
def m5(g:cx)(ob:cT):aT->Value->Prop
 | .ey f cR,v=>cR.flatMap aT.cJ≠[]/\∃vs:List Value,v= .func (.func f) #[] vs.toArray/\cR.length=vs.length/\
  ∀(j:Nat) (q:aT) (u:Value),cR[j]? =some q->vs[j]? =some u->(q= .bo (.pointer none)/\u= .pointer none)\/hO g ob q u
 |p,v=>hO g ob p v
def g2(g:cx)(w:World)(ob:cT)(p:aT)(v:Value):Prop:=fM g.af w p v\/m5 g ob p v
def TW(g:cx)(w:World)(ob:cT)(p:aT)(v:Value):Prop:=
 ∃(cs:eb) (vs:List Value),p= .agg cs/\v= .agg vs.toArray/\cs.length=vs.length/\∀(j:Nat) (q:aT) (u:Value),cs[j]? =some q->vs[j]? =some u->q.iN=true/\g2 g w ob q u
def Ip(c:Nat->Nat)(w:World)(p:aT)(v:Value):Prop:=∃(sz:Nat) (es:l7) (a:Addr),p= .bD [.undef,.aN sz es]/\v= .slice (some a) es.length es.length/\fM c w (.aN sz es) v
theorem Ip.mono{c c':Nat->Nat}{w w':World}(h:gA c w c' w'){p:aT}{v:Value}:Ip c w p v->Ip c' w' p v
 |⟨sz,es,a,b,d,e⟩=>⟨sz,es,a,b,d,e.mono h⟩
def dZ(g:cx)(w:World)(ob:cT)(p:aT)(v:Value):Prop:=
 p= .undef\/g2 g w ob p v\/
 (∃(cs:eb) (vs:List Value),p= .agg cs/\v= .agg vs.toArray/\cs.length=vs.length/\∀(j:Nat) (q:aT) (u:Value),cs[j]? =some q->vs[j]? =some u->q.iN=true/\g2 g w ob q u)\/
 (∃(ps:eb) (vs:List Value),p= .bD ps/\v= .tuple vs.toArray/\ps.length=vs.length/\∀(j:Nat) (q:aT) (u:Value),ps[j]? =some q->vs[j]? =some u->g2 g w ob q u\/TW g w ob q u)\/Ip g.af w p v
def Obj.gg:Obj->Prop
 | .aF _=>False
 |_=>True
def NC(bK:Array MapEntry)(a:Nat):Prop:=(∀e∈bK.toList,e.born<a)/\(bK.toList.map (·.born)).Nodup
def l5(g:cx)(w:World)(ob:cT)(k:Nat):Obj->Prop
 | .aF _=>True
 | .box s cs=>∃(bK:Array Value) (T:Nat),w.heap[g.cr k]? =some (.cells bK T (0,0))/\(bK.size=cs.length/\s%65536=T)/\g.af (g.cr k)=0/\
  ∀(j:Nat) (q:aT),cs[j]? =some q->∃u,bK[j]? =some u/\q.iN=true/\g2 g w ob q u
 | .aV _ e sz es bL=>∃bK:Array Value,w.heap[g.cr k]? =some (.cells bK e (0,0))/\bK.size=g.cap k*sz/\es.length<=g.cap k/\g.cap k<=maxLen/\
  (∀(i:Nat) (cs:eb),es[i]? =some cs->cs.length=sz)/\
  (∀(i j:Nat) (cs:eb) (p:aT),es[i]? =some cs->cs[j]? =some p->∃u,bK[i*sz+j]? =some u/\p.iN=true/\fM g.af w p u)/\
  (bL=true->g.af (g.cr k)=0)/\g.af (g.cr k)<=es.length*sz
 | .map _ es=>∃(bK:Array MapEntry) (a:Nat),w.heap[g.cr k]? =some (.map bK a)/\bK.toList.map (λe=>(e.key,e.val))=es/\g.af (g.cr k)=0/\es.all (λe=>iS e.2)=true/\NC bK a
def gb(g:cx)(ob:cT)(g':cx)(cN:cT):Prop:=
 ∀k,(ob k).cH<=(cN k).cH/\
  (∀cs,cN k= .box (ob k).cH cs->(∃b,ob k= .box (ob k).cH b)/\g'.cr k=g.cr k)/\
  (∀e sz es bL,cN k= .aV (ob k).cH e sz es bL->(∃a c,ob k= .aV (ob k).cH e sz a c/\a.length<=es.length)/\g'.cr k=g.cr k/\g'.cap k=g.cap k)/\
  (∀es,cN k= .map (ob k).cH es->(∃a,ob k= .map (ob k).cH a)/\g'.cr k=g.cr k)
theorem hO.step{g g':cx}(h:gb g ob g' cN)(r:hO g ob p v):hO g' cN p v:=by
 cases p with
 |aQ k s off=>
  obtain⟨j,a,rfl,l⟩:=r;obtain⟨n,q,_,_⟩:=h k;refine⟨jv j n,a,rfl,λcs c=>?_⟩;have y:(cN k).cH=s:=by rw[c];rfl
  have d:s=(ob k).cH:=by omega
  obtain⟨⟨A,t⟩,u⟩:=q cs (by rw[<-d];exact c);rw[u];exact l A (by rw[d];exact t)
 |eP k s i off=>
  obtain⟨j,a,rfl,l⟩:=r;obtain⟨n,_,q,_⟩:=h k;refine⟨jv j n,a,rfl,λe sz es bL c=>?_⟩;have y:(cN k).cH=s:=by rw[c];rfl
  have d:s=(ob k).cH:=by omega
  obtain⟨⟨x,z,t,_⟩,u,_⟩:=q e sz es bL (by rw[<-d];exact c);rw[u];exact l e sz x z (by rw[d];exact t)
 |aV k s off len=>
  obtain⟨j,b,o,B,rfl,C,D,l⟩:=r;obtain⟨n,_,q,_⟩:=h k;refine⟨jv j n,b,o,B,rfl,C,D,λe sz es bL c=>?_⟩;have y:(cN k).cH=s:=by rw[c];rfl
  have d:s=(ob k).cH:=by omega
  obtain⟨⟨x,z,t,G⟩,u,E⟩:=q e sz es bL (by rw[<-d];exact c);obtain⟨H,F,eE,eV⟩:=l e sz x z (by rw[d];exact t);exact⟨by omega,by rw[u];exact F,eE,by rw[E];exact eV⟩
 |fX k s=>
  obtain⟨j,b,rfl,l⟩:=r;obtain⟨n,_,_,q⟩:=h k;refine⟨jv j n,b,rfl,λes c=>?_⟩;have y:(cN k).cH=s:=by rw[c];rfl
  have d:s=(ob k).cH:=by omega
  obtain⟨⟨x,t⟩,u⟩:=q es (by rw[<-d];exact c);rw[u];exact l x (by rw[d];exact t)
 |_=>exact r.elim
theorem m5.step{g g':cx}{ob cN:cT}(h:gb g ob g' cN){p:aT}{v:Value}(r:m5 g ob p v):m5 g' cN p v:=by
 cases p with
 |ey f cR=>obtain⟨a,vs,rfl,b,c⟩:=r;exact⟨a,vs,rfl,b,λj q u d e=>(c j q u d e).imp id (hO.step h)⟩
 |aQ k s off=>exact hO.step (p:= .aQ k s off) h r
 |eP k s i off=>exact hO.step (p:= .eP k s i off) h r
 |aV k s off len=>exact hO.step (p:= .aV k s off len) h r
 |fX k s=>exact hO.step (p:= .fX k s) h r
 |_=>exact r.elim
theorem g2.step{g g':cx}{w w':World}{ob cN:cT}(a:gA g.af w g'.af w')(h:gb g ob g' cN){p:aT}{v:Value}(r:g2 g w ob p v):g2 g' w' cN p v:=
 r.imp (fM.mono a) (m5.step h)
theorem dZ.step{g g':cx}{w w':World}{ob cN:cT}(c:gA g.af w g'.af w')(h:gb g ob g' cN){p:aT}{v:Value}(r:dZ g w ob p v):dZ g' w' cN p v:=by rcases r with r|r|⟨cs,vs,d,e,eE,eV⟩|⟨cs,vs,d,e,eE,eV⟩|r;exact .inl r;exact .inr (.inl (r.step c h));exact .inr (.inr (.inl ⟨cs,vs,d,e,eE,λj q u a b=>⟨(eV j q u a b).1,(eV j q u a b).2.step c h⟩⟩));refine .inr (.inr (.inr (.inl ⟨cs,vs,d,e,eE,λj q u a b=>(eV j q u a b).imp (λr=>r.step c h) ?_⟩)));rintro⟨hu,i,k,l,s3,s4⟩;exact⟨hu,i,k,l,s3,λj q u a b=>⟨(s4 j q u a b).1,(s4 j q u a b).2.step c h⟩⟩;exact .inr (.inr (.inr (.inr (r.mono c))))
theorem gb.refl(g:cx)(ob:cT):gb g ob g ob:=
 λ_=>⟨dn _,λcs h=>⟨⟨cs,h⟩,rfl⟩,λ_ _ es bL h=>⟨⟨es,bL,h,dn _⟩,rfl,rfl⟩,λes h=>⟨⟨es,h⟩,rfl⟩⟩
theorem gb.trans{g g' n:cx}{ob cN c:cT}(h:gb g ob g' cN)(h':gb g' cN n c):gb g ob n c:=by
 intro k;obtain⟨q,r,t,u⟩:=h k;obtain⟨x,y,ik,jT⟩:=h' k;refine⟨jv q x,λcs a=>?_,λe sz es bL a=>?_,λes a=>?_⟩;have o:(c k).cH=(ob k).cH:=by rw[a];rfl
 have b:(cN k).cH=(ob k).cH:=by omega
 obtain⟨⟨c0,d⟩,i⟩:=y cs (by rw[b];exact a);obtain⟨l,j⟩:=r c0 (by rw[<-b];exact d);exact⟨l,i.trans j⟩;have o:(c k).cH=(ob k).cH:=by rw[a];rfl
 have b:(cN k).cH=(ob k).cH:=by omega
 obtain⟨⟨c0,z,d,E⟩,i,A⟩:=ik e sz es bL (by rw[b];exact a);obtain⟨⟨c1,B,C,F⟩,j,D⟩:=t e sz c0 z (by rw[<-b];exact d);exact⟨⟨c1,B,C,by omega⟩,i.trans j,A.trans D⟩;have o:(c k).cH=(ob k).cH:=by rw[a];rfl
 have b:(cN k).cH=(ob k).cH:=by omega
 obtain⟨⟨c0,d⟩,i⟩:=jT es (by rw[b];exact a);obtain⟨l,j⟩:=u c0 (by rw[<-b];exact d);exact⟨l,i.trans j⟩
theorem l5.ed{g g':cx}{k:Nat}{o:Obj}(A:gA g.af w g'.af w')(h:gb g ob g' cN)
 (t:o.gg->g'.cr k=g.cr k/\g'.cap k=g.cap k/\g'.af (g.cr k)=g.af (g.cr k)/\w'.heap[g.cr k]? =w.heap[g.cr k]?)(r:l5 g w ob k o):l5 g' w' cN k o:=by
 cases o with
 |aF s=>trivial
 |box s cs=>obtain⟨a,c,b,d⟩:=t trivial;obtain⟨bK,T,l,n,eE,eV⟩:=r;refine⟨bK,T,?_,n,?_,λj q B=>?_⟩;rw[a,d];exact l;rw[a,b];exact eE;obtain⟨u,x,y,z⟩:=eV j q B;exact⟨u,x,y,z.step A h⟩
 |aV s e sz es bL=>obtain⟨a,c,b,d⟩:=t trivial;obtain⟨bK,l,n,eE,eV,hM,i4,mm,mn⟩:=r;refine⟨bK,?_,?_,?_,?_,hM,λi j cs p hi C=>?_,?_,?_⟩;rw[a,d];exact l;rw[c];exact n;rw[c];exact eE;rw[c];exact eV;obtain⟨u,x,y,z⟩:=i4 i j cs p hi C;exact⟨u,x,y,z.mono A⟩;rw[a,b];exact mm;rw[a,b];exact mn
 |map s es=>obtain⟨a,c,b,d⟩:=t trivial;obtain⟨bK,D,l,n,eE,eV⟩:=r;exact⟨bK,D,by rw[a,d];exact l,n,by rw[a,b];exact eE,eV⟩
structure n2 (g:cx) (w:World) (ob:cT):Prop where
 h1:∀k,l5 g w ob k (ob k)
 inj:∀k k',(ob k).gg->(ob k').gg->g.cr k=g.cr k'->k=k'
 lt:∀k,(ob k).gg->g.cr k<w.heap.size
def gM(g:cx)(ob:cT)(b:Nat):Prop:=∃k,(ob k).gg/\g.cr k=b
structure afo (g:cx) (w:World) (ob:cT) (c':Nat->Nat) (w':World):Prop where
 os:w'.os=w.os
 tape:w'.tape=w.tape
 output:w'.output=w.output
 size:w.heap.size<=w'.heap.size
 block:∀b,b<w.heap.size->¬gM g ob b->w'.heap[b]? =w.heap[b]?
 af:∀b,b<w.heap.size->¬gM g ob b->c' b=g.af b
def tJ(g:cx)(w:World)(ob:cT)(args:eb)(vs:List Value):Prop:=
 args.length=vs.length/\∀(i:Nat) (p:aT) (v:Value),args[i]? =some p->vs[i]? =some v->dZ g w ob p v
def Enters(P:Program)(f:Nat):Prop:=∃fn,P.funcs[f]? =some fn/\(fn.name== "runtime.NumGoroutine")=false/\fn.body.isNone=false
structure eh where
 p:(Nat->Nat)->World->Prop
 mono:∀{c c':Nat->Nat}{w w':World},gA c w c' w'->p c w->p c' w'
 ig:Nat->Nat->cK->(cK->Prop)->Prop:=λ_ _ _ _=>False
structure i9 (g:cx) (w:World) (ob:cT) (g':cx) (w':World) (cN:cT):Prop where
 iB:afo g w ob g'.af w'
 ext:gA g.af w g'.af w'
 heap:n2 g' w' cN
 step:gb g ob g' cN
 src:∀k,(cN k).gg->w.heap.size<=g'.cr k\/gM g ob (g'.cr k)
def lM(gl:eh)(P:Program)(f:Nat)(args:eb)(ob:cT)(a:aT)(cN:cT):Prop:=
 Enters P f/\∀(g:cx) (w:World) (vs:List Value),gl.p g.af w->n2 g w ob->tJ g w ob args vs->
  Calls P f vs.toArray w λe w'=>∃v g',e= .returned v/\i9 g w ob g' w' cN/\dZ g' w' cN a v
structure dg where
 dst:Option Nat
 guard:Option (Nat×Bool)
 ak:mA
 cb:List Nat
 bG:List Nat
 deriving Inhabited
def o1{α:Type}(o:Option α):List α:=match o with|some x=>[x]|none=>[]
def dO.eY{α:Type}:dO α->List α
 | .qa x=>[x]
 | .pick c a b=>[c,a,b]
 | .alloc _ _=>[]
 | .box _ x=>[x]
 | .build _ parts=>parts.map (·.2.2)
 | .oN _ _ _ _ parts _=>parts.map (·.2)
 | .pY _ _ _ _ parts=>parts.map (·.2)
 | .load _ _ a=>[a]
 | .store _ a v=>[a,v]
 | .p9 m k v=>[m,k,v]
 | .sg x=>[x]
 | .rR _ x y=>[x,y]
 | .rS _ x y=>[x,y]
 | .rZ _ x y=>[x,y]
 | .r5 _ x=>[x]
 | .pd _ x=>[x]
 | .rU _ x=>[x]
 | .qI x=>[x]
 | .p8 _ _ _ _ l c=>[l,c]
 | .sr x lo hi=>x::(o1 lo++o1 hi)
 | .ri _ x lo hi=>x::(o1 lo++o1 hi)
 | .pW _ x=>[x]
 | .r0 _ _ _ x=>[x]
 | .qU _ x i=>[x,i]
 | .sq x i=>[x,i]
 | .ext x _=>[x]
 | .len _ x=>[x]
 | .append _ _ _ s x _=>[s,x]
 | .q0 _ x y=>[x,y]
 | .call f args=>f::args
 | .hK f args _=>f::args
 | .gE _ x y=>[x,y]
 | .bits _ x y=>[x,y]
 | .sf _ cR=>cR
 | .qZ=>[]
 | .pD _ m k v=>[m,k,v]
 | .pC _ _ _ m k=>[m,k]
 | .n7 _ _ s x _=>[s,x]
 | .rO _ _ x i=>[x,i]
 | .ip=>[]
def md(ob:cT)(a:Bool)(p:aT):Option aT:=if a then jb ob p else some p
def mq(ob:cT)(a:Bool)(p:aT):nH:=if a then jN ob p else[]
def jE{α:Type}(ev:α->aT)(ob:cT):List Bool->List α->Option (eb×nH)
 |_,[]=>some ([],[])
 |[],x::xs=>match md ob true (ev x),jE ev ob [] xs with
  |some q,some (a,us)=>some (q::a,mq ob true (ev x)++us)
  |_,_=>none
 |b::bs,x::xs=>match md ob b (ev x),jE ev ob bs xs with
  |some q,some (a,us)=>some (q::a,mq ob b (ev x)++us)
  |_,_=>none
def put(aR:Nat->aT)(d:Option Nat)(v:aT):Nat->aT:=match d with|some d=>dk aR d v|none=>aR
def dO.looks{α:Type}:dO α->Bool
 | .load _ _ _=>true
 | .store _ _ _=>true
 | .ri _ _ _ _=>true
 | .qU _ _ _=>true
 | .qI _=>true
 | .oN _ _ _ _ _ _=>true
 | .append _ _ _ _ _ _=>true
 | .n7 _ _ _ _ _=>true
 | .call _ _=>true
 | .hK _ _ _=>true
 | .pD _ _ _ _=>true
 | .pC _ _ _ _ _=>true
 | .pY _ _ _ _ _=>true
 | .p9 _ _ _=>true
 |_=>false
def gj(bs k:Nat):Nat:=if bs<=k/\k<bs+4096 then k-bs else if k%4096<2048 then 4096 else 4098
def dO.off{α:Type}:dO α->Nat
 | .oN _ _ _ _ _ _=>2048
 | .p8 _ _ _ _ _ _=>2048
 | .append _ _ _ _ _ _=>2048
 | .n7 _ _ _ _ _=>2048
 |_=>0
def dO.mR{α:Type}:dO α->List α
 | .store _ a _=>[a]
 |r=>r.eY
def Obj.r8:Obj->List Nat
 | .box _ cs=>cs.flatMap aT.key
 |_=>[]
def dO.Rw{α:Type}:dO α->Bool
 | .hK _ _ _=>true
 |_=>false
def nb(rk:List Nat):List Nat:=rk.filterMap λc=>if 8192<=c then some (c-8192) else none
def ae4(bs:Nat)(rk wk:List Nat)(ob cN:cT)(us:nH)(xs:eb)(a:aT):Prop:=
 ∀c∈nb rk,c<4096/\c∉wk/\¬(ob (bs+c)).gg/\(∀u∈us,u.1≠bs+c)/\(∀k,bs+c∉(ob k).r8)/\(∀k,bs+c∉(cN k).r8)/\(∀p∈xs,bs+c∉p.dl)/\bs+c∉a.dl
def LA(bs:Nat)(bu:Bool)(o:dg)(ev:Operand->aT):Prop:=bu=true->o.ak.looks=true->∀x∈o.ak.mR,∀k∈(ev x).dl,gj bs k∈o.cb\/(4097∈o.cb/\o.ak.Rw=true)
def HW(bs:Nat)(bu:Bool)(o:dg)(us:nH):Prop:=bu=true->∀u∈us,gj bs u.1∈o.bG
def lu(aR:Nat->aT):Option (Nat×Bool)->Option Bool
 |none=>some true
 |some (t,a)=>match aR t with
  | .bo (.bool b)=>some (b==a)
  | .bD []=>some false
  |_=>none
def tk:Nat->Obj:=λ_=> .aF 0
def wH(gl:eh)(P:Program)(f:Nat)(args:eb)(a:aT):Prop:=lM gl P f args tk a tk/\a.dl=[]
def lO:aT->Option (Nat×eb)
 | .bo (.func (.func f) ⟨[]⟩ ⟨[]⟩)=>some (f,[])
 | .ey f cR=>some (f,cR)
 |_=>none
def mW(gl:eh)(P:Program)(bs:Nat)(bu:Bool)(o:dg)(s:cK)(K:cK->Prop):Prop:=
 match lu s.aI o.guard with
 |some true=>
  LA bs bu o (eX s.aI)/\
  match o.ak with
  | .call f args=>
    match eX s.aI f with
    | .bo (.func (.func b) _ _)=>
      match jE (eX s.aI) s.bC [] args with
      |some (ps,us)=>∃a,wH gl P b ps a/\HW bs bu o us/\K ⟨put s.aI o.dst a,fE s.bC us⟩
      |none=>False
    |_=>False
  | .hK f args c=>
    match lO (eX s.aI f) with
    |some (b,cR)=>
     match jE (eX s.aI) s.bC c args with
     |some (ps,us)=>∃a cN,lM gl P b (ps++cR) (fE s.bC us) a cN/\(bu=true->4097∈o.cb/\(∀k,cN k=s.bC k\/gj bs k∈o.bG)/\ae4 bs o.cb o.bG (fE s.bC us) cN us ((f::args).map (eX s.aI)++(ps++cR)) a)/\K ⟨put s.aI o.dst a,cN⟩
     |none=>False
    |none=>False
  |r=>
   match c9 (eX s.aI) s.bC (bs+r.off+o.dst.getD 0) r with
   |some (v,us)=>HW bs bu o us/\K ⟨put s.aI o.dst v,fE s.bC us⟩
   |none=>False
 |some false=>K ⟨put s.aI o.dst (.bD []),s.bC⟩
 |none=>False
def kc(gl:eh)(P:Program)(bs:Nat)(bu:Bool):List dg->cK->(cK->Prop)->Prop
 |[],s,K=>K s
 |o::os,s,K=>mW gl P bs bu o s λa=>kc gl P bs bu os a K
inductive hJ where
 |skip
 |region (bu:Bool) (bS:List dg)
 |seq (a b:hJ)
 |cond (c:Operand) (a b:hJ)
 |block (id:Nat) (b:hJ)
 |loop (b:hJ)
 |exit (id:Nat)
 |ret
 |mI (k:Nat)
 deriving Inhabited
inductive m4 where
 |normal
 |exit (id:Nat)
 |ret
 deriving DecidableEq,Inhabited
def tz(K:cK->Prop)(Q:m4->cK->Prop):m4->cK->Prop
 | .normal,s=>K s
 |e,s=>Q e s
def vR(id:Nat)(Q:m4->cK->Prop):m4->cK->Prop
 | .exit i,s=>if i=id then Q .normal s else Q (.exit i) s
 |e,s=>Q e s
def qq(K:cK->Prop)(s:cK):Prop:=∃a,(∀i,a i= .undef\/a i=s.aI i)/\K ⟨a,s.bC⟩
theorem axt{K:cK->Prop}{s:cK}(h:K s):qq K s:=⟨s.aI,λ_=> .inr rfl,h⟩
def rounds(F:(m4->cK->Prop)->cK->Prop)(Q:m4->cK->Prop):Nat->cK->Prop
 |0,_=>False
 |n+1,s=>qq (F (tz (rounds F Q n) Q)) s
def iw(gl:eh)(P:Program)(bs:Nat):hJ->(m4->cK->Prop)->cK->Prop
 | .skip,Q,s=>Q .normal s
 | .region bu bS,Q,s=>kc gl P bs bu bS s (Q .normal)
 | .seq a b,Q,s=>iw gl P bs a (tz (qq (iw gl P bs b Q)) Q) s
 | .cond c a b,Q,s=>match eX s.aI c with
   | .bo (.bool true)=>iw gl P bs a Q s
   | .bo (.bool false)=>iw gl P bs b Q s
   |_=>False
 | .block id b,Q,s=>iw gl P bs b (vR id Q) s
 | .loop b,Q,s=>∃n,rounds (iw gl P bs b) Q n s
 | .exit id,Q,s=>Q (.exit id) s
 | .ret,Q,s=>Q .ret s
 | .mI k,Q,s=>gl.ig k bs s (Q .normal)
end
section
variable{n B:Nat}{O:Nat->Prop}{gl:eh}{ph:cx×cT×World×List Deferred}{g:cx}{s:cK}{a:Act}{w:World}
structure cL (gl:eh) (ph:cx×cT×World×List Deferred) (n B:Nat) (O:Nat->Prop) (g:cx) (s:cK) (a:Act) (w:World):Prop where
 size:a.tmps.size=n
 defers:a.defers=ph.2.2.2
 jJ:B<=w.heap.size
 aI:∀i,dZ g w s.bC (s.aI i) (a.tmps.getD i undef)
 h1:∀k,l5 g w s.bC k (s.bC k)
 inj:∀k k',(s.bC k).gg->(s.bC k').gg->g.cr k=g.cr k'->k=k'
 hP:∀k,(s.bC k).gg->(B<=g.cr k\/O (g.cr k))/\g.cr k<w.heap.size
 mO:gb ph.1 ph.2.1 g s.bC/\gA ph.1.af ph.2.2.1 g.af w
 oR:gl.p g.af w
theorem cL.qq(h:cL gl ph n B O g s a w){b:Nat->aT}(c:∀i,b i= .undef\/b i=s.aI i):cL gl ph n B O g ⟨b,s.bC⟩ a w:=
 ⟨h.size,h.defers,h.jJ,λi=>by rcases c i with e|e;exact .inl e;show dZ g w s.bC (b i) _;rw[e];exact h.aI i,h.h1,h.inj,h.hP,h.mO,h.oR⟩
theorem cL.v3{g':cx}{w':World}(h:cL gl ph n B O g s a w)(cN:cT)(nI:Nat->Prop)(d:gA g.af w g'.af w')(q:gb g s.bC g' cN)
 (o:∀k,¬nI k->cN k=s.bC k)
 (p:∀k,¬nI k->(s.bC k).gg->g'.cr k=g.cr k/\g'.cap k=g.cap k/\g'.af (g.cr k)=g.af (g.cr k)/\w'.heap[g.cr k]? =w.heap[g.cr k]?)
 (l:∀k,nI k->(cN k).gg->l5 g' w' cN k (cN k)/\(B<=g'.cr k\/O (g'.cr k))/\g'.cr k<w'.heap.size/\∀b,b≠k->(cN b).gg->g'.cr b≠g'.cr k):
 cL gl ph n B O g' ⟨s.aI,cN⟩ a w':=by
 refine⟨h.size,h.defers,jv h.jJ d.size,λi=>(h.aI i).step d q,λk=>?_,λk b c r t=>?_,λk c=>?_,⟨h.mO.1.trans q,h.mO.2.trans d⟩,gl.mono d h.oR⟩;rcases yJ (nI k) with e|e;rcases yJ (cN k).gg with c|c;exact(l k e c).1;show l5 g' w' cN k (cN k);cases ho:cN k<;>simp_all [Obj.gg,l5];show l5 g' w' cN k (cN k);rw[o k e];exact l5.ed d q (p k e) (h.h1 k);by_cases u:k=b;exact u;rcases yJ (nI k) with e|e;exact absurd t.symm ((l k e c).2.2.2 b (λx=>u x.symm) r);rcases yJ (nI b) with e'|e';exact absurd t ((l b e' r).2.2.2 k u c);have j:(s.bC k).gg:=by rw[<-o k e];exact c
 have y:(s.bC b).gg:=by rw[<-o b e'];exact r
 have z:g'.cr k=g'.cr b:=t;rw[(p k e j).1,(p b e' y).1]at z;exact h.inj k b j y z;rcases yJ (nI k) with e|e;exact⟨(l k e c).2.1,(l k e c).2.2.1⟩;have j:(s.bC k).gg:=by rw[<-o k e];exact c
 show(B<=g'.cr k\/O (g'.cr k))/\g'.cr k<w'.heap.size;rw[(p k e j).1];exact⟨(h.hP k j).1,pi (h.hP k j).2 d.size⟩
theorem cL.put{n B:Nat}{O:Nat->Prop}{gl:eh}{ph:cx×cT×World×List Deferred}{g:cx}{s:cK}{a:Act}{w:World}(h:cL gl ph n B O g s a w)(d:Option Nat)(hd:∀t,d=some t->t<n){p:aT}{v:Value}(b:dZ g w s.bC p v):
 cL gl ph n B O g ⟨put s.aI d p,s.bC⟩ (a.put d v) w:=by
 cases d with
 |none=>exact⟨h.size,h.defers,h.jJ,h.aI,h.h1,h.inj,h.hP,h.mO,h.oR⟩
 |some t=>have c:=hd t rfl;refine⟨by simp[Act.put,h.size],by simp[Act.put,h.defers],h.jJ,λi=>?_,h.h1,h.inj,h.hP,h.mO,h.oR⟩;simp only[Hf.put,Act.put,dk];by_cases e:i=t;subst e;simp[l1,h.size,c];exact b;have:=h.aI i;simp only[e,hV];rw[l1,AN,dU (λx=>e x.symm),<-l1];exact this
end
section
variable{t:TypeId}{i:TypeInfo}{n:Nat}{v u:Value}{cs:eb}
section
variable{P:Program}{w:World}
theorem run_newObj(o:Go.Obj):(newObj o).run P w= .ok w.heap.size (w.alloc o):=rfl
theorem run_typeInfo(h:P.info? t=some i):(typeInfo t).run P w= .ok i w:=by simp only[typeInfo,fy,program,Sem.run,fU,h];rfl
theorem HC{z:Value}(h:P.info? t=some i)(b:i.zero=some z):(zeroValue t).run P w= .ok z w:=by simp only[zeroValue,fy,run_typeInfo h,fU,b];rfl
theorem run_sizeOf(h:P.info? t=some i):(sizeOf t).run P w= .ok i.size w:=by simp only[sizeOf,fy,run_typeInfo h,fU];rfl
def wQ:TypeDesc->Bool
 | .struct _=>true
 | .array _ _=>true
 |_=>false
theorem yx{d:TypeDesc}(h:P.underlying t=some d):(isAgg t).run P w= .ok (wQ d) w:=by simp only[isAgg,fy,i7 h,fU];cases d<;>rfl
def vm(P:Program)(t:TypeId)(b:Bool)(n:Nat):Prop:=
 ∃i d,P.info? t=some i/\i.size=n/\P.underlying t=some d/\wQ d=b/\(b=false->n=1)
theorem add_lit(b o n:Nat):(⟨b,o,none⟩:Addr).add n=⟨b,o+n,none⟩:=by unfold Addr.add;split<;>simp_all
theorem avz(c:vm P t true n)(b o:Nat)(vs:List Value)(e:vs.length=n)
 (h:∀(j:Nat) (v:Value),vs[j]? =some v->w.cell? ⟨b,o+j,none⟩=some v):(loadVar t ⟨b,o,none⟩).run P w= .ok (.agg vs.toArray) w:=by
 obtain⟨i,d,hi,k,l,hd,_⟩:=c;have p:=run_loadCells_list (P:=P) w ⟨b,o,none⟩ vs (λj v q=>by rw[add_lit];exact h j v q);simp only[loadVar,fy,yx l,hd,fU,gF,run_sizeOf hi,k,<-e,p,g7]
theorem avA(b:vm P t false n)(a:Addr)(v:Value)(c:w.cell? a=some v):(loadVar t a).run P w= .ok v w:=by obtain⟨i,d,hi,h,e,hd,_⟩:=b;simp only[loadVar,fy,yx e,hd,fU,io,hV,load,Sem.run,c]
theorem adU{h:Bool}(j:vm P t h n)(g o T:Nat)(b:Array Value)(v:Value)(k:w.heap[g]? =some (.cells b T (0,0)))(c:v.cells.size=n)
 (r:o+n<=b.size)(l:∀u∈v.cells.toList,u.oneCell'=true):
 (storeVar t ⟨g,o,none⟩ v).run P w= .ok () (w.setRow g (b.toList.take o++v.cells.toList++b.toList.drop (o+n)).toArray):=by
 obtain⟨i,d,hi,p,x,hd,_⟩:=j;have e:=run_storeCells_at P g o T v.cells.toList 0 b w k (by simp[c];omega) l;have q:v.cells.toList.length=n:=by simp[c]
 simp only[storeVar,fy,run_sizeOf hi,fU,p,c,ne_eq,not_true_eq_false,hV];simp only[rq,q]at e;exact e
theorem HD(w:World)(g:Nat)(x:Array Value):(w.setRow g x).os=w.os/\(w.setRow g x).tape=w.tape/\(w.setRow g x).output=w.output/\(w.setRow g x).heap.size=w.heap.size:=by simp[World.setRow]
end
section
variable{P:Program}{o:Oper}{a:Act}{w w':World}{K:Act->World->Prop}{Q:Exit->Act->World->Prop}
theorem AJ(h:(execOp a.eval o).run P w= .ok (.value v) w')(b:K (a.put o.dst v) w'):o.wp P a w K Q:=by simp only[Oper.wp,h,Oper.upon];exact b
theorem M8(h:(execOp a.eval o).run P w= .ok .skip w')(b:K (a.put o.dst undef) w'):o.wp P a w K Q:=by simp only[Oper.wp,h,Oper.upon];exact b
theorem aeX{f:FuncId}{args:Array Value}(h:(execOp a.eval o).run P w= .ok (.enter f args) w')
 (c:Calls P f args w' λe b=>∃v,e= .returned v/\K (a.put o.dst v) b):o.wp P a w K Q:=by
 simp only[Oper.wp,h,Oper.upon];refine c.mono ?_;rintro e b ⟨v,rfl,d⟩;exact d
end
section
variable{g:cx}{w:World}{ob:cT}
theorem fM.fY{c:Nat->Nat}(h:fM c w (.bo u) v):v=u/\iS u=true:=by cases h with|bo h=>exact⟨rfl,h⟩
theorem dZ.fY{u v:Value}(h:dZ g w ob (.bo u) v):v=u/\iS u=true:=by rcases h with h|(h|h)|⟨_,_,h,_⟩|⟨_,_,h,_⟩|⟨_,_,_,h,_⟩;cases h;exact h.fY;exact h.elim;cases h;cases h;cases h
theorem dZ.kz{p:aT}(h:dZ g w ob p v)(b:p.key≠[]):m5 g ob p v:=by rcases h with h|(h|h)|⟨_,_,h,_⟩|⟨_,_,h,_⟩|⟨_,_,_,h,_⟩;subst h;simp[aT.key,aT.cJ]at b;cases h<;>simp[aT.key,aT.cJ]at b;exact h;subst h;simp[aT.key,aT.cJ]at b;subst h;simp[aT.key,aT.cJ]at b;subst h;simp[aT.key,aT.cJ]at b
theorem dZ.x7{sz:Nat}{es:l7}(h:dZ g w ob (.aN sz es) v):fM g.af w (.aN sz es) v:=by rcases h with h|(h|h)|⟨_,_,h,_⟩|⟨_,_,h,_⟩|⟨_,_,_,h,_⟩;cases h;exact h;exact h.elim;cases h;cases h;cases h
theorem dZ.Cw{off:Nat}(h:dZ g w ob (.gk cs off) v):fM g.af w (.gk cs off) v:=by rcases h with h|(h|h)|⟨_,_,h,_⟩|⟨_,_,h,_⟩|⟨_,_,_,h,_⟩;cases h;exact h;exact h.elim;cases h;cases h;cases h
theorem dZ.Kj{f:Nat}{cR:eb}(h:dZ g w ob (.ey f cR) v):m5 g ob (.ey f cR) v:=by rcases h with h|(h|h)|⟨_,_,h,_⟩|⟨_,_,h,_⟩|⟨_,_,_,h,_⟩;cases h;cases h;exact h;cases h;cases h;cases h
theorem dZ.wR(h:dZ g w ob (.agg cs) v):
 ∃vs:List Value,v= .agg vs.toArray/\cs.length=vs.length/\∀(j:Nat) (q:aT) (u:Value),cs[j]? =some q->vs[j]? =some u->q.iN=true/\g2 g w ob q u:=by
 rcases h with h|(h|h)|⟨hu,vs,h,c,d,e⟩|⟨_,_,h,_⟩|⟨_,_,_,h,_⟩;cases h;cases h with
 |agg k l p=>exact⟨_,rfl,k,λj q u b r=>⟨l j q b,.inl (p j q u b r)⟩⟩
 exact h.elim;cases h;exact⟨vs,c,d,e⟩;cases h;cases h
theorem dZ.aeD{ps:eb}(h:dZ g w ob (.bD ps) v)(b:ps.head?≠some .undef):
 ∃vs:List Value,v= .tuple vs.toArray/\ps.length=vs.length/\∀(j:Nat) (q:aT) (u:Value),ps[j]? =some q->vs[j]? =some u->g2 g w ob q u\/TW g w ob q u:=by
 rcases h with h|(h|h)|⟨_,_,h,_⟩|⟨hu,vs,h,c,d,e⟩|⟨_,_,_,h,_⟩;cases h;cases h;exact h.elim;cases h;cases h;exact⟨vs,c,d,e⟩;cases h;exact absurd rfl b
theorem ad1(h:iS v=true):v.oneCell'=true:=by cases v<;>simp_all [iS,Value.oneCell']
theorem g2.sh{q:aT}(c:q.iN=true)(h:g2 g w ob q u):u.oneCell'=true:=by
 rcases h with h|h;cases h with
 |bo h=>exact ad1 h
 |aN=>rfl
 |gk=>rfl
 |agg=>simp[aT.iN]at c
 cases q with
 |aQ k s off=>obtain⟨_,a,rfl,_⟩:=h;rfl
 |eP k s i off=>obtain⟨_,a,rfl,_⟩:=h;rfl
 |aV k s off len=>obtain⟨_,b,o,d,rfl,_⟩:=h;rfl
 |fX k s=>obtain⟨_,b,rfl,_⟩:=h;rfl
 |ey f cR=>obtain⟨_,vs,rfl,_⟩:=h;rfl
 |_=>exact h.elim
theorem yl(h:v.oneCell'=true):v.cells= #[v]:=by cases v<;>simp_all [Value.oneCell',Value.cells]
theorem dZ.cells{p:aT}{v:Value}{cs:eb}(h:dZ g w ob p v)(d:p.cells=some cs):
 v.cells.toList.length=cs.length/\∀(j:Nat) (q:aT),cs[j]? =some q->∃u,v.cells.toList[j]? =some u/\q.iN=true/\g2 g w ob q u:=by
 cases p with
 |agg hu=>
  obtain rfl:hu=cs:=by simpa[aT.cells] using d
  obtain⟨vs,rfl,x,y⟩:=h.wR;refine⟨by simp[Value.cells,x],λj q b=>?_⟩;have r:j<vs.length:=by have:=(g8.1 b).1;omega
  exact⟨vs[j],by simp[Value.cells,r],y j q _ b (fo r)⟩
 |undef=>simp[aT.cells]at d
 |bD=>simp[aT.cells]at d
 |bo u=>
  obtain rfl:[aT.bo u]=cs:=by simpa[aT.cells] using d
  obtain⟨rfl,l⟩:=h.fY;rw[yl (ad1 l)];refine⟨rfl,λj q b=>?_⟩
  match j,b with
  |0,b=>obtain rfl:aT.bo _=q:=by simpa using b
        exact⟨_,rfl,l,.inl (.bo l)⟩
 |aN sz es=>
  obtain rfl:[aT.aN sz es]=cs:=by simpa[aT.cells] using d
  have c:g2 g w ob (.aN sz es) v:= .inl h.x7;rw[yl (c.sh rfl)];refine⟨rfl,λj q b=>?_⟩
  match j,b with
  |0,b=>obtain rfl:aT.aN sz es=q:=by simpa using b
        exact⟨_,rfl,rfl,c⟩
 |gk e off=>
  obtain rfl:[aT.gk e off]=cs:=by simpa[aT.cells] using d
  have c:g2 g w ob (.gk e off) v:= .inl h.Cw;rw[yl (c.sh rfl)];refine⟨rfl,λj q b=>?_⟩
  match j,b with
  |0,b=>obtain rfl:aT.gk e off=q:=by simpa using b
        exact⟨_,rfl,rfl,c⟩
 |aQ k s off=>
  obtain rfl:[aT.aQ k s off]=cs:=by simpa[aT.cells] using d
  have c:g2 g w ob (.aQ k s off) v:= .inr (h.kz (by simp[aT.key,aT.cJ]));rw[yl (c.sh rfl)];refine⟨rfl,λj q b=>?_⟩
  match j,b with
  |0,b=>obtain rfl:aT.aQ k s off=q:=by simpa using b
        exact⟨_,rfl,rfl,c⟩
 |aV k s off len=>
  obtain rfl:[aT.aV k s off len]=cs:=by simpa[aT.cells] using d
  have c:g2 g w ob (.aV k s off len) v:= .inr (h.kz (by simp[aT.key,aT.cJ]));rw[yl (c.sh rfl)];refine⟨rfl,λj q b=>?_⟩
  match j,b with
  |0,b=>obtain rfl:aT.aV k s off len=q:=by simpa using b
        exact⟨_,rfl,rfl,c⟩
 |eP k s i off=>
  obtain rfl:[aT.eP k s i off]=cs:=by simpa[aT.cells] using d
  have c:g2 g w ob (.eP k s i off) v:= .inr (h.kz (by simp[aT.key,aT.cJ]));rw[yl (c.sh rfl)];refine⟨rfl,λj q b=>?_⟩
  match j,b with
  |0,b=>obtain rfl:aT.eP k s i off=q:=by simpa using b
        exact⟨_,rfl,rfl,c⟩
 |fX k s=>
  obtain rfl:[aT.fX k s]=cs:=by simpa[aT.cells] using d
  have c:g2 g w ob (.fX k s) v:= .inr (h.kz (by simp[aT.key,aT.cJ]));rw[yl (c.sh rfl)];refine⟨rfl,λj q b=>?_⟩
  match j,b with
  |0,b=>obtain rfl:aT.fX k s=q:=by simpa using b
        exact⟨_,rfl,rfl,c⟩
 |ey f cR=>
  obtain rfl:[aT.ey f cR]=cs:=by simpa[aT.cells] using d
  have c:g2 g w ob (.ey f cR) v:= .inr h.Kj;rw[yl (c.sh rfl)];refine⟨rfl,λj q b=>?_⟩
  match j,b with
  |0,b=>obtain rfl:aT.ey f cR=q:=by simpa using b
        exact⟨_,rfl,rfl,c⟩
end
def alW:Value->Bool
 | .agg cs=>cs.toList.all iS
 |v=>iS v
def c6:Operand->Bool
 | .const v=>alW v
 |_=>true
theorem cL.ga{B:Nat}{O:Nat->Prop}{gl:eh}{ph:cx×cT×World×List Deferred}{g:cx}{s:cK}{a:Act}{w:World}(h:cL gl ph n B O g s a w){x:Operand}(c:c6 x=true):dZ g w s.bC (eX s.aI x) (a.eval x):=by
 cases x with
 |tmp t=>exact h.aI t
 |const v=>
  cases v with
  |agg cs=>
   refine .inr (.inl (.inl ?_));have d:cs.toList.all iS=true:=c;have e:(Value.agg cs)=Value.agg cs.toList.toArray:=by simp
   show fM g.af w (aT.agg (cs.toList.map aT.bo)) (Value.agg cs);rw[e];refine .agg (by simp) (λj p k=>?_) (λj p v l b=>?_);simp only[lx,jG]at k;obtain⟨v,b,rfl⟩:=k;exact kg.1 d v (eH b);simp only[lx,jG]at l;obtain⟨r,q,rfl⟩:=l;rw[b]at q;cases q;exact .bo (kg.1 d v (eH b))
  |_=>exact .inr (.inl (.inl (.bo c)))
 |global g'=>exact .inl rfl
 |func f=>exact .inr (.inl (.inl (.bo rfl)))
end
section
variable{p:aT}{v:Value}{op:BinOp}{x y:Operand}
def uj(neg:Bool):BinOp:=if neg then .neq else .eql
def y3(P:Program)(t:TypeId)(sz:Nat)(zero:List Value):Prop:=
 ∃i z,P.info? t=some i/\i.zero=some z/\z.cells.toList=zero/\i.size=sz/\zero.length=sz/\zero.all iS=true
def Eg(b:Nat->Option (Nat×Nat)):List (Nat×Operand)->List (Nat×Nat×Operand)->Prop
 |[],[]=>True
 |(i,x)::r,(off,n,y)::q=>b i=some (off,n)/\x=y/\c6 x=true/\Eg b r q
 |_,_=>False
def T3(P:Program)(t:TypeId)(parts:List (Nat×Operand))(ps:List (Nat×Nat×Operand)):Prop:=
 (∃b:Array Field,P.underlying t=some (.struct b)/\(∀(k:Nat) (f:Field),b[k]? =some f->(P.info? f.type).isSome=true)/\
  Eg (λk=>(b[k]?).bind λf=>(P.info? f.type).map λi=>(f.offset,i.size)) parts ps)\/
 (∃(n:Nat) (e:TypeId) (i:TypeInfo),P.underlying t=some (.array n e)/\P.info? e=some i/\Eg (λk=>some (k*i.size,i.size)) parts ps)
def te:Nat->TypeDesc->Bool
 |0,.int _=>true
 |1,.string=>true
 |2,.bool=>true
 |_,_=>false
def NH(P:Program)(t:TypeId):Prop:=∃f1 f2,P.underlying t=some (.struct #[f1,f2])/\f1.name≠ "_" /\f2.name≠ "_" /\f1.offset=0/\f2.offset=1/\P.underlying f1.type=some .string/\P.underlying f2.type=some .string
def pR(P:Program)(o:Oper):mA->Prop
 | .qa x=>(o.op= .move x\/o.op= .assign x)/\c6 x=true
 | .pick c a b=>o.op= .pick c a b/\c6 c=true/\c6 a=true/\c6 b=true
 | .alloc t zero=>o.op= .alloc t/\t<65536/\o.dst.isSome=true/\∃sz,y3 P t sz zero
 | .box t x=>o.op= .box t x/\t<65536/\o.dst.isSome=true/\c6 x=true
 | .build zero ps=>∃t parts sz,o.op= .build t parts/\y3 P t sz zero/\T3 P t parts.toList ps
 | .oN e sz zero len ps _=>∃t parts,o.op= .buildSlice t len parts/\o.dst.isSome=true/\P.underlying t=some (.slice e)/\y3 P e sz zero/\parts.toList=ps/\0<sz/\len*sz<=16777216/\ps.all (λp=>c6 p.2)=true
 | .pY e sz zero len ps=>∃t parts,o.op= .buildSlice t len parts/\o.dst.isSome=true/\P.underlying t=some (.slice e)/\y3 P e sz zero/\parts.toList=ps/\0<sz/\len*sz<=16777216/\ps.all (λp=>c6 p.2)=true
 | .load r n x=>∃t,o.op= .load t x/\vm P t r n/\c6 x=true
 | .store n x v=>∃t r,o.op= .store t x v/\vm P t r n/\c6 x=true/\c6 v=true
 | .p9 m k v=>∃t j q,(o.op= .mapUpdate t m k v\/o.op= .insert t m k v)/\P.underlying t=some (.map j q)/\NH P j/\c6 m=true/\c6 k=true/\c6 v=true
 | .sg x=>o.op= .nilCheck x/\c6 x=true
 | .rR op x y=>∃t h,o.op= .binOp op t x y h/\c6 x=true/\c6 y=true
 | .rS neg x y=>∃t h,o.op= .binOp (uj neg) t x y h/\P.underlying t=some .bool/\c6 x=true/\c6 y=true
 | .rZ neg x y=>∃t h f1 f2,o.op= .binOp (uj neg) t x y h/\P.underlying t=some (.struct #[f1,f2])/\f1.name≠ "_" /\f2.name≠ "_" /\f1.offset=0/\f2.offset=1/\
  P.underlying f1.type=some .string/\P.underlying f2.type=some .string/\P.stoodInHeld t=false/\P.eqGuardType P.depth t=false/\c6 x=true/\c6 y=true
 | .r5 neg x=>∃t h e,o.op= .binOp (uj neg) t x (.const (.slice none 0 0)) h/\P.underlying t=some (.slice e)/\c6 x=true
 | .pd op x=>∃t,o.op= .unOp op t x/\c6 x=true
 | .rU k x=>∃s t d,o.op= .convert s t x/\P.underlying s=some d/\P.underlying t=some (.int k)/\c6 x=true
 | .qI x=>∃s t e,o.op= .convert s t x/\P.underlying s=some (.slice e)/\P.underlying e=some (.int .u8)/\P.underlying t=some .string/\c6 x=true
 | .p8 e sz bytes zero l c=>∃t i,o.op= .makeSlice t l c/\o.dst.isSome=true/\P.underlying t=some (.slice e)/\y3 P e sz zero/\P.info? e=some i/\i.bytes=bytes/\0<sz/\c6 l=true/\c6 c=true
 | .sr x lo hi=>∃t,o.op= .slice t x lo hi none/\P.underlying t=some .string/\c6 x=true/\(o1 lo++o1 hi).all c6=true
 | .ri sz x lo hi=>∃t e i,o.op= .slice t x lo hi none/\P.underlying t=some (.slice e)/\P.info? e=some i/\i.size=sz/\c6 x=true/\(o1 lo++o1 hi).all c6=true
 | .pW off x=>∃t u k f i,o.op= .fieldAddr t x k/\P.underlying t=some (.struct u)/\u[k]? =some f/\f.offset=off/\P.info? f.type=some i/\i.size≠0/\c6 x=true
 | .r0 r off n x=>∃t u k f,o.op= .field t x k/\P.underlying t=some (.struct u)/\u[k]? =some f/\f.offset=off/\vm P f.type r n/\c6 x=true
 | .qU sz x i=>∃t e A,o.op= .indexAddr t x i/\P.underlying t=some (.slice e)/\P.info? e=some A/\A.size=sz/\c6 x=true/\c6 i=true
 | .sq x i=>∃t,o.op= .index t x i/\P.underlying t=some .string/\c6 x=true/\c6 i=true
 | .ext x i=>o.op= .extract x i/\c6 x=true
 | .len kq x=>∃t,o.op= .call {callee:= .builtin .len,args:= #[x],argTypes:= #[t]}/\(if kq then P.underlying t=some .string else∃e,P.underlying t=some (.slice e))/\c6 x=true
 | .append e sz bytes s x _=>∃t i,o.op= .call {callee:= .builtin .append,args:= #[s,x],argTypes:= #[t,t]}/\o.dst.isSome=true/\P.underlying t=some (.slice e)/\P.info? e=some i/\i.bytes=bytes/\
  (∃z,i.zero=some z/\z.cells.size=sz)/\i.size=sz/\0<sz/\c6 s=true/\c6 x=true
 | .q0 F x y=>∃C,o.op= .call {callee:= .builtin (if F then .max else .min),args:= #[x,y],argTypes:=C}/\c6 x=true/\c6 y=true
 | .call f args=>∃C,o.op= .call {callee:= .value f,args:=args.toArray,argTypes:=C}/\c6 f=true/\args.all c6=true
 | .hK f args _=>∃C,o.op= .call {callee:= .value f,args:=args.toArray,argTypes:=C}/\c6 f=true/\args.all c6=true
 | .gE op x y=>∃t h,o.op= .binOp op t x y h/\c6 x=true/\c6 y=true
 | .bits op x y=>∃t h,o.op= .binOp op t x y h/\c6 x=true/\c6 y=true
 | .sf f cR=>o.op= .makeFunc (.func f) #[] cR.toArray/\cR.all c6=true
 | .qZ=>∃t,o.op= .makeMap t none/\o.dst.isSome=true
 | .pD D m k v=>∃t j q d,(o.op= .mapUpdate t m k v\/o.op= .insert t m k v)/\P.underlying t=some (.map j q)/\P.underlying j=some d/\te D d=true/\c6 m=true/\c6 k=true/\c6 v=true
 | .pC D G zero m k=>∃t j q d i,o.op= .lookup t m k G/\P.underlying t=some (.map j q)/\P.underlying j=some d/\te D d=true/\P.info? q=some i/\i.zero=some zero/\iS zero=true/\c6 m=true/\c6 k=true
 | .n7 e bytes s x _=>∃t E i z,o.op= .call {callee:= .builtin .append,args:= #[s,x],argTypes:= #[t,E]}/\o.dst.isSome=true/\P.underlying t=some (.slice e)/\P.underlying E=some .string/\P.info? e=some i/\i.bytes=bytes/\
  i.zero=some z/\z.cells.size=1/\i.size=1/\c6 s=true/\c6 x=true
 | .rO n sz x i=>∃t e A,o.op= .indexAddr t x i/\P.underlying t=some (.array n e)/\P.info? e=some A/\A.size=sz/\c6 x=true/\c6 i=true
 | .ip=>True
structure eM (B:Nat) (O:Nat->Prop) (af:Nat->Nat) (w:World) (c':Nat->Nat) (w':World):Prop where
 os:w'.os=w.os
 tape:w'.tape=w.tape
 output:w'.output=w.output
 size:w.heap.size<=w'.heap.size
 block:∀b,b<B->¬O b->w'.heap[b]? =w.heap[b]?
 af:∀b,b<B->¬O b->c' b=af b
theorem eM.refl(B:Nat)(O:Nat->Prop)(c:Nat->Nat)(w:World):eM B O c w c w:=⟨rfl,rfl,rfl,dn _,λ_ _ _=>rfl,λ_ _ _=>rfl⟩
theorem eM.trans{B:Nat}{O:Nat->Prop}{c c' e:Nat->Nat}{w w' i:World}(h:eM B O c w c' w')(k:eM B O c' w' e i):eM B O c w e i:=
 ⟨k.os.trans h.os,k.tape.trans h.tape,k.output.trans h.output,jv h.size k.size,λb d ho=>(k.block b d ho).trans (h.block b d ho),λb d ho=>(k.af b d ho).trans (h.af b d ho)⟩
section
variable{P:Program}{n B bs:Nat}{O:Nat->Prop}{gl:eh}{ph:cx×cT×World×List Deferred}{g:cx}{s:cK}{a:Act}{w:World}{o:Oper}{K:Act->World->Prop}{Q:Exit->Act->World->Prop}
def qD(gl:eh)(ph:cx×cT×World×List Deferred)(n B:Nat)(O:Nat->Prop)(g:cx)(w:World)(c:cK)(K:Act->World->Prop):Prop:=
 ∀g' b w',cL gl ph n B O g' c b w'->eM B O g.af w g'.af w'->K b w'
abbrev iL (gl:eh) (ph:cx×cT×World×List Deferred) (n B:Nat) (O:Nat->Prop) (g:cx) (s:cK) (a:Act) (w:World) (P:Program) (o:Oper) (K:Act->World->Prop) (Q:Exit->Act->World->Prop) (bs:Nat) (r:mA):Prop:=
 ∀{p:aT}{us:nH},cL gl ph n B O g s a w->(∀t,o.dst=some t->t<n)->pR P o r->c9 (eX s.aI) s.bC (bs+o.dst.getD 0) r=some (p,us)->qD gl ph n B O g w ⟨put s.aI o.dst p,fE s.bC us⟩ K->o.wp P a w K Q
theorem g6(h:cL gl ph n B O g s a w)(hd:∀t,o.dst=some t->t<n)(b:(execOp a.eval o).run P w= .ok (.value v) w)(c:dZ g w s.bC p v)
 (d:qD gl ph n B O g w ⟨put s.aI o.dst p,s.bC⟩ K):o.wp P a w K Q:=
 AJ b (d g _ w (h.put o.dst hd c) (eM.refl _ _ _ _))
theorem dZ.bo{g:cx}{w:World}{ob:cT}{v:Value}(h:iS v=true):dZ g w ob (.bo v) v:= .inr (.inl (.inl (.bo h)))
theorem avK{x y:Value}(h:kA op x y=some v):iS v=true:=by
 unfold kA at h;split at h
 ·split at h
  ·split at h<;>(try split at h)<;>first|(cases h;done)|(cases h;rfl)|(simp at h)
  simp at h
 ·split at h<;>(try split at h)<;>first|(cases h;done)|(cases h;rfl)|(simp at h)
 simp at h
theorem avC(op:BinOp)(t:TypeId)(c d:Operand)(x y v:Value)(h:kA op x y=some v):
 (do eqGuard op t c d x y;binOp op t x y:Sem Value).run P w= .ok v w:=by
 unfold kA at h;split at h
 ·rename_i k a j b;split at h
  ·rename_i e;subst e;split at h<;>(try split at h)<;>first|(cases h;done)|(cases h;simp[eqGuard,binOp,Op.intArith,Op.intDiv,Op.intCmp, *])|(simp at h)
  simp at h
 ·split at h<;>(try split at h)<;>first|(cases h;done)|(cases h;simp[eqGuard,binOp,Op.stringOp, *];done)|(cases h;simp[eqGuard,binOp,Op.stringOp];rename_i i;simp at i;omega)|(simp at h)
 simp at h
theorem aws(h:cL gl ph n B O g s a w)(hd:∀t,o.dst=some t->t<n)(b:pR P o (.qa x))(c:qD gl ph n B O g w ⟨put s.aI o.dst (eX s.aI x),s.bC⟩ K):o.wp P a w K Q:=by obtain⟨ho,d⟩:=b;refine g6 h hd (v:=a.eval x) ?_ (h.ga d) c;rcases ho with ho|ho<;>simp only[execOp,ho]<;>rfl
theorem awv{c:Operand}(h:cL gl ph n B O g s a w)(hd:∀t,o.dst=some t->t<n)(k:pR P o (.pick c x y))
 (b:c9 (eX s.aI) s.bC (bs+o.dst.getD 0) (.pick c x y)=some (p,[]))(j:qD gl ph n B O g w ⟨put s.aI o.dst p,s.bC⟩ K):o.wp P a w K Q:=by
 obtain⟨ho,l,q,r⟩:=k;have e:=h.ga l;simp only[c9]at b;split at b;rename_i d;rw[d]at e;have i:=e.fY.1;cases b;refine g6 h hd (v:=a.eval x) ?_ (h.ga q) j;simp only[execOp,ho,i,asBool,fy,g7,fU,gF];rename_i d;rw[d]at e;have i:=e.fY.1;cases b;refine g6 h hd (v:=a.eval y) ?_ (h.ga r) j;simp only[execOp,ho,i,asBool,fy,g7,fU,io,hV];simp at b
theorem avZ:iL gl ph n B O g s a w P o K Q bs (.rR op x y):=by
 intro p us h hd i b j;obtain⟨t,A,ho,k,l⟩:=i;have d:=h.ga k;have e:=h.ga l;simp only[c9]at b;split at b;rename_i u v q r;rw[q]at d;rw[r]at e;cases c:kA op u v with
 |none=>simp[c]at b
 |some z=>simp only[c,jH,dN,h4]at b;obtain⟨rfl,rfl⟩:=b;refine g6 h hd (v:=z) ?_ (.bo (avK c)) j;simp only[execOp,ho,d.fY.1,e.fY.1];have:=avC (P:=P) (w:=w) op t x y u v z c;simp only[fy]at this ⊢;rw[this];rfl
 simp at b
theorem awz:iL gl ph n B O g s a w P o K Q bs (.gE op x y):=by
 intro p us h hd j c k;obtain⟨t,C,ho,l,q⟩:=j;have d:=h.ga l;have e:=h.ga q;simp only[c9]at c;split at c;rename_i u v r A;rw[r]at d;rw[A]at e;cases b:Dw op u v with
 |none=>simp[b]at c
 |some z=>
  simp only[b,jH,dN,h4]at c;obtain⟨rfl,rfl⟩:=c;have i:iS z=true/\(do eqGuard op t x y u v;binOp op t u v:Sem Value).run P w= .ok z w:=by unfold Dw at b;split at b;split at b;simp at b;split at b;cases b;exact⟨rfl,by simp[eqGuard,binOp,Op.shift, *]⟩;cases b;exact⟨rfl,by simp[eqGuard,binOp,Op.shift, *]⟩;simp at b;simp at b
  refine g6 h hd (v:=z) ?_ (.bo i.1) k;simp only[execOp,ho,d.fY.1,e.fY.1];have:=i.2;simp only[fy]at this ⊢;rw[this];rfl
 simp at c
theorem av1:iL gl ph n B O g s a w P o K Q bs (.bits op x y):=by
 intro p us h hd j c k;obtain⟨t,D,ho,l,q⟩:=j;have d:=h.ga l;have e:=h.ga q;simp only[c9]at c;split at c;rename_i u v r A;rw[r]at d;rw[A]at e;cases b:Az op u v with
 |none=>simp[b]at c
 |some z=>
  simp only[b,jH,dN,h4]at c;obtain⟨rfl,rfl⟩:=c;have i:iS z=true/\(do eqGuard op t x y u v;binOp op t u v:Sem Value).run P w= .ok z w:=by
   unfold Az at b;split at b;split at b;rename_i C;subst C;split at b<;>first|(cases b;exact⟨rfl,by simp[eqGuard,binOp,Op.intBits]⟩)|(simp at b)
   simp at b;simp at b
  refine g6 h hd (v:=z) ?_ (.bo i.1) k;simp only[execOp,ho,d.fY.1,e.fY.1];have:=i.2;simp only[fy]at this ⊢;rw[this];rfl
 simp at c
theorem av0{neg:Bool}:iL gl ph n B O g s a w P o K Q bs (.rS neg x y):=by intro p us h hd i b j;obtain⟨t,z,ho,e,k,l⟩:=i;have c:=h.ga k;have d:=h.ga l;simp only[c9]at b;split at b;rename_i u v q r;rw[q]at c;rw[r]at d;cases b;refine g6 h hd (v:= .bool (xor neg (u==v))) ?_ (.bo rfl) j;cases neg;simp only[uj,io,hV]at ho;simp only[execOp,ho,c.fY.1,d.fY.1,eqGuard,fy,g7];simp;rw[run_eql_bool w t u v e];rfl;simp only[uj,gF]at ho;simp only[execOp,ho,c.fY.1,d.fY.1,eqGuard,fy,g7];simp;rw[run_neq_bool w t u v e];rfl;simp at b
theorem awE{op:UnOp}:iL gl ph n B O g s a w P o K Q bs (.pd op x):=by
 intro p us h hd i c j;obtain⟨t,ho,k⟩:=i;have d:=h.ga k;simp only[c9]at c;split at c;rename_i u l;rw[l]at d;cases b:HN op u with
 |none=>simp[b]at c
 |some z=>
  simp only[b,jH,dN,h4]at c;obtain⟨rfl,rfl⟩:=c;have e:iS z=true/\(Op.unary op u).run P w= .ok z w:=by unfold HN at b;split at b;split at b;cases b;exact⟨rfl,by simp[Op.unary]⟩;simp at b;split at b;cases b;exact⟨rfl,by simp[Op.unary,Op.intArith]⟩;cases b;exact⟨rfl,by simp[Op.unary,Op.intBits]⟩;simp at b;simp at b
  refine g6 h hd (v:=z) ?_ (.bo e.1) j;simp only[execOp,ho,d.fY.1,fy,e.2,fU,g7]
 simp at c
theorem av6{k:IntKind}:iL gl ph n B O g s a w P o K Q bs (.rU k x):=by intro p us h hd e b i;obtain⟨t1,t2,d,ho,j,l,q⟩:=e;have c:=h.ga q;simp only[c9]at b;split at b;rename_i t m r;rw[r]at c;cases b;refine g6 h hd (v:= .int k (k.wrap m)) ?_ (.bo rfl) i;simp only[execOp,ho,c.fY.1,convert,fy,i7 j,i7 l,fU,Conv.intToInt,g7];simp at b
theorem awd{i:Nat}:iL gl ph n B O g s a w P o K Q bs (.ext x i):=by
 intro p us h hd j b k;obtain⟨ho,l⟩:=j;have e:=h.ga l;simp only[c9]at b;split at b;cases b;rename_i vs t u;rw[u]at e;cases c:vs[i]? with
 |none=>simp[c]at b
 |some q=>
  simp only[c,jH,dN,h4]at b;obtain⟨rfl,rfl⟩:=b;obtain⟨us,z,D,A⟩:=e.aeD (λd=>by cases vs with|nil=>cases d|cons y r=>simp at d;subst d;exact t _ rfl);have hi:i<us.length:=by have:=(g8.1 c).1;omega
  have C:us[i]? =some us[i]:=fo hi;refine g6 h hd (v:=us[i]) ?_ ((A i q _ c C).elim (λr=> .inr (.inl r)) (λr=> .inr (.inr (.inl r)))) k;simp[execOp,ho,z,Instr.extract,hi]
 simp at b
theorem awu:iL gl ph n B O g s a w P o K Q bs (.sg x):=by
 intro p us h hd u c l;obtain⟨ho,z⟩:=u;have b:=h.ga z;simp only[c9]at c;have r:∀d:Addr,a.eval x= .pointer (some d)->(execOp a.eval o).run P w= .ok (.value (a.eval x)) w:=by intro d e;simp only[execOp,ho,e];rfl
 split at c;rename_i k bZ off j;rw[j]at b;cases c;obtain⟨_,d,e,_⟩:=b.kz (by simp[aT.key,aT.cJ]);exact g6 h hd (r d e) b l;rename_i k bZ i off j;rw[j]at b;cases c;obtain⟨_,d,e,_⟩:=b.kz (by simp[aT.key,aT.cJ]);exact g6 h hd (r d e) b l;rename_i cs off j;rw[j]at b;cases c;have e:=b.Cw;cases t:a.eval x with
 |pointer q=>rw[t]at e;cases e;exact g6 h hd (r _ t) b l
 |_=>rw[t]at e;cases e
 simp at c
theorem awk{kq:Bool}:iL gl ph n B O g s a w P o K Q bs (.len kq x):=by
 intro p us h hd E j A;obtain⟨t,ho,d,F⟩:=E;have i:=h.ga F;have C:∀(l:Nat),(Builtin.len_ #[t] o.type #[a.eval x]).run P w= .ok (goInt l) w->(execOp a.eval o).run P w= .ok (.value (.int .i64 l)) w:=by intro l G;simp only[execOp,ho,resolve,invoke,builtin,fy,g7,fU,DW,hN,ny,G];rfl
 simp only[c9]at j;split at j;rename_i u r;simp only[gF]at d;rw[r]at i;cases j;refine g6 h hd (C _ ?_) (.bo rfl) A;rw[i.fY.1];exact run_len_string w t _ u d;rename_i r;simp only[io,hV]at d;obtain⟨e,d⟩:=d;rw[r]at i;cases j;refine g6 h hd (C 0 ?_) (.bo rfl) A;rw[i.fY.1];simp[Builtin.len_,i7 d];rename_i sz es r;simp only[io,hV]at d;obtain⟨e,d⟩:=d;rw[r]at i;cases j;have z:=i.x7;refine g6 h hd (C _ ?_) (.bo rfl) A;cases D:a.eval x with
 |slice q l c=>rw[D]at z;cases z;simp[Builtin.len_,i7 d]
 |_=>rw[D]at z;cases z
 rename_i k bZ off len r;simp only[io,hV]at d;obtain⟨e,d⟩:=d;rw[r]at i;cases j;obtain⟨_,b,o',H,z,_⟩:=i.kz (by simp[aT.key,aT.cJ]);refine g6 h hd (C _ ?_) (.bo rfl) A;rw[z];simp[Builtin.len_,i7 d];simp at j
theorem awt{c:Bool}:iL gl ph n B O g s a w P o K Q bs (.q0 c x y):=by intro p us h hd i b j;obtain⟨z,ho,l,q⟩:=i;have d:=h.ga l;have e:=h.ga q;simp only[c9]at b;split at b;rename_i k u A v r t;rw[r]at d;rw[t]at e;split at b;rename_i C;cases b;refine g6 h hd (v:= .int k (if c then(if v>u then v else u) else(if v<u then v else u))) ?_ (.bo rfl) j;cases c;simp only[io,hV]at ho ⊢;simp only[execOp,ho,resolve,invoke,builtin,fy,g7,fU,DW,hN,ny,d.fY.1,e.fY.1,run_min_int2];simp only[gF]at ho ⊢;simp only[execOp,ho,resolve,invoke,builtin,fy,g7,fU,DW,hN,ny,d.fY.1,e.fY.1,run_max_int2];simp at b;simp at b
end
end
end Go.Hf

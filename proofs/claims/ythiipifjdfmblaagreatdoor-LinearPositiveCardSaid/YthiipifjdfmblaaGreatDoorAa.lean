import Derived.WalkKit
set_option linter.all false
namespace Go.Hf
open Go.RowKit
section
variable{p c:Prop} {α:Sort _} {i:Nat}
theorem bk[Decidable p](h:¬p:=by omega):decide p=false:=decide_eq_false h
theorem bN[Decidable p](h:p:=by omega):decide p=true:=decide_eq_true h
theorem cz{i:Decidable c}(h:¬c:=by omega){t e:α}:ite c t e=e:=if_neg h
theorem fS{i:Decidable c}(h:c:=by omega){t e:α}:ite c t e=t:=if_pos h
theorem lO{α:Type _}{l:List α}(h:l.length<=i:=by omega):l.drop i=[]:=List.drop_eq_nil_of_le h
theorem nY{α:Type _}{l:List α}(h:l.length<=i:=by omega):l.take i=l:=List.take_of_length_le h
theorem cN(n:Nat)(h:0<n:=by omega):∃m,n=m+1:=⟨n-1,by omega⟩
theorem hQ:(1000000:Nat)=999999+1:=rfl
abbrev AY:=@List.eq_nil_iff_forall_not_mem
abbrev rV:=@List.take_append_of_le_length
abbrev uw:=@List.eq_nil_of_length_eq_zero
abbrev OB:=@Array.getElem?_setIfInBounds
abbrev nK:=@Array.getD_eq_getD_getElem?
abbrev sH:=@List.getElem?_append_right
abbrev DX:=@Array.getElem?_eq_none_iff
abbrev Gk:=@Array.getElem?_eq_some_iff
abbrev e6:=@List.getElem?_eq_some_iff
abbrev iK:=@List.drop_eq_getElem_cons
abbrev q5:=@List.getElem?_append_left
abbrev zJ:=@List.pairwise_iff_getElem
abbrev OC:=@Array.getElem?_eq_getElem
abbrev dC:=@List.getElem?_eq_getElem
abbrev JE:=@List.length_eq_zero_iff
abbrev n7:=@List.flatMap_eq_nil_iff
abbrev s7:=@List.pairwise_singleton
abbrev vC:=@Option.bind_eq_some_iff
abbrev zd:=@List.getElem?_cons_succ
abbrev DD:=@List.getElem?_replicate
abbrev Pq:=@Option.map_eq_some_iff
abbrev iL:=@List.drop_eq_nil_of_le
abbrev lH:=@List.take_of_length_le
abbrev pn:=@Nat.le_of_ble_eq_true
abbrev dp:=@Nat.eq_of_beq_eq_true
abbrev gz:=@Nat.ble_eq_true_of_le
abbrev qQ:=@List.getElem?_eq_none
abbrev vg:=@List.mem_iff_getElem?
abbrev xE:=@Array.getElem?_toList
abbrev xb:=@List.mem_append_right
abbrev yc:=@List.length_singleton
abbrev Bk:=@List.getElem?_toArray
abbrev Bx:=@List.take_append_drop
abbrev Es:=@List.eq_nil_or_concat
abbrev GP:=@Nat.testBit_shiftLeft
abbrev KE:=@Array.getElem?_modify
abbrev On:=@List.mem_of_getElem?
abbrev OJ:=@List.mem_cons_of_mem
abbrev dr:=@Nat.mul_le_mul_right
abbrev gv:=@List.mem_append_left
abbrev jJ:=@List.drop_eq_nil_iff
abbrev o2:=@List.reverse_reverse
abbrev pZ:=@List.pairwise_append
abbrev qc:=@List.mem_of_mem_take
abbrev Ih:=@List.getElem?_append
abbrev Nr:=@List.map_eq_nil_iff
abbrev O7:=@List.drop_succ_cons
abbrev Nb:=@List.length_pos_iff
abbrev oM:=@List.length_reverse
abbrev oc:=@List.reverse_append
abbrev rH:=@List.map_congr_left
abbrev AR:=@Nat.mul_le_mul_left
abbrev F6:=@List.getElem?_range
abbrev Io:=@List.mem_map_of_mem
abbrev GW:=@Array.length_toList
abbrev HO:=@List.mem_cons_self
abbrev Nn:=@Bool.false_eq_true
abbrev P1:=@Nat.eq_zero_or_pos
abbrev OD:=@List.length_append
abbrev eS:=@List.getElem?_take
abbrev iC:=@Nat.lt_of_lt_of_le
abbrev ku:=@List.pairwise_cons
abbrev lh:=@List.getElem?_drop
abbrev nh:=@List.map_replicate
abbrev nJ:=@Nat.one_lt_two_pow
abbrev o4:=@Nat.lt_of_le_of_lt
abbrev sp:=@UInt8.toNat_ofNat'
abbrev O5:=@Option.some.injEq
abbrev O8:=@List.getElem?_map
abbrev Ph:=@List.flatMap_cons
abbrev dD:=@List.append_assoc
abbrev fo:=@decide_eq_true_eq
abbrev gd:=@of_decide_eq_true
abbrev kh:=@List.take_add_one
abbrev kD:=@Array.size_append
abbrev nm:=@List.size_toArray
abbrev nM:=@Nat.succ_le_of_lt
abbrev oG:=@List.getElem?_set
abbrev sh:=@Nat.lt_trichotomy
abbrev v1:=@List.pairwise_map
abbrev xh:=@List.ext_getElem?
abbrev EY:=@Bool.not_eq_true'
abbrev Hi:=@Bool.and_eq_true
abbrev JO:=@List.length_cons
abbrev M2:=@List.all_eq_true
abbrev Ij:=@List.mem_flatMap
abbrev LH:=@List.cons_append
abbrev L9:=@decide_eq_decide
abbrev cg:=@List.flatMap_map
abbrev h9:=@Option.bind_some
abbrev jl:=@List.length_take
abbrev nG:=@List.take_length
abbrev pL:=@List.any_eq_true
abbrev r6:=@List.map_toArray
abbrev tx:=@List.drop_append
abbrev tL:=@List.getElem_mem
abbrev ta:=@List.take_append
abbrev vw:=@Nat.mod_eq_of_lt
abbrev vc:=@List.perm_middle
abbrev uE:=@Nat.div_eq_of_lt
abbrev xk:=@Nat.le_of_not_lt
abbrev CY:=@List.not_mem_nil
abbrev ER:=@List.length_map
abbrev Ic:=@List.mem_append
abbrev GG:=@decide_eq_false
abbrev NL:=@Option.map_some
abbrev Md:=@List.length_nil
abbrev Pt:=@List.nil_append
abbrev LZ:=@List.map_append
abbrev dS:=@Bool.or_eq_true
abbrev fr:=@List.append_nil
abbrev gK:=@Bool.eq_iff_iff
abbrev jZ:=@Option.some.inj
abbrev kT:=@List.mem_filter
abbrev kP:=@List.cons.injEq
abbrev ly:=@Nat.mul_add_div
abbrev ny:=@Nat.mul_add_mod
abbrev nj:=@Rat.intCast_mul
abbrev oj:=@Int.natCast_mul
abbrev pl:=@decide_eq_true
abbrev uD:=@Bool.not_false
abbrev Kn:=@List.Perm.refl
abbrev JY:=@Int.natAbs_mul
abbrev GN:=@List.take_zero
abbrev FE:=@Nat.mul_le_mul
abbrev dm:=@List.drop_zero
abbrev i7:=@Nat.testBit_or
abbrev mG:=@List.map_cons
abbrev pG:=@List.mem_cons
abbrev pV:=@Prod.mk.injEq
abbrev tF:=@Bool.not_true
abbrev s5:=@List.cons.inj
abbrev u7:=@Bool.and_self
abbrev z6:=@Rat.add_assoc
abbrev Gh:=@Sum.inr.injEq
abbrev gm:=@Nat.add_assoc
abbrev gy:=@Bool.true_and
abbrev io:=@List.map_drop
abbrev iz:=@List.map_take
abbrev kf:=@Nat.lt_irrefl
abbrev mU:=@List.all_cons
abbrev qq:=@Bool.false_or
abbrev wT:=@Nat.beq_refl
abbrev yd:=@List.mem_map
abbrev y4:=@Nat.le_trans
abbrev As:=@Rat.add_zero
abbrev DL:=@Nat.lt_or_ge
abbrev Fa:=@Nat.zero_add
abbrev fq:=@List.map_nil
abbrev gb:=@Rat.zero_add
abbrev gp:=@Nat.mul_comm
abbrev gU:=@Nat.add_zero
abbrev ie:=@Classical.em
abbrev jb:=@Rat.zero_mul
abbrev kW:=@List.map_map
abbrev kM:=@Nat.sub_zero
abbrev mC:=@Rat.add_comm
abbrev nV:=@Nat.pow_succ
abbrev sm:=@Nat.le_refl
abbrev xB:=@Nat.add_mul
abbrev xW:=@Nat.zero_le
abbrev yy:=@Nat.one_mul
abbrev Et:=@Nat.mul_one
abbrev D2:=@Nat.pow_add
abbrev Ct:=@Nat.add_eq
abbrev IY:=@Nat.beq_eq
abbrev cY:=@Nat.sub_eq
abbrev hW:=@Nat.mul_eq
abbrev ik:=@Array.ext'
abbrev m2:=@beq_iff_eq
abbrev wo:=@Nat.blt_eq
abbrev Fq:=@Nat.mod_lt
abbrev hZ:=@Nat.ble_eq
abbrev lR:=@cond_true
abbrev oT:=@congrArg
abbrev st:=@if_false
abbrev wN:=@or_false
abbrev w6:=@if_true
abbrev y1:=@if_pos
abbrev Ca:=@if_neg
end
section
abbrev G1:=@Go.grownCap_le_maxLen
abbrev MT:=@Go.Result.andThen_ok
abbrev ux:=@Go.run_underlying
abbrev q6:=@Go.Sem.run_bind
abbrev wd:=@Go.Sem.run_pure
abbrev pU:=@Go.setRow_other
abbrev D4:=@Go.setRow_heap
variable{α:Type}
inductive aG where
 |undef
 |bu (v:Value)
 |agg (cs:List aG)
 |a0 (vs:List aG)
 |aQ (sz:Nat) (es:List (List aG))
 |ep (cs:List aG) (off:Nat)
 |bn (k s off:Nat)
 |az (k s off len:Nat)
 |dH (k s i off:Nat)
 |hG (k s:Nat)
 |gJ (f:Nat) (ar9:List aG)
 deriving Inhabited
abbrev kO:=List (List aG)
abbrev dA:=List aG
inductive Obj where
 |ax (s:Nat)
 |box (s:Nat) (cs:List aG)
 |az (s e sz:Nat) (es:List (List aG)) (as0:Bool)
 |map (s:Nat) (es:List (Value×Value))
 deriving Inhabited
abbrev iP:=List (Nat×Obj)
abbrev cD:=Nat->Obj
def Obj.cd:Obj->Nat
 | .ax s=>s
 | .box s _=>s
 | .az s _ _ _ _=>s
 | .map s _=>s
def jG(s t:Nat):Nat:=Nat.add (Nat.mul (Nat.add (Nat.div s 65536) 1) 65536) t
theorem aBu(s t:Nat):s<jG s t:=by show s<(s/65536+1)*65536+t;omega
theorem aAg{s t:Nat}(h:t<65536):jG s t%65536=t:=by show((s/65536+1)*65536+t) %65536=t;omega
structure df where
 aC:Nat->aG
 bo:Nat->Obj
def dl{α:Type}(f:Nat->α)(i:Nat)(v:α):Nat->α:=λj=>if j=i then v else f j
theorem iM(f:Nat->α)(i:Nat)(v:α):dl f i v i=v:=by simp[dl]
theorem ir(f:Nat->α){i j:Nat}(v:α)(h:j≠i):dl f i v j=f j:=by simp[dl,h]
def c7(f:Nat->Obj):List (Nat×Obj)->Nat->Obj
 |[]=>f
 |(k,o)::r=>c7 (dl f k o) r
def iO:Value->Bool
 | .bool _=>true
 | .int _ _=>true
 | .string _=>true
 | .pointer none=>true
 | .slice none 0 0=>true
 | .func (.func _) ⟨[]⟩ ⟨[]⟩=>true
 | .nilFunc=>true
 | .nilIface=>true
 | .map none=>true
 |_=>false
def i0:aG:= .bu (.slice none 0 0)
def aG.hK:aG->Bool
 | .bu v=>iO v
 | .aQ _ _=>true
 | .ep _ _=>true
 | .bn _ _ _=>true
 | .az _ _ _ _=>true
 | .dH _ _ _ _=>true
 | .hG _ _=>true
 | .gJ _ _=>true
 |_=>false
def aG.cells:aG->Option (List aG)
 | .agg cs=>some cs
 | .undef=>none
 | .a0 _=>none
 |v=>some [v]
def aG.cf:aG->List Nat
 | .bn k _ _=>[k]
 | .az k _ _ _=>[k]
 | .dH k _ _ _=>[k]
 | .hG k _=>[k]
 |_=>[]
def aG.key:aG->List Nat
 | .gJ _ ar9=>ar9.flatMap aG.cf
 |v=>v.cf
def aG.eg:aG->List Nat
 | .agg cs=>cs.flatMap aG.key
 |v=>v.key
def aG.cR:aG->List Nat
 | .a0 cs=>cs.flatMap aG.eg
 |v=>v.eg
def KJ:Value->aG
 | .agg cs=> .agg (cs.toList.map aG.bu)
 |v=> .bu v
def c9(asC:Nat->aG):Operand->aG
 | .tmp t=>asC t
 | .const v=>KJ v
 | .func f=> .bu (.func (.func f) #[] #[])
 | .global _=> .undef
def gV(ob:Nat->Obj):aG->Option aG
 | .az k s off len=>
   match ob k with
   | .az a _ sz es _=>if s=a/\off+len<=es.length then some (.aQ sz ((es.drop off).take len)) else none
   |_=>none
 | .bu v=>some (.bu v)
 | .aQ sz es=>some (.aQ sz es)
 | .ep cs off=>some (.ep cs off)
 |_=>none
def oE(ob:Nat->Obj):List aG->Option (List aG)
 |[]=>some []
 |p::a=>match gV ob p,oE ob a with
  |some q,some b=>some (q::b)
  |_,_=>none
def qG(ob:Nat->Obj):aG->Option aG
 | .agg cs=>(oE ob cs).map aG.agg
 |v=>gV ob v
def jN(ob:Nat->Obj):aG->List (Nat×Obj)
 | .az k _ _ _=>
   match ob k with
   | .az s e sz es true=>[(k,.az s e sz es false)]
   |_=>[]
 |_=>[]
def jE(ob:Nat->Obj):aG->List (Nat×Obj)
 | .agg cs=>cs.flatMap (jN ob)
 |v=>jN ob v
def iZ(ob:Nat->Obj)(sz:Nat):aG->Option (List (List aG))
 | .bu (.slice none 0 0)=>some []
 | .aQ a es=>if a=sz then some es else none
 | .az k s off len=>
   match ob k with
   | .az b _ a es _=>if s=b/\a=sz/\off+len<=es.length then some ((es.drop off).take len) else none
   |_=>none
 |_=>none
def Ak(c:BinOp):Value->Value->Option Value
 | .int k a,.int _ b=>
   if b<0 then none else
    match c with
    | .shl=>some (.int k (k.wrap (a*2^min b.toNat k.bits)))
    | .shr=>some (.int k (a.fdiv (2^min b.toNat k.bits)))
    |_=>none
 |_,_=>none
def Jm(c:BinOp):Value->Value->Option Value
 | .int k a,.int d b=>
   if k=d then
    match c with
    | .and=>some (.int k (k.wrap (BitVec.ofInt k.bits a&&& BitVec.ofInt k.bits b).toNat))
    | .or=>some (.int k (k.wrap (BitVec.ofInt k.bits a|||BitVec.ofInt k.bits b).toNat))
    | .xor=>some (.int k (k.wrap (BitVec.ofInt k.bits a^^^BitVec.ofInt k.bits b).toNat))
    | .andNot=>some (.int k (k.wrap (BitVec.ofInt k.bits a&&& ~~~BitVec.ofInt k.bits b).toNat))
    |_=>none
   else none
 |_,_=>none
def jW(c:BinOp):Value->Value->Option Value
 | .int k a,.int d b=>
   if k=d then
    match c with
    | .add=>some (.int k (k.wrap (a+b)))
    | .sub=>some (.int k (k.wrap (a-b)))
    | .mul=>some (.int k (k.wrap (a*b)))
    | .quo=>if b=0 then none else some (.int k (k.wrap (a.tdiv b)))
    | .rem=>if b=0 then none else some (.int k (a.tmod b))
    | .eql=>some (.bool (a==b))
    | .neq=>some (.bool (a !=b))
    | .lss=>some (.bool (a<b))
    | .leq=>some (.bool (a<=b))
    | .gtr=>some (.bool (a>b))
    | .geq=>some (.bool (a≥b))
    |_=>none
   else none
 | .string x,.string y=>
   match c with
   | .add=>if((x.size+y.size:Nat):Int)>IntKind.i64.max then none else some (.string (x++y))
   | .eql=>some (.bool (x.toList==y.toList))
   | .neq=>some (.bool !(x.toList==y.toList))
   | .lss=>some (.bool (Op.bytesLess x.toList y.toList))
   | .leq=>some (.bool (Op.bytesLess x.toList y.toList||x.toList==y.toList))
   | .gtr=>some (.bool !(Op.bytesLess x.toList y.toList||x.toList==y.toList))
   | .geq=>some (.bool !(Op.bytesLess x.toList y.toList))
   |_=>none
 |_,_=>none
def EB(a:UnOp):Value->Option Value
 | .bool b=>match a with| .not=>some (.bool !b)|_=>none
 | .int k n=>match a with
   | .neg=>some (.int k (k.wrap (0-n)))
   | .xor=>some (.int k (k.wrap (BitVec.ofInt k.bits (if k.signed then-1 else k.max)^^^BitVec.ofInt k.bits n).toNat))
   |_=>none
 |_=>none
inductive ds (α:Type) where
 |qg (x:α)
 |pick (c a b:α)
 |alloc (t:Nat) (zero:List Value)
 |box (t:Nat) (x:α)
 |build (zero:List Value) (parts:List (Nat×Nat×α))
 |m4 (e sz:Nat) (zero:List Value) (len:Nat) (parts:List (Nat×α)) (as0:Bool)
 |load (isAgg:Bool) (n:Nat) (a:α)
 |store (n:Nat) (a v:α)
 |qj (x:α)
 |qo (op:BinOp) (x y:α)
 |p1 (neg:Bool) (x y:α)
 |qn (neg:Bool) (x y:α)
 |pK (neg:Bool) (x:α)
 |nC (op:UnOp) (x:α)
 |p4 (k:IntKind) (x:α)
 |oQ (x:α)
 |oJ (e sz bytes:Nat) (zero:List Value) (l c:α)
 |p9 (x:α) (lo hi:Option α)
 |o9 (sz:Nat) (x:α) (lo hi:Option α)
 |p6 (off:Nat) (x:α)
 |p5 (isAgg:Bool) (off n:Nat) (x:α)
 |ji (sz:Nat) (x i:α)
 |pJ (x i:α)
 |ext (x:α) (i:Nat)
 |len (isStr:Bool) (x:α)
 |append (e sz bytes:Nat) (s x:α) (as0:Bool)
 |kV (isMax:Bool) (x y:α)
 |call (f:α) (args:List α)
 |hV (f:α) (args:List α) (frz:List Bool)
 |e0 (op:BinOp) (x y:α)
 |bits (op:BinOp) (x y:α)
 |qa (f:Nat) (ar9:List α)
 |pF (x:α)
 |mM (e bytes:Nat) (s x:α) (as0:Bool)
 |oy (e sz bytes:Nat) (zero:List Value) (s x:α) (as0:Bool)
 |oO (e sz:Nat) (zero:List Value) (x:α)
 |pB (n sz:Nat) (x i:α)
 |oF (n:Nat) (x:α)
 |gY
 deriving Inhabited
abbrev nw:=ds Operand
def o8(isAgg:Bool)(n:Nat)(cs:List aG)(off:Nat):Option aG:=
 if isAgg then(if off+n<=cs.length then some (.agg ((cs.drop off).take n)) else none) else cs[off]?
def mO(cs:List aG)(off:Nat)(new:List aG):List aG:=cs.take off++new++cs.drop (off+new.length)
def pg{α:Type}(ev:α->aG)(cs:List aG):List (Nat×Nat×α)->Option (List aG)
 |[]=>some cs
 |(off,n,x)::r=>
  match(ev x).cells with
  |some new=>if new.length=n/\off+n<=cs.length then pg ev (mO cs off new) r else none
  |none=>none
def lD{α:Type}(ev:α->aG)(ob:Nat->Obj)(sz:Nat)(es:List (List aG)):List (Nat×α)->Option (List (List aG))
 |[]=>some es
 |(i,x)::r=>
  match(qG ob (ev x)).bind aG.cells with
  |some new=>if new.length=sz/\i<es.length then lD ev ob sz (es.set i new) r else none
  |none=>none
def tP{α:Type}(ev:α->aG)(asy:Nat):Option α->Option Nat
 |none=>some asy
 |some x=>match ev x with
  | .bu (.int _ n)=>if 0<=n then some n.toNat else none
  |_=>none
def ui:List (List aG)->Option (List UInt8)
 |[]=>some []
 |[.bu (.int .u8 n)]::r=>(ui r).map (UInt8.ofNat n.toNat:: ·)
 |_=>none
def Fm:aG->Bool
 | .bn _ _ _=>true
 | .bu (.pointer none)=>true
 |_=>false
def Je(l:List aG):Bool:=l.all Fm&&l.any λp=>match p with| .bn _ _ _=>true|_=>false
def lc(b:ByteArray):List (List aG):=b.data.toList.map λc=>[.bu (.int .u8 c.toNat)]
def b6{α:Type}(ev:α->aG)(ob:Nat->Obj)(d:Nat):ds α->Option (aG×List (Nat×Obj))
 | .qg x=>some (ev x,[])
 | .pick c a b=>match ev c with
   | .bu (.bool true)=>some (ev a,[])
   | .bu (.bool false)=>some (ev b,[])
   |_=>none
 | .alloc t zero=>some (.bn d (jG (ob d).cd t) 0,[(d,.box (jG (ob d).cd t) (zero.map aG.bu))])
 | .box t x=>match(ev x).cells with
   |some cs=>some (.bn d (jG (ob d).cd t) 0,[(d,.box (jG (ob d).cd t) cs)])
   |none=>none
 | .build zero parts=>(pg ev (zero.map aG.bu) parts).map λcs=>(.agg cs,[])
 | .m4 e sz zero len parts as0=>
   (lD ev ob sz (List.replicate len (zero.map aG.bu)) parts).map λes=>
    (.az d ((ob d).cd+1) 0 len,parts.flatMap (λp=>jE ob (ev p.2))++[(d,.az ((ob d).cd+1) e sz es as0)])
 | .load isAgg n a=>match ev a with
   | .bn k s off=>match ob k with
     | .box g cs=>if s=g then(o8 isAgg n cs off).map λv=>(v,[]) else none
     |_=>none
   | .dH k s i off=>match ob k with
     | .az g _ _ es _=>if s=g then(es[i]?).bind λcs=>(o8 isAgg n cs off).map λv=>(v,[]) else none
     |_=>none
   | .ep cs off=>(o8 isAgg n cs off).map λv=>(v,[])
   |_=>none
 | .store n a v=>match ev a with
   | .bn k s off=>match ob k,(ev v).cells with
     | .box g cs,some new=>if s=g/\new.length=n/\off+n<=cs.length then some (.undef,[(k,.box s (mO cs off new))]) else none
     |_,_=>none
   | .dH k s i off=>match ob k,(qG ob (ev v)).bind aG.cells with
     | .az g e sz es true,some new=>
       match es[i]? with
       |some cs=>if s=g/\new.length=n/\off+n<=cs.length/\(ev v).cR=[] then some (.undef,[(k,.az s e sz (es.set i (mO cs off new)) true)]) else none
       |none=>none
     |_,_=>none
   |_=>none
 | .qj x=>match ev x with
   | .bn k s off=>some (.bn k s off,[])
   | .dH k s i off=>some (.dH k s i off,[])
   | .ep cs off=>some (.ep cs off,[])
   |_=>none
 | .qo u x y=>match ev x,ev y with
   | .bu a,.bu b=>(jW u a b).map λv=>(.bu v,[])
   |_,_=>none
 | .p1 neg x y=>match ev x,ev y with
   | .bu (.bool a),.bu (.bool b)=>some (.bu (.bool (xor neg (a==b))),[])
   |_,_=>none
 | .qn neg x y=>match ev x,ev y with
   | .agg [.bu (.string a),.bu (.string b)],.agg [.bu (.string A),.bu (.string B)]=>some (.bu (.bool (xor neg (a.toList==A.toList&&b.toList==B.toList))),[])
   |_,_=>none
 | .pK neg x=>match ev x with
   | .bu (.slice none 0 0)=>some (.bu (.bool !neg),[])
   | .aQ _ _=>some (.bu (.bool neg),[])
   | .az _ _ _ _=>some (.bu (.bool neg),[])
   |_=>none
 | .nC u x=>match ev x with
   | .bu a=>(EB u a).map λv=>(.bu v,[])
   |_=>none
 | .p4 k x=>match ev x with
   | .bu (.int _ n)=>some (.bu (.int k (k.wrap n)),[])
   |_=>none
 | .oQ x=>((iZ ob 1 (ev x)).bind ui).map λl=>(.bu (.string ⟨l.toArray⟩),[])
 | .oJ e sz bytes zero l c=>match ev l,ev c with
   | .bu (.int .i64 a),.bu (.int .i64 b)=>
     if 0<=a/\a<=b/\b*bytes<=1099511627776/\b<=1099511627776 then
      some (.az d ((ob d).cd+1) 0 a.toNat,[(d,.az ((ob d).cd+1) e sz (List.replicate a.toNat (zero.map aG.bu)) true)])
     else none
   |_,_=>none
 | .p9 x lo hi=>match ev x with
   | .bu (.string s)=>match tP ev 0 lo,tP ev s.size hi with
     |some l,some h=>if l<=h/\h<=s.size then some (.bu (.string (s.extract l h)),[]) else none
     |_,_=>none
   |_=>none
 | .o9 sz x lo hi=>match ev x with
   | .aQ j es=>match tP ev 0 lo,tP ev es.length hi with
     |some l,some h=>if j=sz/\l<=h/\h<=es.length then some (.aQ sz ((es.drop l).take (h-l)),[]) else none
     |_,_=>none
   | .az k s off len=>match tP ev 0 lo,tP ev len hi,ob k with
     |some l,some h,.az g _ j _ _=>if s=g/\j=sz/\l<=h/\h<=len then some (.az k s (off+l) (h-l),[]) else none
     |_,_,_=>none
   | .bu (.slice none 0 0)=>match tP ev 0 lo,tP ev 0 hi with
     |some 0,some 0=>some (i0,[])
     |_,_=>none
   |_=>none
 | .p6 o x=>match ev x with
   | .bn k s off=>some (.bn k s (off+o),[])
   | .dH k s i off=>some (.dH k s i (off+o),[])
   | .ep cs off=>some (.ep cs (off+o),[])
   |_=>none
 | .p5 isAgg off n x=>match ev x with
   | .agg cs=>(o8 isAgg n cs off).map λv=>(v,[])
   |_=>none
 | .ji sz x i=>match ev x,ev i with
   | .aQ j es,.bu (.int _ n)=>if j=sz/\0<=n then(es[n.toNat]?).map λcs=>(.ep cs 0,[]) else none
   | .az k s off len,.bu (.int _ n)=>match ob k with
     | .az g _ j _ _=>if s=g/\j=sz/\0<=n/\n<len then some (.dH k s (off+n.toNat) 0,[]) else none
     |_=>none
   |_,_=>none
 | .pJ x i=>match ev x,ev i with
   | .bu (.string s),.bu (.int _ n)=>if 0<=n then(s.data.toList[n.toNat]?).map λb=>(.bu (.int .u8 b.toNat),[]) else none
   |_,_=>none
 | .ext x i=>match ev x with
   | .a0 (.undef::_)=>none
   | .a0 vs=>(vs[i]?).map λv=>(v,[])
   |_=>none
 | .len C x=>match C,ev x with
   |true,.bu (.string s)=>some (.bu (.int .i64 s.size),[])
   |false,.bu (.slice none 0 0)=>some (.bu (.int .i64 0),[])
   |false,.aQ _ es=>some (.bu (.int .i64 es.length),[])
   |false,.az _ _ _ len=>some (.bu (.int .i64 len),[])
   |_,_=>none
 | .append e sz bytes s x as0=>match ev s,iZ ob sz (ev x) with
   | .bu (.slice none 0 0),some ys=>
     if ys.length*bytes<=1099511627776/\ys.length<=1099511627776 then
      if ys.length=0 then some (i0,[]) else some (.az d ((ob d).cd+1) 0 ys.length,[(d,.az ((ob d).cd+1) e sz ys as0)])
     else none
   | .az k aM 0 len,some ys=>match ob k with
     | .az z w j es r=>
       if aM=z/\w=e/\j=sz/\(len=es.length\/r=true/\len<=es.length)/\(len+ys.length)*bytes<=1099511627776/\len+ys.length<=1099511627776 then
        some (.az k (aM+1) 0 (len+ys.length),[(k,.az (aM+1) e sz (es.take len++ys) r)])
       else none
     |_=>none
   | .a0 [.undef,.aQ j es],some ys=>
     if j=sz/\0<ys.length/\(es.length+ys.length)*bytes<=1099511627776/\es.length+ys.length<=1099511627776 then
      some (.az d ((ob d).cd+1) 0 (es++ys).length,[(d,.az ((ob d).cd+1) e sz (es++ys) as0)])
     else none
   |_,_=>none
 | .kV D x y=>match ev x,ev y with
   | .bu (.int k a),.bu (.int E b)=>if k=E then some (.bu (.int k (if D then(if b>a then b else a) else(if b<a then b else a))),[]) else none
   |_,_=>none
 | .mM e bytes s x as0=>match ev s,ev x with
   | .bu (.slice none 0 0),.bu (.string b)=>
     if b.size*bytes<=1099511627776/\b.size<=1099511627776 then
      if b.size=0 then some (i0,[]) else some (.az d ((ob d).cd+1) 0 b.size,[(d,.az ((ob d).cd+1) e 1 (lc b) as0)])
     else none
   | .az k aM 0 len,.bu (.string b)=>match ob k with
     | .az z w j es r=>
       if aM=z/\w=e/\j=1/\(len=es.length\/r=true/\len<=es.length)/\(len+b.size)*bytes<=1099511627776/\len+b.size<=1099511627776 then
        some (.az k (aM+1) 0 (len+b.size),[(k,.az (aM+1) e 1 (es.take len++lc b) r)])
       else none
     |_=>none
   |_,_=>none
 | .oy e sz bytes zero s x as0=>match ev s,ev x with
   | .bu (.slice none 0 0),.bu (.int .i64 m)=>
     if 0<m/\m*bytes<=1099511627776/\m<=1099511627776 then
      some (.az d ((ob d).cd+1) 0 m.toNat,[(d,.az ((ob d).cd+1) e sz (List.replicate m.toNat (zero.map aG.bu)) as0)])
     else none
   |_,_=>none
 | .pF x=>match ev x with
   | .bu (.slice none 0 0)=>some (.bu (.int .i64 0),[])
   |_=>none
 | .oO e sz zero x=>match ev x with
   | .bu (.slice none 0 0)=>some (.a0 [],[])
   | .az k s off len=>match ob k with
     | .az g w j es true=>
       if s=g/\w=e/\j=sz/\off+len<=es.length then some (.a0 [],[(k,.az s e sz (es.take off++List.replicate len (zero.map aG.bu)++es.drop (off+len)) true)]) else none
     |_=>none
   |_=>none
 | .pB n sz x i=>match ev x,ev i with
   | .bn k s off,.bu (.int _ m)=>if 0<=m/\m<n then some (.bn k s (off+m.toNat*sz),[]) else none
   |_,_=>none
 | .oF n x=>match ev x with
   | .bn k s 0=>match ob k with
     | .box g cs=>if s=g/\cs.length=n/\n<=1048576/\cs.flatMap aG.key=[] then some (.aQ 1 (cs.map λq=>[q]),[(k,.ax s)]) else none
     |_=>none
   |_=>none
 | .e0 u x y=>match ev x,ev y with
   | .bu a,.bu b=>(Ak u a b).map λv=>(.bu v,[])
   |_,_=>none
 | .bits u x y=>match ev x,ev y with
   | .bu a,.bu b=>(Jm u a b).map λv=>(.bu v,[])
   |_,_=>none
 | .qa f ar9=>if ar9.length=0 then some (.bu (.func (.func f) #[] #[]),[]) else if Je (ar9.map ev) then some (.gJ f (ar9.map ev),[]) else none
 | .call _ _=>none
 | .hV _ _ _=>none
 | .gY=>none
end
section
variable{w w':World} {p:aG} {v:Value} {ob asR:cD}
inductive eZ (c:Nat->Nat) (w:World):aG->Value->Prop where
 |bu {v:Value} (h:iO v=true):eZ c w (.bu v) v
 |aQ {sz:Nat} {es:kO} {b o cap:Nat} (vals:Nat->Nat->Value) (hcap:es.length<=cap) (hm:cap<=maxLen) (hb:b<w.heap.size) (hc:0<es.length->o+es.length*sz<=c b)
  (hsz:∀(i:Nat) (cs:dA),es[i]? =some cs->cs.length=sz)
  (hcell:∀(i j:Nat) (cs:dA) (p:aG),es[i]? =some cs->cs[j]? =some p->w.cell? ⟨b,o+(i*sz+j),none⟩=some (vals i j))
  (hci:∀(i j:Nat) (cs:dA) (p:aG),es[i]? =some cs->cs[j]? =some p->p.hK=true)
  (hv:∀(i j:Nat) (cs:dA) (p:aG),es[i]? =some cs->cs[j]? =some p->eZ c w p (vals i j)):eZ c w (.aQ sz es) (.slice (some ⟨b,o,none⟩) es.length cap)
 |ep {cs:dA} {off b o:Nat} (vals:Nat->Value) (hb:b<w.heap.size) (hc:o+cs.length<=c b)
  (hcell:∀(j:Nat) (p:aG),cs[j]? =some p->w.cell? ⟨b,o+j,none⟩=some (vals j))
  (hci:∀(j:Nat) (p:aG),cs[j]? =some p->p.hK=true)
  (hv:∀(j:Nat) (p:aG),cs[j]? =some p->eZ c w p (vals j)):eZ c w (.ep cs off) (.pointer (some ⟨b,o+off,none⟩))
 |agg {cs:dA} {vs:List Value} (hl:cs.length=vs.length) (hci:∀(j:Nat) (p:aG),cs[j]? =some p->p.hK=true)
  (hv:∀(j:Nat) (p:aG) (v:Value),cs[j]? =some p->vs[j]? =some v->eZ c w p v):eZ c w (.agg cs) (.agg vs.toArray)
structure gk (c:Nat->Nat) (w:World) (c':Nat->Nat) (w':World):Prop where
 size:w.heap.size<=w'.heap.size
 le:∀b,b<w.heap.size->c b<=c' b
 cell:∀b i,b<w.heap.size->i<c b->w'.cell? ⟨b,i,none⟩=w.cell? ⟨b,i,none⟩
theorem gk.refl(c:Nat->Nat)(w:World):gk c w c w:=⟨sm _,λ_ _=>sm _,λ_ _ _ _=>rfl⟩
theorem gk.trans{c d e:Nat->Nat}{w w' g:World}(h:gk c w d w')(k:gk d w' e g):gk c w e g:=
 ⟨y4 h.size k.size,λb a=>y4 (h.le b a) (k.le b (iC a h.size)),
  λb i a hi=>(k.cell b i (iC a h.size) (iC hi (h.le b a))).trans (h.cell b i a hi)⟩
theorem eZ.mono{c t:Nat->Nat}(h:gk c w t w')(r:eZ c w p v):eZ t w' p v:=by
 induction r with
 |bu h=>exact .bu h
 |aQ l z A a k u n d x e=>
  rename_i sz es b o D;refine .aQ l z A (iC a h.size) (λq=>y4 (k q) (h.le _ a)) u ?_ d e;intro i j cs p hi g;rw[h.cell _ _ a ?_]
  ·exact n i j cs p hi g
  ·have B:i<_:=(e6.1 hi).1;have y:j<cs.length:=(e6.1 g).1;rw[u i cs hi] at y;have C:(i+1)*sz<=_*sz:=dr sz B;rw[xB,yy] at C;have E:=k (by omega);omega
 |ep l a k n d x e=>
  refine .ep l (iC a h.size) (y4 k (h.le _ a)) ?_ d e;intro j p g;rw[h.cell _ _ a ?_]
  ·exact n j p g
  ·have y:j<_:=(e6.1 g).1;omega
 |agg q d x e=>exact .agg q d e
structure ck where
 U:Nat->Nat
 b3:Nat->Nat
 cap:Nat->Nat
abbrev aEz:=ck×(Nat->Obj)×World×List Deferred
def gM(g:ck)(ob:cD):aG->Value->Prop
 | .bn k s off,v=>s<=(ob k).cd/\∃a,v= .pointer (some a)/\∀cs,ob k= .box s cs->a=⟨g.b3 k,off,none⟩
 | .dH k s i off,v=>s<=(ob k).cd/\∃a,v= .pointer (some a)/\∀e sz es as0,ob k= .az s e sz es as0->a=⟨g.b3 k,i*sz+off,none⟩
 | .az k s off len,v=>s<=(ob k).cd/\∃b o c,v= .slice (some ⟨b,o,none⟩) len c/\len<=c/\c<=maxLen/\
  ∀e sz es as0,ob k= .az s e sz es as0->off+len<=es.length/\b=g.b3 k/\(0<len\/off=0->o=off*sz)/\(off=0->c=g.cap k)
 | .hG k s,v=>s<=(ob k).cd/\∃b,v= .map (some b)/\∀es,ob k= .map s es->b=g.b3 k
 |_,_=>False
def lP(g:ck)(ob:cD):aG->Value->Prop
 | .gJ f ar9,v=>ar9.flatMap aG.cf≠[]/\∃vs:List Value,v= .func (.func f) #[] vs.toArray/\ar9.length=vs.length/\
  ∀(j:Nat) (q:aG) (u:Value),ar9[j]? =some q->vs[j]? =some u->(q= .bu (.pointer none)/\u= .pointer none)\/gM g ob q u
 |p,v=>gM g ob p v
def gf(g:ck)(w:World)(ob:cD)(p:aG)(v:Value):Prop:=eZ g.U w p v\/lP g ob p v
def Zi(g:ck)(w:World)(ob:cD)(p:aG)(v:Value):Prop:=
 ∃(cs:dA) (vs:List Value),p= .agg cs/\v= .agg vs.toArray/\cs.length=vs.length/\∀(j:Nat) (q:aG) (u:Value),cs[j]? =some q->vs[j]? =some u->q.hK=true/\gf g w ob q u
def Jd(c:Nat->Nat)(w:World)(p:aG)(v:Value):Prop:=∃(sz:Nat) (es:kO) (a:Addr),p= .a0 [.undef,.aQ sz es]/\v= .slice (some a) es.length es.length/\eZ c w (.aQ sz es) v
theorem Jd.mono{c a:Nat->Nat}{w w':World}(h:gk c w a w'){p:aG}{v:Value}:Jd c w p v->Jd a w' p v
 |⟨sz,es,b,d,e,g⟩=>⟨sz,es,b,d,e,g.mono h⟩
def dT(g:ck)(w:World)(ob:cD)(p:aG)(v:Value):Prop:=
 p= .undef\/gf g w ob p v\/
 (∃(cs:dA) (vs:List Value),p= .agg cs/\v= .agg vs.toArray/\cs.length=vs.length/\∀(j:Nat) (q:aG) (u:Value),cs[j]? =some q->vs[j]? =some u->q.hK=true/\gf g w ob q u)\/
 (∃(a:dA) (vs:List Value),p= .a0 a/\v= .tuple vs.toArray/\a.length=vs.length/\∀(j:Nat) (q:aG) (u:Value),a[j]? =some q->vs[j]? =some u->gf g w ob q u\/Zi g w ob q u)\/Jd g.U w p v
def Obj.fx:Obj->Prop
 | .ax _=>False
 |_=>True
def akv(ar6:Array MapEntry)(a:Nat):Prop:=(∀e∈ar6.toList,e.born<a)/\(ar6.toList.map (·.born)).Nodup
def kR(g:ck)(w:World)(ob:cD)(k:Nat):Obj->Prop
 | .ax _=>True
 | .box s cs=>∃(ar6:Array Value) (T:Nat),w.heap[g.b3 k]? =some (.cells ar6 T (0,0))/\(ar6.size=cs.length/\s%65536=T)/\g.U (g.b3 k)=0/\
  ∀(j:Nat) (q:aG),cs[j]? =some q->∃u,ar6[j]? =some u/\q.hK=true/\gf g w ob q u
 | .az _ e sz es as0=>∃ar6:Array Value,w.heap[g.b3 k]? =some (.cells ar6 e (0,0))/\ar6.size=g.cap k*sz/\es.length<=g.cap k/\g.cap k<=maxLen/\
  (∀(i:Nat) (cs:dA),es[i]? =some cs->cs.length=sz)/\
  (∀(i j:Nat) (cs:dA) (p:aG),es[i]? =some cs->cs[j]? =some p->∃u,ar6[i*sz+j]? =some u/\p.hK=true/\eZ g.U w p u)/\
  (as0=true->g.U (g.b3 k)=0)/\g.U (g.b3 k)<=es.length*sz
 | .map _ es=>∃(ar6:Array MapEntry) (a:Nat),w.heap[g.b3 k]? =some (.map ar6 a)/\ar6.toList.map (λe=>(e.key,e.val))=es/\g.U (g.b3 k)=0/\es.all (λe=>iO e.2)=true/\akv ar6 a
def fY(g:ck)(ob:cD)(g':ck)(asR:cD):Prop:=
 ∀k,(ob k).cd<=(asR k).cd/\
  (∀cs,asR k= .box (ob k).cd cs->(∃b,ob k= .box (ob k).cd b)/\g'.b3 k=g.b3 k)/\
  (∀e sz es as0,asR k= .az (ob k).cd e sz es as0->(∃a c,ob k= .az (ob k).cd e sz a c/\a.length<=es.length)/\g'.b3 k=g.b3 k/\g'.cap k=g.cap k)/\
  (∀es,asR k= .map (ob k).cd es->(∃a,ob k= .map (ob k).cd a)/\g'.b3 k=g.b3 k)
theorem gM.step{g g':ck}(h:fY g ob g' asR)(r:gM g ob p v):gM g' asR p v:=by
 cases p with
 |bn k s off=>
  obtain⟨j,a,rfl,l⟩:=r;obtain⟨n,q,_,_⟩:=h k;refine⟨y4 j n,a,rfl,λcs c=>?_⟩;have y:(asR k).cd=s:=by rw[c];rfl
  have d:s=(ob k).cd:=by omega
  obtain⟨⟨A,t⟩,u⟩:=q cs (by rw[<-d];exact c);rw[u];exact l A (by rw[d];exact t)
 |dH k s i off=>
  obtain⟨j,a,rfl,l⟩:=r;obtain⟨n,_,q,_⟩:=h k;refine⟨y4 j n,a,rfl,λe sz es as0 c=>?_⟩;have y:(asR k).cd=s:=by rw[c];rfl
  have d:s=(ob k).cd:=by omega
  obtain⟨⟨x,z,t,_⟩,u,_⟩:=q e sz es as0 (by rw[<-d];exact c);rw[u];exact l e sz x z (by rw[d];exact t)
 |az k s off len=>
  obtain⟨j,b,o,B,rfl,C,D,l⟩:=r;obtain⟨n,_,q,_⟩:=h k;refine⟨y4 j n,b,o,B,rfl,C,D,λe sz es as0 c=>?_⟩;have y:(asR k).cd=s:=by rw[c];rfl
  have d:s=(ob k).cd:=by omega
  obtain⟨⟨x,z,t,I⟩,u,E⟩:=q e sz es as0 (by rw[<-d];exact c);obtain⟨r1,F,G,H⟩:=l e sz x z (by rw[d];exact t);exact⟨by omega,by rw[u];exact F,G,by rw[E];exact H⟩
 |hG k s=>
  obtain⟨j,b,rfl,l⟩:=r;obtain⟨n,_,_,q⟩:=h k;refine⟨y4 j n,b,rfl,λes c=>?_⟩;have y:(asR k).cd=s:=by rw[c];rfl
  have d:s=(ob k).cd:=by omega
  obtain⟨⟨x,t⟩,u⟩:=q es (by rw[<-d];exact c);rw[u];exact l x (by rw[d];exact t)
 |_=>exact r.elim
theorem lP.step{g g':ck}{ob asR:cD}(h:fY g ob g' asR){p:aG}{v:Value}(r:lP g ob p v):lP g' asR p v:=by
 cases p with
 |gJ f ar9=>obtain⟨a,vs,rfl,b,c⟩:=r;exact⟨a,vs,rfl,b,λj q u d e=>(c j q u d e).imp id (gM.step h)⟩
 |bn k s off=>exact gM.step (p:= .bn k s off) h r
 |dH k s i off=>exact gM.step (p:= .dH k s i off) h r
 |az k s off len=>exact gM.step (p:= .az k s off len) h r
 |hG k s=>exact gM.step (p:= .hG k s) h r
 |_=>exact r.elim
theorem gf.step{g g':ck}{w w':World}{ob asR:cD}(a:gk g.U w g'.U w')(h:fY g ob g' asR){p:aG}{v:Value}(r:gf g w ob p v):gf g' w' asR p v:=
 r.imp (eZ.mono a) (lP.step h)
theorem dT.step{g g':ck}{w w':World}{ob asR:cD}(c:gk g.U w g'.U w')(h:fY g ob g' asR){p:aG}{v:Value}(r:dT g w ob p v):dT g' w' asR p v:=by
 rcases r with r|r|⟨cs,vs,r1,e,i,d⟩|⟨cs,vs,r1,e,i,d⟩|r
 ·exact .inl r
 ·exact .inr (.inl (r.step c h))
 ·exact .inr (.inr (.inl ⟨cs,vs,r1,e,i,λj q u a b=>⟨(d j q u a b).1,(d j q u a b).2.step c h⟩⟩))
 ·refine .inr (.inr (.inr (.inl ⟨cs,vs,r1,e,i,λj q u a b=>(d j q u a b).imp (λr=>r.step c h) ?_⟩)));rintro⟨asq,k,l,s2,s3,s4⟩;exact⟨asq,k,l,s2,s3,λj q u a b=>⟨(s4 j q u a b).1,(s4 j q u a b).2.step c h⟩⟩
 ·exact .inr (.inr (.inr (.inr (r.mono c))))
theorem fY.refl(g:ck)(ob:cD):fY g ob g ob:=
 λ_=>⟨sm _,λcs h=>⟨⟨cs,h⟩,rfl⟩,λ_ _ es as0 h=>⟨⟨es,as0,h,sm _⟩,rfl,rfl⟩,λes h=>⟨⟨es,h⟩,rfl⟩⟩
theorem fY.trans{g g' n:ck}{ob asR c:cD}(h:fY g ob g' asR)(h':fY g' asR n c):fY g ob n c:=by
 intro k;obtain⟨q,r,t,a4⟩:=h k;obtain⟨u,x,y,z⟩:=h' k;refine⟨y4 q u,λcs a=>?_,λe sz es as0 a=>?_,λes a=>?_⟩
 ·have o:(c k).cd=(ob k).cd:=by rw[a];rfl
  have b:(asR k).cd=(ob k).cd:=by omega
  obtain⟨⟨c0,d⟩,i⟩:=x cs (by rw[b];exact a);obtain⟨l,j⟩:=r c0 (by rw[<-b];exact d);exact⟨l,i.trans j⟩
 ·have o:(c k).cd=(ob k).cd:=by rw[a];rfl
  have b:(asR k).cd=(ob k).cd:=by omega
  obtain⟨⟨c0,r0,d,D⟩,i,A⟩:=y e sz es as0 (by rw[b];exact a);obtain⟨⟨c1,r1,B,E⟩,j,C⟩:=t e sz c0 r0 (by rw[<-b];exact d);exact⟨⟨c1,r1,B,by omega⟩,i.trans j,A.trans C⟩
 ·have o:(c k).cd=(ob k).cd:=by rw[a];rfl
  have b:(asR k).cd=(ob k).cd:=by omega
  obtain⟨⟨c0,d⟩,i⟩:=z es (by rw[b];exact a);obtain⟨l,j⟩:=a4 c0 (by rw[<-b];exact d);exact⟨l,i.trans j⟩
theorem kR.fg{g g':ck}{k:Nat}{o:Obj}(B:gk g.U w g'.U w')(h:fY g ob g' asR)
 (x:o.fx->g'.b3 k=g.b3 k/\g'.cap k=g.cap k/\g'.U (g.b3 k)=g.U (g.b3 k)/\w'.heap[g.b3 k]? =w.heap[g.b3 k]?)(r:kR g w ob k o):kR g' w' asR k o:=by
 cases o with
 |ax s=>trivial
 |box s cs=>
  obtain⟨a,c,b,d⟩:=x trivial;obtain⟨ar6,T,r1,l,n,t⟩:=r;refine⟨ar6,T,?_,l,?_,λj q C=>?_⟩
  ·rw[a,d];exact r1
  ·rw[a,b];exact n
  ·obtain⟨u,y,z,A⟩:=t j q C;exact⟨u,y,z,A.step B h⟩
 |az s e sz es as0=>
  obtain⟨a,c,b,d⟩:=x trivial;obtain⟨ar6,r1,l,n,t,D,py,E,F⟩:=r;refine⟨ar6,?_,?_,?_,?_,D,λi j cs p hi G=>?_,?_,?_⟩
  ·rw[a,d];exact r1
  ·rw[c];exact l
  ·rw[c];exact n
  ·rw[c];exact t
  ·obtain⟨u,y,z,A⟩:=py i j cs p hi G;exact⟨u,y,z,A.mono B⟩
  ·rw[a,b];exact E
  ·rw[a,b];exact F
 |map s es=>obtain⟨a,c,b,d⟩:=x trivial;obtain⟨ar6,H,r1,l,n,t⟩:=r;exact⟨ar6,H,by rw[a,d];exact r1,l,by rw[a,b];exact n,t⟩
structure oC (g:ck) (w:World) (ob:cD):Prop where
 ig:∀k,kR g w ob k (ob k)
 inj:∀k k',(ob k).fx->(ob k').fx->g.b3 k=g.b3 k'->k=k'
 lt:∀k,(ob k).fx->g.b3 k<w.heap.size
def nZ(g:ck)(ob:cD)(b:Nat):Prop:=∃k,(ob k).fx/\g.b3 k=b
structure akz (g:ck) (w:World) (ob:cD) (c':Nat->Nat) (w':World):Prop where
 os:w'.os=w.os
 tape:w'.tape=w.tape
 output:w'.output=w.output
 size:w.heap.size<=w'.heap.size
 block:∀b,b<w.heap.size->¬nZ g ob b->w'.heap[b]? =w.heap[b]?
 U:∀b,b<w.heap.size->¬nZ g ob b->c' b=g.U b
def sU(g:ck)(w:World)(ob:cD)(args:dA)(vs:List Value):Prop:=
 args.length=vs.length/\∀(i:Nat) (p:aG) (v:Value),args[i]? =some p->vs[i]? =some v->dT g w ob p v
def Enters(P:Program)(f:Nat):Prop:=∃fn,P.funcs[f]? =some fn/\(fn.name== "runtime.NumGoroutine")=false/\fn.body.isNone=false
structure eI where
 ak:(Nat->Nat)->World->Prop
 mono:∀{c c':Nat->Nat} {w w':World},gk c w c' w'->ak c w->ak c' w'
structure ml (g:ck) (w:World) (ob:cD) (g':ck) (w':World) (asR:cD):Prop where
 jh:akz g w ob g'.U w'
 ext:gk g.U w g'.U w'
 heap:oC g' w' asR
 step:fY g ob g' asR
 src:∀k,(asR k).fx->w.heap.size<=g'.b3 k\/nZ g ob (g'.b3 k)
def lx(gl:eI)(P:Program)(f:Nat)(args:dA)(ob:cD)(a:aG)(asR:cD):Prop:=
 Enters P f/\∀(g:ck) (w:World) (vs:List Value),gl.ak g.U w->oC g w ob->sU g w ob args vs->
  Calls P f vs.toArray w λe w'=>∃v g',e= .returned v/\ml g w ob g' w' asR/\dT g' w' asR a v
structure ey where
 dst:Option Nat
 guard:Option (Nat×Bool)
 ai:nw
 bT:List Nat
 a7:List Nat
 deriving Inhabited
def nc{α:Type}(o:Option α):List α:=match o with|some x=>[x]|none=>[]
def ds.ez{α:Type}:ds α->List α
 | .qg x=>[x]
 | .pick c a b=>[c,a,b]
 | .alloc _ _=>[]
 | .box _ x=>[x]
 | .build _ parts=>parts.map (·.2.2)
 | .m4 _ _ _ _ parts _=>parts.map (·.2)
 | .load _ _ a=>[a]
 | .store _ a v=>[a,v]
 | .qj x=>[x]
 | .qo _ x y=>[x,y]
 | .p1 _ x y=>[x,y]
 | .qn _ x y=>[x,y]
 | .pK _ x=>[x]
 | .nC _ x=>[x]
 | .p4 _ x=>[x]
 | .oQ x=>[x]
 | .oJ _ _ _ _ l c=>[l,c]
 | .p9 x lo hi=>x::(nc lo++nc hi)
 | .o9 _ x lo hi=>x::(nc lo++nc hi)
 | .p6 _ x=>[x]
 | .p5 _ _ _ x=>[x]
 | .ji _ x i=>[x,i]
 | .pJ x i=>[x,i]
 | .ext x _=>[x]
 | .len _ x=>[x]
 | .append _ _ _ s x _=>[s,x]
 | .kV _ x y=>[x,y]
 | .call f args=>f::args
 | .hV f args _=>f::args
 | .e0 _ x y=>[x,y]
 | .bits _ x y=>[x,y]
 | .qa _ ar9=>ar9
 | .pF x=>[x]
 | .mM _ _ s x _=>[s,x]
 | .oy _ _ _ _ s x _=>[s,x]
 | .oO _ _ _ x=>[x]
 | .pB _ _ x i=>[x,i]
 | .oF _ x=>[x]
 | .gY=>[]
def lj(ob:cD)(a:Bool)(p:aG):Option aG:=if a then qG ob p else some p
def lC(ob:cD)(a:Bool)(p:aG):iP:=if a then jE ob p else[]
def iU{α:Type}(ev:α->aG)(ob:cD):List Bool->List α->Option (dA×iP)
 |_,[]=>some ([],[])
 |[],x::xs=>match lj ob true (ev x),iU ev ob [] xs with
  |some q,some (a,us)=>some (q::a,lC ob true (ev x)++us)
  |_,_=>none
 |b::bs,x::xs=>match lj ob b (ev x),iU ev ob bs xs with
  |some q,some (a,us)=>some (q::a,lC ob b (ev x)++us)
  |_,_=>none
def put(asC:Nat->aG)(d:Option Nat)(v:aG):Nat->aG:=match d with|some d=>dl asC d v|none=>asC
def ds.looks{α:Type}:ds α->Bool
 | .load _ _ _=>true
 | .store _ _ _=>true
 | .o9 _ _ _ _=>true
 | .ji _ _ _=>true
 | .oQ _=>true
 | .m4 _ _ _ _ _ _=>true
 | .append _ _ _ _ _ _=>true
 | .mM _ _ _ _ _=>true
 | .oO _ _ _ _=>true
 | .oF _ _=>true
 | .call _ _=>true
 | .hV _ _ _=>true
 |_=>false
def fl(bs k:Nat):Nat:=if bs<=k/\k<bs+4096 then k-bs else if k%4096<2048 then 4096 else 4098
def ds.off{α:Type}:ds α->Nat
 | .m4 _ _ _ _ _ _=>2048
 | .oJ _ _ _ _ _ _=>2048
 | .append _ _ _ _ _ _=>2048
 | .mM _ _ _ _ _=>2048
 | .oy _ _ _ _ _ _ _=>2048
 |_=>0
def ds.mh{α:Type}:ds α->List α
 | .store _ a _=>[a]
 |r=>r.ez
def Obj.qb:Obj->List Nat
 | .box _ cs=>cs.flatMap aG.key
 |_=>[]
def ds.Pl{α:Type}:ds α->Bool
 | .hV _ _ _=>true
 |_=>false
def mK(rk:List Nat):List Nat:=rk.filterMap λc=>if 8192<=c then some (c-8192) else none
def aom(bs:Nat)(rk wk:List Nat)(ob asR:cD)(us:iP)(xs:dA)(a:aG):Prop:=
 ∀c∈mK rk,c<4096/\c∉wk/\¬(ob (bs+c)).fx/\(∀u∈us,u.1≠bs+c)/\(∀k,bs+c∉(ob k).qb)/\(∀k,bs+c∉(asR k).qb)/\(∀p∈xs,bs+c∉p.cR)/\bs+c∉a.cR
def Pr(bs:Nat)(asB:Bool)(o:ey)(ev:Operand->aG):Prop:=asB=true->o.ai.looks=true->∀x∈o.ai.mh,∀k∈(ev x).cR,fl bs k∈o.bT\/(4097∈o.bT/\o.ai.Pl=true)
def Hv(bs:Nat)(asB:Bool)(o:ey)(us:iP):Prop:=asB=true->∀u∈us,fl bs u.1∈o.a7
def l6(asC:Nat->aG):Option (Nat×Bool)->Option Bool
 |none=>some true
 |some (t,a)=>match asC t with
  | .bu (.bool b)=>some (b==a)
  | .a0 []=>some false
  |_=>none
def qY:Nat->Obj:=λ_=> .ax 0
def uP(gl:eI)(P:Program)(f:Nat)(args:dA)(a:aG):Prop:=lx gl P f args qY a qY/\a.cR=[]
def oH:aG->Option (Nat×dA)
 | .bu (.func (.func f) ⟨[]⟩ ⟨[]⟩)=>some (f,[])
 | .gJ f ar9=>some (f,ar9)
 |_=>none
def nW(gl:eI)(P:Program)(bs:Nat)(asB:Bool)(o:ey)(s:df)(K:df->Prop):Prop:=
 match l6 s.aC o.guard with
 |some true=>
  Pr bs asB o (c9 s.aC)/\
  match o.ai with
  | .call f args=>
    match c9 s.aC f with
    | .bu (.func (.func c) _ _)=>
      match iU (c9 s.aC) s.bo [] args with
      |some (b,us)=>∃a,uP gl P c b a/\Hv bs asB o us/\K ⟨put s.aC o.dst a,c7 s.bo us⟩
      |none=>False
    |_=>False
  | .hV f args d=>
    match oH (c9 s.aC f) with
    |some (c,ar9)=>
     match iU (c9 s.aC) s.bo d args with
     |some (b,us)=>∃a asR,lx gl P c (b++ar9) (c7 s.bo us) a asR/\(asB=true->4097∈o.bT/\(∀k,asR k=s.bo k\/fl bs k∈o.a7)/\aom bs o.bT o.a7 (c7 s.bo us) asR us ((f::args).map (c9 s.aC)++(b++ar9)) a)/\K ⟨put s.aC o.dst a,asR⟩
     |none=>False
    |none=>False
  |r=>
   match b6 (c9 s.aC) s.bo (bs+r.off+o.dst.getD 0) r with
   |some (v,us)=>Hv bs asB o us/\K ⟨put s.aC o.dst v,c7 s.bo us⟩
   |none=>False
 |some false=>K ⟨put s.aC o.dst (.a0 []),s.bo⟩
 |none=>False
def mI(gl:eI)(P:Program)(bs:Nat)(asB:Bool):List ey->df->(df->Prop)->Prop
 |[],s,K=>K s
 |o::os,s,K=>nW gl P bs asB o s λa=>mI gl P bs asB os a K
inductive pY where
 |skip
 |region (asB:Bool) (asX:List ey)
 |seq (a b:pY)
 |cond (c:Operand) (a b:pY)
 |block (id:Nat) (b:pY)
 |loop (b:pY)
 |exit (id:Nat)
 |ret
 deriving Inhabited
inductive ne where
 |normal
 |exit (id:Nat)
 |ret
 deriving DecidableEq,Inhabited
def xX(K:df->Prop)(Q:ne->df->Prop):ne->df->Prop
 | .normal,s=>K s
 |e,s=>Q e s
def CK(id:Nat)(Q:ne->df->Prop):ne->df->Prop
 | .exit i,s=>if i=id then Q .normal s else Q (.exit i) s
 |e,s=>Q e s
def u9(K:df->Prop)(s:df):Prop:=∃a,(∀i,a i= .undef\/a i=s.aC i)/\K ⟨a,s.bo⟩
theorem aoh{K:df->Prop}{s:df}(h:K s):u9 K s:=⟨s.aC,λ_=> .inr rfl,h⟩
def rounds(F:(ne->df->Prop)->df->Prop)(Q:ne->df->Prop):Nat->df->Prop
 |0,_=>False
 |n+1,s=>u9 (F (xX (rounds F Q n) Q)) s
def kG(gl:eI)(P:Program)(bs:Nat):pY->(ne->df->Prop)->df->Prop
 | .skip,Q,s=>Q .normal s
 | .region asB asX,Q,s=>mI gl P bs asB asX s (Q .normal)
 | .seq a b,Q,s=>kG gl P bs a (xX (u9 (kG gl P bs b Q)) Q) s
 | .cond c a b,Q,s=>match c9 s.aC c with
   | .bu (.bool true)=>kG gl P bs a Q s
   | .bu (.bool false)=>kG gl P bs b Q s
   |_=>False
 | .block id b,Q,s=>kG gl P bs b (CK id Q) s
 | .loop b,Q,s=>∃n,rounds (kG gl P bs b) Q n s
 | .exit id,Q,s=>Q (.exit id) s
 | .ret,Q,s=>Q .ret s
end
section
variable{n B:Nat} {O:Nat->Prop} {gl:eI} {ph:ck×cD×World×List Deferred} {g:ck} {s:df} {a:Act} {w:World}
structure ct (gl:eI) (ph:ck×cD×World×List Deferred) (n B:Nat) (O:Nat->Prop) (g:ck) (s:df) (a:Act) (w:World):Prop where
 size:a.tmps.size=n
 defers:a.defers=ph.2.2.2
 kK:B<=w.heap.size
 aC:∀i,dT g w s.bo (s.aC i) (a.tmps.getD i undef)
 ig:∀k,kR g w s.bo k (s.bo k)
 inj:∀k k',(s.bo k).fx->(s.bo k').fx->g.b3 k=g.b3 k'->k=k'
 jI:∀k,(s.bo k).fx->(B<=g.b3 k\/O (g.b3 k))/\g.b3 k<w.heap.size
 uM:fY ph.1 ph.2.1 g s.bo/\gk ph.1.U ph.2.2.1 g.U w
 xv:gl.ak g.U w
theorem ct.u9(h:ct gl ph n B O g s a w){b:Nat->aG}(c:∀i,b i= .undef\/b i=s.aC i):ct gl ph n B O g ⟨b,s.bo⟩ a w:=
 ⟨h.size,h.defers,h.kK,λi=>by
  rcases c i with e|e
  ·exact .inl e
  ·show dT g w s.bo (b i) _;rw[e];exact h.aC i,h.ig,h.inj,h.jI,h.uM,h.xv⟩
theorem ct.zp{g':ck}{w':World}(h:ct gl ph n B O g s a w)(asR:cD)(rZ:Nat->Prop)(d:gk g.U w g'.U w')(r:fY g s.bo g' asR)
 (o:∀k,¬rZ k->asR k=s.bo k)
 (p:∀k,¬rZ k->(s.bo k).fx->g'.b3 k=g.b3 k/\g'.cap k=g.cap k/\g'.U (g.b3 k)=g.U (g.b3 k)/\w'.heap[g.b3 k]? =w.heap[g.b3 k]?)
 (l:∀k,rZ k->(asR k).fx->kR g' w' asR k (asR k)/\(B<=g'.b3 k\/O (g'.b3 k))/\g'.b3 k<w'.heap.size/\∀b,b≠k->(asR b).fx->g'.b3 b≠g'.b3 k):
 ct gl ph n B O g' ⟨s.aC,asR⟩ a w':=by
 refine⟨h.size,h.defers,y4 h.kK d.size,λi=>(h.aC i).step d r,λk=>?_,λk b c t u=>?_,λk c=>?_,⟨h.uM.1.trans r,h.uM.2.trans d⟩,gl.mono d h.xv⟩
 ·rcases ie (rZ k) with e|e
  ·rcases ie (asR k).fx with c|c
   ·exact(l k e c).1
   ·show kR g' w' asR k (asR k);cases C:asR k<;>simp_all [Obj.fx,kR]
  ·show kR g' w' asR k (asR k);rw[o k e];exact kR.fg d r (p k e) (h.ig k)
 ·by_cases y:k=b
  ·exact y
  rcases ie (rZ k) with e|e
  ·exact absurd u.symm ((l k e c).2.2.2 b (λx=>y x.symm) t)
  ·rcases ie (rZ b) with q|q
   ·exact absurd u ((l b q t).2.2.2 k y c)
   ·have j:(s.bo k).fx:=by rw[<-o k e];exact c
    have z:(s.bo b).fx:=by rw[<-o b q];exact t
    have A:g'.b3 k=g'.b3 b:=u;rw[(p k e j).1,(p b q z).1] at A;exact h.inj k b j z A
 ·rcases ie (rZ k) with e|e
  ·exact⟨(l k e c).2.1,(l k e c).2.2.1⟩
  ·have j:(s.bo k).fx:=by rw[<-o k e];exact c
   show(B<=g'.b3 k\/O (g'.b3 k))/\g'.b3 k<w'.heap.size;rw[(p k e j).1];exact⟨(h.jI k j).1,iC (h.jI k j).2 d.size⟩
theorem ct.put{n B:Nat}{O:Nat->Prop}{gl:eI}{ph:ck×cD×World×List Deferred}{g:ck}{s:df}{a:Act}{w:World}(h:ct gl ph n B O g s a w)(d:Option Nat)(hd:∀t,d=some t->t<n){p:aG}{v:Value}(b:dT g w s.bo p v):
 ct gl ph n B O g ⟨put s.aC d p,s.bo⟩ (a.put d v) w:=by
 cases d with
 |none=>exact⟨h.size,h.defers,h.kK,h.aC,h.ig,h.inj,h.jI,h.uM,h.xv⟩
 |some t=>
  have c:=hd t rfl;refine⟨by simp[Act.put,h.size],by simp[Act.put,h.defers],h.kK,λi=>?_,h.ig,h.inj,h.jI,h.uM,h.xv⟩;simp only[Hf.put,Act.put,dl];by_cases e:i=t
  ·subst e;simp[nK,h.size,c];exact b
  ·have:=h.aC i;simp only[e,st];rw[nK,OB,Ca (λx=>e x.symm),<-nK];exact this
end
section
variable{t:TypeId} {i:TypeInfo} {n:Nat} {v u:Value} {cs:dA}
section
variable{P:Program} {w:World}
theorem run_newObj(o:Go.Obj):(newObj o).run P w= .ok w.heap.size (w.alloc o):=rfl
theorem run_typeInfo(h:P.info? t=some i):(typeInfo t).run P w= .ok i w:=by simp only[typeInfo,q6,program,Sem.run,MT,h];rfl
theorem CE{z:Value}(h:P.info? t=some i)(b:i.zero=some z):(zeroValue t).run P w= .ok z w:=by simp only[zeroValue,q6,run_typeInfo h,MT,b];rfl
theorem run_sizeOf(h:P.info? t=some i):(sizeOf t).run P w= .ok i.size w:=by simp only[sizeOf,q6,run_typeInfo h,MT];rfl
def Ax:TypeDesc->Bool
 | .struct _=>true
 | .array _ _=>true
 |_=>false
theorem yZ{d:TypeDesc}(h:P.underlying t=some d):(isAgg t).run P w= .ok (Ax d) w:=by simp only[isAgg,q6,ux h,MT];cases d<;>rfl
def vB(P:Program)(t:TypeId)(b:Bool)(n:Nat):Prop:=
 ∃i d,P.info? t=some i/\i.size=n/\P.underlying t=some d/\Ax d=b/\(b=false->n=1)
theorem add_lit(b o n:Nat):(⟨b,o,none⟩:Addr).add n=⟨b,o+n,none⟩:=by unfold Addr.add;split<;>simp_all
theorem avf(c:vB P t true n)(b o:Nat)(vs:List Value)(e:vs.length=n)
 (h:∀(j:Nat) (v:Value),vs[j]? =some v->w.cell? ⟨b,o+j,none⟩=some v):(loadVar t ⟨b,o,none⟩).run P w= .ok (.agg vs.toArray) w:=by
 obtain⟨i,d,hi,k,l,hd,_⟩:=c;have p:=run_loadCells_list (P:=P) w ⟨b,o,none⟩ vs (λj v q=>by rw[add_lit];exact h j v q);simp only[loadVar,q6,yZ l,hd,MT,w6,run_sizeOf hi,k,<-e,p,wd]
theorem ar2(b:vB P t false n)(a:Addr)(v:Value)(c:w.cell? a=some v):(loadVar t a).run P w= .ok v w:=by obtain⟨i,d,hi,h,e,hd,_⟩:=b;simp only[loadVar,q6,yZ e,hd,MT,Nn,st,load,Sem.run,c]
theorem aa9{h:Bool}(j:vB P t h n)(g o T:Nat)(b:Array Value)(v:Value)(k:w.heap[g]? =some (.cells b T (0,0)))(c:v.cells.size=n)
 (r:o+n<=b.size)(l:∀u∈v.cells.toList,u.oneCell'=true):
 (storeVar t ⟨g,o,none⟩ v).run P w= .ok () (w.setRow g (b.toList.take o++v.cells.toList++b.toList.drop (o+n)).toArray):=by
 obtain⟨i,d,hi,p,x,hd,_⟩:=j;have e:=run_storeCells_at P g o T v.cells.toList 0 b w k (by simp[c];omega) l;have q:v.cells.toList.length=n:=by simp[c]
 simp only[storeVar,q6,run_sizeOf hi,MT,p,c,ne_eq,not_true_eq_false,st];simp only[gU,q] at e;exact e
theorem D0(w:World)(g:Nat)(x:Array Value):(w.setRow g x).os=w.os/\(w.setRow g x).tape=w.tape/\(w.setRow g x).output=w.output/\(w.setRow g x).heap.size=w.heap.size:=by simp[World.setRow]
end
section
variable{P:Program} {o:Oper} {a:Act} {w w':World} {K:Act->World->Prop} {Q:Exit->Act->World->Prop}
theorem wK(h:(execOp a.eval o).run P w= .ok (.value v) w')(b:K (a.put o.dst v) w'):o.wp P a w K Q:=by simp only[Oper.wp,h,Oper.upon];exact b
theorem Vd(h:(execOp a.eval o).run P w= .ok .skip w')(b:K (a.put o.dst undef) w'):o.wp P a w K Q:=by simp only[Oper.wp,h,Oper.upon];exact b
theorem Vs{f:FuncId}{args:Array Value}(h:(execOp a.eval o).run P w= .ok (.enter f args) w')
 (c:Calls P f args w' λe b=>∃v,e= .returned v/\K (a.put o.dst v) b):o.wp P a w K Q:=by
 simp only[Oper.wp,h,Oper.upon];refine c.mono ?_;rintro e b ⟨v,rfl,d⟩;exact d
end
section
variable{g:ck} {w:World} {ob:cD}
theorem eZ.fB{c:Nat->Nat}(h:eZ c w (.bu u) v):v=u/\iO u=true:=by cases h with|bu h=>exact⟨rfl,h⟩
theorem dT.fB{u v:Value}(h:dT g w ob (.bu u) v):v=u/\iO u=true:=by
 rcases h with h|(h|h)|⟨_,_,h,_⟩|⟨_,_,h,_⟩|⟨_,_,_,h,_⟩
 ·cases h
 ·exact h.fB
 ·exact h.elim
 ·cases h
 ·cases h
 ·cases h
theorem dT.ju{p:aG}(h:dT g w ob p v)(b:p.key≠[]):lP g ob p v:=by
 rcases h with h|(h|h)|⟨_,_,h,_⟩|⟨_,_,h,_⟩|⟨_,_,_,h,_⟩
 ·subst h;simp[aG.key,aG.cf] at b
 ·cases h<;>simp[aG.key,aG.cf] at b
 ·exact h
 ·subst h;simp[aG.key,aG.cf] at b
 ·subst h;simp[aG.key,aG.cf] at b
 ·subst h;simp[aG.key,aG.cf] at b
theorem dT.u3{sz:Nat}{es:kO}(h:dT g w ob (.aQ sz es) v):eZ g.U w (.aQ sz es) v:=by
 rcases h with h|(h|h)|⟨_,_,h,_⟩|⟨_,_,h,_⟩|⟨_,_,_,h,_⟩
 ·cases h
 ·exact h
 ·exact h.elim
 ·cases h
 ·cases h
 ·cases h
theorem dT.y5{off:Nat}(h:dT g w ob (.ep cs off) v):eZ g.U w (.ep cs off) v:=by
 rcases h with h|(h|h)|⟨_,_,h,_⟩|⟨_,_,h,_⟩|⟨_,_,_,h,_⟩
 ·cases h
 ·exact h
 ·exact h.elim
 ·cases h
 ·cases h
 ·cases h
theorem dT.ZM{f:Nat}{ar9:dA}(h:dT g w ob (.gJ f ar9) v):lP g ob (.gJ f ar9) v:=by
 rcases h with h|(h|h)|⟨_,_,h,_⟩|⟨_,_,h,_⟩|⟨_,_,_,h,_⟩
 ·cases h
 ·cases h
 ·exact h
 ·cases h
 ·cases h
 ·cases h
theorem dT.x5(h:dT g w ob (.agg cs) v):
 ∃vs:List Value,v= .agg vs.toArray/\cs.length=vs.length/\∀(j:Nat) (q:aG) (u:Value),cs[j]? =some q->vs[j]? =some u->q.hK=true/\gf g w ob q u:=by
 rcases h with h|(h|h)|⟨asq,vs,h,c,d,e⟩|⟨_,_,h,_⟩|⟨_,_,_,h,_⟩
 ·cases h
 ·cases h with
  |agg k l p=>exact⟨_,rfl,k,λj q u b r=>⟨l j q b,.inl (p j q u b r)⟩⟩
 ·exact h.elim
 ·cases h;exact⟨vs,c,d,e⟩
 ·cases h
 ·cases h
theorem dT.aaH{b:dA}(h:dT g w ob (.a0 b) v)(c:b.head?≠some .undef):
 ∃vs:List Value,v= .tuple vs.toArray/\b.length=vs.length/\∀(j:Nat) (q:aG) (u:Value),b[j]? =some q->vs[j]? =some u->gf g w ob q u\/Zi g w ob q u:=by
 rcases h with h|(h|h)|⟨_,_,h,_⟩|⟨asq,vs,h,d,e,k⟩|⟨_,_,_,h,_⟩
 ·cases h
 ·cases h
 ·exact h.elim
 ·cases h
 ·cases h;exact⟨vs,d,e,k⟩
 ·cases h;exact absurd rfl c
theorem PG(h:iO v=true):v.oneCell'=true:=by cases v<;>simp_all [iO,Value.oneCell']
theorem gf.pI{q:aG}(c:q.hK=true)(h:gf g w ob q u):u.oneCell'=true:=by
 rcases h with h|h
 ·cases h with
  |bu h=>exact PG h
  |aQ=>rfl
  |ep=>rfl
  |agg=>simp[aG.hK] at c
 ·cases q with
  |bn k s off=>obtain⟨_,a,rfl,_⟩:=h;rfl
  |dH k s i off=>obtain⟨_,a,rfl,_⟩:=h;rfl
  |az k s off len=>obtain⟨_,b,o,d,rfl,_⟩:=h;rfl
  |hG k s=>obtain⟨_,b,rfl,_⟩:=h;rfl
  |gJ f ar9=>obtain⟨_,vs,rfl,_⟩:=h;rfl
  |_=>exact h.elim
theorem ul(h:v.oneCell'=true):v.cells= #[v]:=by cases v<;>simp_all [Value.oneCell',Value.cells]
theorem dT.cells{p:aG}{v:Value}{cs:dA}(h:dT g w ob p v)(d:p.cells=some cs):
 v.cells.toList.length=cs.length/\∀(j:Nat) (q:aG),cs[j]? =some q->∃u,v.cells.toList[j]? =some u/\q.hK=true/\gf g w ob q u:=by
 cases p with
 |agg asq=>
  obtain rfl:asq=cs:=by simpa[aG.cells] using d
  obtain⟨vs,rfl,x,y⟩:=h.x5;refine⟨by simp[Value.cells,x],λj q b=>?_⟩;have r:j<vs.length:=by have:=(e6.1 b).1;omega
  exact⟨vs[j],by simp[Value.cells,r],y j q _ b (dC r)⟩
 |undef=>simp[aG.cells] at d
 |a0=>simp[aG.cells] at d
 |bu u=>
  obtain rfl:[aG.bu u]=cs:=by simpa[aG.cells] using d
  obtain⟨rfl,l⟩:=h.fB;rw[ul (PG l)];refine⟨rfl,λj q b=>?_⟩
  match j,b with
  |0,b=>obtain rfl:aG.bu _=q:=by simpa using b
        exact⟨_,rfl,l,.inl (.bu l)⟩
 |aQ sz es=>
  obtain rfl:[aG.aQ sz es]=cs:=by simpa[aG.cells] using d
  have c:gf g w ob (.aQ sz es) v:= .inl h.u3;rw[ul (c.pI rfl)];refine⟨rfl,λj q b=>?_⟩
  match j,b with
  |0,b=>obtain rfl:aG.aQ sz es=q:=by simpa using b
        exact⟨_,rfl,rfl,c⟩
 |ep e off=>
  obtain rfl:[aG.ep e off]=cs:=by simpa[aG.cells] using d
  have c:gf g w ob (.ep e off) v:= .inl h.y5;rw[ul (c.pI rfl)];refine⟨rfl,λj q b=>?_⟩
  match j,b with
  |0,b=>obtain rfl:aG.ep e off=q:=by simpa using b
        exact⟨_,rfl,rfl,c⟩
 |bn k s off=>
  obtain rfl:[aG.bn k s off]=cs:=by simpa[aG.cells] using d
  have c:gf g w ob (.bn k s off) v:= .inr (h.ju (by simp[aG.key,aG.cf]));rw[ul (c.pI rfl)];refine⟨rfl,λj q b=>?_⟩
  match j,b with
  |0,b=>obtain rfl:aG.bn k s off=q:=by simpa using b
        exact⟨_,rfl,rfl,c⟩
 |az k s off len=>
  obtain rfl:[aG.az k s off len]=cs:=by simpa[aG.cells] using d
  have c:gf g w ob (.az k s off len) v:= .inr (h.ju (by simp[aG.key,aG.cf]));rw[ul (c.pI rfl)];refine⟨rfl,λj q b=>?_⟩
  match j,b with
  |0,b=>obtain rfl:aG.az k s off len=q:=by simpa using b
        exact⟨_,rfl,rfl,c⟩
 |dH k s i off=>
  obtain rfl:[aG.dH k s i off]=cs:=by simpa[aG.cells] using d
  have c:gf g w ob (.dH k s i off) v:= .inr (h.ju (by simp[aG.key,aG.cf]));rw[ul (c.pI rfl)];refine⟨rfl,λj q b=>?_⟩
  match j,b with
  |0,b=>obtain rfl:aG.dH k s i off=q:=by simpa using b
        exact⟨_,rfl,rfl,c⟩
 |hG k s=>
  obtain rfl:[aG.hG k s]=cs:=by simpa[aG.cells] using d
  have c:gf g w ob (.hG k s) v:= .inr (h.ju (by simp[aG.key,aG.cf]));rw[ul (c.pI rfl)];refine⟨rfl,λj q b=>?_⟩
  match j,b with
  |0,b=>obtain rfl:aG.hG k s=q:=by simpa using b
        exact⟨_,rfl,rfl,c⟩
 |gJ f ar9=>
  obtain rfl:[aG.gJ f ar9]=cs:=by simpa[aG.cells] using d
  have c:gf g w ob (.gJ f ar9) v:= .inr h.ZM;rw[ul (c.pI rfl)];refine⟨rfl,λj q b=>?_⟩
  match j,b with
  |0,b=>obtain rfl:aG.gJ f ar9=q:=by simpa using b
        exact⟨_,rfl,rfl,c⟩
end
def ar3:Value->Bool
 | .agg cs=>cs.toList.all iO
 |v=>iO v
def cJ:Operand->Bool
 | .const v=>ar3 v
 |_=>true
theorem ct.fF{B:Nat}{r:Nat->Prop}{gl:eI}{y:ck×cD×World×List Deferred}{g:ck}{s:df}{a:Act}{w:World}(h:ct gl y n B r g s a w){x:Operand}(c:cJ x=true):dT g w s.bo (c9 s.aC x) (a.eval x):=by
 cases x with
 |tmp t=>exact h.aC t
 |const v=>
  cases v with
  |agg cs=>
   refine .inr (.inl (.inl ?_));have d:cs.toList.all iO=true:=c;have e:(Value.agg cs)=Value.agg cs.toList.toArray:=by simp
   show eZ g.U w (aG.agg (cs.toList.map aG.bu)) (Value.agg cs);rw[e];refine .agg (by simp) (λj p k=>?_) (λj p v l b=>?_)
   ·simp only[O8,Pq] at k;obtain⟨v,b,rfl⟩:=k;exact M2.1 d v (On b)
   ·simp only[O8,Pq] at l;obtain⟨z,q,rfl⟩:=l;rw[b] at q;cases q;exact .bu (M2.1 d v (On b))
  |_=>exact .inr (.inl (.inl (.bu c)))
 |global g'=>exact .inl rfl
 |func f=>exact .inr (.inl (.inl (.bu rfl)))
end
section
variable{p:aG} {v:Value} {op:BinOp} {x y:Operand} {us:iP}
def r5(neg:Bool):BinOp:=if neg then .neq else .eql
def ue(P:Program)(t:TypeId)(sz:Nat)(zero:List Value):Prop:=
 ∃i z,P.info? t=some i/\i.zero=some z/\z.cells.toList=zero/\i.size=sz/\zero.length=sz/\zero.all iO=true
def Cz(b:Nat->Option (Nat×Nat)):List (Nat×Operand)->List (Nat×Nat×Operand)->Prop
 |[],[]=>True
 |(i,x)::r,(off,n,y)::q=>b i=some (off,n)/\x=y/\cJ x=true/\Cz b r q
 |_,_=>False
def YC(P:Program)(t:TypeId)(parts:List (Nat×Operand))(c:List (Nat×Nat×Operand)):Prop:=
 (∃b:Array Field,P.underlying t=some (.struct b)/\(∀(k:Nat) (f:Field),b[k]? =some f->(P.info? f.type).isSome=true)/\
  Cz (λk=>(b[k]?).bind λf=>(P.info? f.type).map λi=>(f.offset,i.size)) parts c)\/
 (∃(n:Nat) (e:TypeId) (i:TypeInfo),P.underlying t=some (.array n e)/\P.info? e=some i/\Cz (λk=>some (k*i.size,i.size)) parts c)
def gA(P:Program)(o:Oper):nw->Prop
 | .qg x=>(o.op= .move x\/o.op= .assign x)/\cJ x=true
 | .pick c a b=>o.op= .pick c a b/\cJ c=true/\cJ a=true/\cJ b=true
 | .alloc t zero=>o.op= .alloc t/\t<65536/\o.dst.isSome=true/\∃sz,ue P t sz zero
 | .box t x=>o.op= .box t x/\t<65536/\o.dst.isSome=true/\cJ x=true
 | .build zero C=>∃t parts sz,o.op= .build t parts/\ue P t sz zero/\YC P t parts.toList C
 | .m4 e sz zero len C _=>∃t parts,o.op= .buildSlice t len parts/\o.dst.isSome=true/\P.underlying t=some (.slice e)/\ue P e sz zero/\parts.toList=C/\0<sz/\len*sz<=16777216/\C.all (λp=>cJ p.2)=true
 | .load q n x=>∃t,o.op= .load t x/\vB P t q n/\cJ x=true
 | .store n x v=>∃t q,o.op= .store t x v/\vB P t q n/\cJ x=true/\cJ v=true
 | .qj x=>o.op= .nilCheck x/\cJ x=true
 | .qo op x y=>∃t h,o.op= .binOp op t x y h/\cJ x=true/\cJ y=true
 | .p1 neg x y=>∃t h,o.op= .binOp (r5 neg) t x y h/\P.underlying t=some .bool/\cJ x=true/\cJ y=true
 | .qn neg x y=>∃t h f1 f2,o.op= .binOp (r5 neg) t x y h/\P.underlying t=some (.struct #[f1,f2])/\f1.name≠ "_" /\f2.name≠ "_" /\f1.offset=0/\f2.offset=1/\
  P.underlying f1.type=some .string/\P.underlying f2.type=some .string/\P.stoodInHeld t=false/\P.eqGuardType P.depth t=false/\cJ x=true/\cJ y=true
 | .pK neg x=>∃t h e,o.op= .binOp (r5 neg) t x (.const (.slice none 0 0)) h/\P.underlying t=some (.slice e)/\cJ x=true
 | .nC op x=>∃t,o.op= .unOp op t x/\cJ x=true
 | .p4 k x=>∃s t d,o.op= .convert s t x/\P.underlying s=some d/\P.underlying t=some (.int k)/\cJ x=true
 | .oQ x=>∃s t e,o.op= .convert s t x/\P.underlying s=some (.slice e)/\P.underlying e=some (.int .u8)/\P.underlying t=some .string/\cJ x=true
 | .oJ e sz bytes zero l c=>∃t i,o.op= .makeSlice t l c/\o.dst.isSome=true/\P.underlying t=some (.slice e)/\ue P e sz zero/\P.info? e=some i/\i.bytes=bytes/\0<sz/\cJ l=true/\cJ c=true
 | .p9 x lo hi=>∃t,o.op= .slice t x lo hi none/\P.underlying t=some .string/\cJ x=true/\(nc lo++nc hi).all cJ=true
 | .o9 sz x lo hi=>∃t e i,o.op= .slice t x lo hi none/\P.underlying t=some (.slice e)/\P.info? e=some i/\i.size=sz/\cJ x=true/\(nc lo++nc hi).all cJ=true
 | .p6 off x=>∃t r k f i,o.op= .fieldAddr t x k/\P.underlying t=some (.struct r)/\r[k]? =some f/\f.offset=off/\P.info? f.type=some i/\i.size≠0/\cJ x=true
 | .p5 q off n x=>∃t r k f,o.op= .field t x k/\P.underlying t=some (.struct r)/\r[k]? =some f/\f.offset=off/\vB P f.type q n/\cJ x=true
 | .ji sz x i=>∃t e j,o.op= .indexAddr t x i/\P.underlying t=some (.slice e)/\P.info? e=some j/\j.size=sz/\cJ x=true/\cJ i=true
 | .pJ x i=>∃t,o.op= .index t x i/\P.underlying t=some .string/\cJ x=true/\cJ i=true
 | .ext x i=>o.op= .extract x i/\cJ x=true
 | .len D x=>∃t,o.op= .call {callee:= .builtin .len,args:= #[x],argTypes:= #[t]}/\(if D then P.underlying t=some .string else∃e,P.underlying t=some (.slice e))/\cJ x=true
 | .append e sz bytes s x _=>∃t i,o.op= .call {callee:= .builtin .append,args:= #[s,x],argTypes:= #[t,t]}/\o.dst.isSome=true/\P.underlying t=some (.slice e)/\P.info? e=some i/\i.bytes=bytes/\
  (∃z,i.zero=some z/\z.cells.size=sz)/\i.size=sz/\0<sz/\cJ s=true/\cJ x=true
 | .kV E x y=>∃u,o.op= .call {callee:= .builtin (if E then .max else .min),args:= #[x,y],argTypes:=u}/\cJ x=true/\cJ y=true
 | .call f args=>∃u,o.op= .call {callee:= .value f,args:=args.toArray,argTypes:=u}/\cJ f=true/\args.all cJ=true
 | .hV f args _=>∃u,o.op= .call {callee:= .value f,args:=args.toArray,argTypes:=u}/\cJ f=true/\args.all cJ=true
 | .e0 op x y=>∃t h,o.op= .binOp op t x y h/\cJ x=true/\cJ y=true
 | .bits op x y=>∃t h,o.op= .binOp op t x y h/\cJ x=true/\cJ y=true
 | .qa f ar9=>o.op= .makeFunc (.func f) #[] ar9.toArray/\ar9.all cJ=true
 | .mM e bytes s x _=>∃t A i z,o.op= .call {callee:= .builtin .append,args:= #[s,x],argTypes:= #[t,A]}/\o.dst.isSome=true/\P.underlying t=some (.slice e)/\P.underlying A=some .string/\P.info? e=some i/\i.bytes=bytes/\
  i.zero=some z/\z.cells.size=1/\i.size=1/\cJ s=true/\cJ x=true
 | .oy e sz bytes zero s x _=>∃t A i k,o.op= .call {callee:= .builtin .append,args:= #[s,x],argTypes:= #[t,A]}/\o.dst.isSome=true/\P.underlying t=some (.slice e)/\P.underlying A=some (.int k)/\P.info? e=some i/\i.bytes=bytes/\
  ue P e sz zero/\0<sz/\cJ s=true/\cJ x=true
 | .pF x=>∃t e,o.op= .call {callee:= .builtin .cap,args:= #[x],argTypes:= #[t]}/\P.underlying t=some (.slice e)/\cJ x=true
 | .oO e sz zero x=>∃t,o.op= .call {callee:= .builtin .clear,args:= #[x],argTypes:= #[t]}/\P.underlying t=some (.slice e)/\ue P e sz zero/\0<sz/\cJ x=true
 | .pB n sz x i=>∃t e j,o.op= .indexAddr t x i/\P.underlying t=some (.array n e)/\P.info? e=some j/\j.size=sz/\cJ x=true/\cJ i=true
 | .oF n x=>∃t e j,o.op= .slice t x none none none/\P.underlying t=some (.array n e)/\P.info? e=some j/\j.size=1/\cJ x=true
 | .gY=>True
structure gn (B:Nat) (O:Nat->Prop) (U:Nat->Nat) (w:World) (c':Nat->Nat) (w':World):Prop where
 os:w'.os=w.os
 tape:w'.tape=w.tape
 output:w'.output=w.output
 size:w.heap.size<=w'.heap.size
 block:∀b,b<B->¬O b->w'.heap[b]? =w.heap[b]?
 U:∀b,b<B->¬O b->c' b=U b
theorem gn.refl(B:Nat)(O:Nat->Prop)(c:Nat->Nat)(w:World):gn B O c w c w:=⟨rfl,rfl,rfl,sm _,λ_ _ _=>rfl,λ_ _ _=>rfl⟩
theorem gn.trans{B:Nat}{O:Nat->Prop}{c i j:Nat->Nat}{w w' l:World}(h:gn B O c w i w')(k:gn B O i w' j l):gn B O c w j l:=
 ⟨k.os.trans h.os,k.tape.trans h.tape,k.output.trans h.output,y4 h.size k.size,λb d e=>(k.block b d e).trans (h.block b d e),λb d e=>(k.U b d e).trans (h.U b d e)⟩
section
variable{P:Program} {n B bs:Nat} {O:Nat->Prop} {gl:eI} {ph:ck×cD×World×List Deferred} {g:ck} {s:df} {a:Act} {w:World} {o:Oper} {K:Act->World->Prop} {Q:Exit->Act->World->Prop}
def gL(gl:eI)(ph:ck×cD×World×List Deferred)(n B:Nat)(O:Nat->Prop)(g:ck)(w:World)(c:df)(K:Act->World->Prop):Prop:=
 ∀g' b w',ct gl ph n B O g' c b w'->gn B O g.U w g'.U w'->K b w'
theorem gj(h:ct gl ph n B O g s a w)(hd:∀t,o.dst=some t->t<n)(b:(execOp a.eval o).run P w= .ok (.value v) w)(c:dT g w s.bo p v)
 (d:gL gl ph n B O g w ⟨put s.aC o.dst p,s.bo⟩ K):o.wp P a w K Q:=
 wK b (d g _ w (h.put o.dst hd c) (gn.refl _ _ _ _))
theorem dT.bu{g:ck}{w:World}{ob:cD}{v:Value}(h:iO v=true):dT g w ob (.bu v) v:= .inr (.inl (.inl (.bu h)))
theorem afe{x y:Value}(h:jW op x y=some v):iO v=true:=by
 unfold jW at h;split at h
 ·split at h
  ·split at h<;>(try split at h)<;>first|(cases h;done)|(cases h;rfl)|(simp at h)
  ·simp at h
 ·split at h<;>(try split at h)<;>first|(cases h;done)|(cases h;rfl)|(simp at h)
 ·simp at h
theorem ajb(op:BinOp)(t:TypeId)(c d:Operand)(x y v:Value)(h:jW op x y=some v):
 (do eqGuard op t c d x y;binOp op t x y:Sem Value).run P w= .ok v w:=by
 unfold jW at h;split at h
 ·rename_i k a j b;split at h
  ·rename_i e;subst e;split at h<;>(try split at h)<;>first|(cases h;done)|(cases h;simp[eqGuard,binOp,Op.intArith,Op.intDiv,Op.intCmp, *])|(simp at h)
  ·simp at h
 ·split at h<;>(try split at h)<;>first|(cases h;done)|(cases h;simp[eqGuard,binOp,Op.stringOp, *];done)|(cases h;simp[eqGuard,binOp,Op.stringOp];rename_i i;simp at i;omega)|(simp at h)
 ·simp at h
theorem aj5(h:ct gl ph n B O g s a w)(hd:∀t,o.dst=some t->t<n)(c:gA P o (.qg x))(d:gL gl ph n B O g w ⟨put s.aC o.dst (c9 s.aC x),s.bo⟩ K):o.wp P a w K Q:=by obtain⟨b,e⟩:=c;refine gj h hd (v:=a.eval x) ?_ (h.fF e) d;rcases b with b|b<;>simp only[execOp,b]<;>rfl
theorem aAP{c:Operand}(h:ct gl ph n B O g s a w)(hd:∀t,o.dst=some t->t<n)(l:gA P o (.pick c x y))
 (b:b6 (c9 s.aC) s.bo (bs+o.dst.getD 0) (.pick c x y)=some (p,[]))(j:gL gl ph n B O g w ⟨put s.aC o.dst p,s.bo⟩ K):o.wp P a w K Q:=by
 obtain⟨k,q,r,u⟩:=l;have e:=h.fF q;simp only[b6] at b;split at b
 ·rename_i d;rw[d] at e;have i:=e.fB.1;cases b;refine gj h hd (v:=a.eval x) ?_ (h.fF r) j;simp only[execOp,k,i,asBool,q6,wd,MT,w6]
 ·rename_i d;rw[d] at e;have i:=e.fB.1;cases b;refine gj h hd (v:=a.eval y) ?_ (h.fF u) j;simp only[execOp,k,i,asBool,q6,wd,MT,Nn,st]
 ·simp at b
theorem aBC(h:ct gl ph n B O g s a w)(hd:∀t,o.dst=some t->t<n)(i:gA P o (.qo op x y))
 (b:b6 (c9 s.aC) s.bo (bs+o.dst.getD 0) (.qo op x y)=some (p,us))(j:gL gl ph n B O g w ⟨put s.aC o.dst p,c7 s.bo us⟩ K):o.wp P a w K Q:=by
 obtain⟨t,C,k,l,q⟩:=i;have d:=h.fF l;have e:=h.fF q;simp only[b6] at b;split at b
 ·rename_i u v r A;rw[r] at d;rw[A] at e;cases c:jW op u v with
  |none=>simp[c] at b
  |some z=>simp only[c,NL,O5,pV] at b;obtain⟨rfl,rfl⟩:=b;refine gj h hd (v:=z) ?_ (.bu (afe c)) j;simp only[execOp,k,d.fB.1,e.fB.1];have:=ajb (P:=P) (w:=w) op t x y u v z c;simp only[q6] at this ⊢;rw[this];rfl
 ·simp at b
theorem anH(h:ct gl ph n B O g s a w)(hd:∀t,o.dst=some t->t<n)(j:gA P o (.e0 op x y))
 (c:b6 (c9 s.aC) s.bo (bs+o.dst.getD 0) (.e0 op x y)=some (p,us))(k:gL gl ph n B O g w ⟨put s.aC o.dst p,c7 s.bo us⟩ K):o.wp P a w K Q:=by
 obtain⟨t,D,l,q,r⟩:=j;have d:=h.fF q;have e:=h.fF r;simp only[b6] at c;split at c
 ·rename_i u v A C;rw[A] at d;rw[C] at e;cases b:Ak op u v with
  |none=>simp[b] at c
  |some z=>
   simp only[b,NL,O5,pV] at c;obtain⟨rfl,rfl⟩:=c;have i:iO z=true/\(do eqGuard op t x y u v;binOp op t u v:Sem Value).run P w= .ok z w:=by
    unfold Ak at b;split at b
    ·split at b
     ·simp at b
     ·split at b
      ·cases b;exact⟨rfl,by simp[eqGuard,binOp,Op.shift, *]⟩
      ·cases b;exact⟨rfl,by simp[eqGuard,binOp,Op.shift, *]⟩
      ·simp at b
    ·simp at b
   refine gj h hd (v:=z) ?_ (.bu i.1) k;simp only[execOp,l,d.fB.1,e.fB.1];have:=i.2;simp only[q6] at this ⊢;rw[this];rfl
 ·simp at c
theorem agN(h:ct gl ph n B O g s a w)(hd:∀t,o.dst=some t->t<n)(j:gA P o (.bits op x y))
 (c:b6 (c9 s.aC) s.bo (bs+o.dst.getD 0) (.bits op x y)=some (p,us))(k:gL gl ph n B O g w ⟨put s.aC o.dst p,c7 s.bo us⟩ K):o.wp P a w K Q:=by
 obtain⟨t,E,l,q,r⟩:=j;have d:=h.fF q;have e:=h.fF r;simp only[b6] at c;split at c
 ·rename_i u v A C;rw[A] at d;rw[C] at e;cases b:Jm op u v with
  |none=>simp[b] at c
  |some z=>
   simp only[b,NL,O5,pV] at c;obtain⟨rfl,rfl⟩:=c;have i:iO z=true/\(do eqGuard op t x y u v;binOp op t u v:Sem Value).run P w= .ok z w:=by
    unfold Jm at b;split at b
    ·split at b
     ·rename_i D;subst D;split at b<;>first|(cases b;exact⟨rfl,by simp[eqGuard,binOp,Op.intBits]⟩)|(simp at b)
     ·simp at b
    ·simp at b
   refine gj h hd (v:=z) ?_ (.bu i.1) k;simp only[execOp,l,d.fB.1,e.fB.1];have:=i.2;simp only[q6] at this ⊢;rw[this];rfl
 ·simp at c
theorem ayW{neg:Bool}(h:ct gl ph n B O g s a w)(hd:∀t,o.dst=some t->t<n)(j:gA P o (.p1 neg x y))
 (b:b6 (c9 s.aC) s.bo (bs+o.dst.getD 0) (.p1 neg x y)=some (p,us))(k:gL gl ph n B O g w ⟨put s.aC o.dst p,c7 s.bo us⟩ K):o.wp P a w K Q:=by
 obtain⟨t,A,c,i,l,q⟩:=j;have d:=h.fF l;have e:=h.fF q;simp only[b6] at b;split at b
 ·rename_i u v r z;rw[r] at d;rw[z] at e;cases b;refine gj h hd (v:= .bool (xor neg (u==v))) ?_ (.bu rfl) k;cases neg
  ·simp only[r5,Nn,st] at c;simp only[execOp,c,d.fB.1,e.fB.1,eqGuard,q6,wd];simp;rw[run_eql_bool w t u v i];rfl
  ·simp only[r5,w6] at c;simp only[execOp,c,d.fB.1,e.fB.1,eqGuard,q6,wd];simp;rw[run_neq_bool w t u v i];rfl
 ·simp at b
theorem agH{op:UnOp}(h:ct gl ph n B O g s a w)(hd:∀t,o.dst=some t->t<n)(i:gA P o (.nC op x))
 (c:b6 (c9 s.aC) s.bo (bs+o.dst.getD 0) (.nC op x)=some (p,us))(j:gL gl ph n B O g w ⟨put s.aC o.dst p,c7 s.bo us⟩ K):o.wp P a w K Q:=by
 obtain⟨t,k,l⟩:=i;have d:=h.fF l;simp only[b6] at c;split at c
 ·rename_i u q;rw[q] at d;cases b:EB op u with
  |none=>simp[b] at c
  |some z=>
   simp only[b,NL,O5,pV] at c;obtain⟨rfl,rfl⟩:=c;have e:iO z=true/\(Op.unary op u).run P w= .ok z w:=by
    unfold EB at b;split at b
    ·split at b
     ·cases b;exact⟨rfl,by simp[Op.unary]⟩
     ·simp at b
    ·split at b
     ·cases b;exact⟨rfl,by simp[Op.unary,Op.intArith]⟩
     ·cases b;exact⟨rfl,by simp[Op.unary,Op.intBits]⟩
     ·simp at b
    ·simp at b
   refine gj h hd (v:=z) ?_ (.bu e.1) j;simp only[execOp,k,d.fB.1,q6,e.2,MT,wd]
 ·simp at c
theorem aD0{k:IntKind}(h:ct gl ph n B O g s a w)(hd:∀t,o.dst=some t->t<n)(e:gA P o (.p4 k x))
 (b:b6 (c9 s.aC) s.bo (bs+o.dst.getD 0) (.p4 k x)=some (p,us))(i:gL gl ph n B O g w ⟨put s.aC o.dst p,c7 s.bo us⟩ K):o.wp P a w K Q:=by
 obtain⟨t1,t2,d,j,l,q,r⟩:=e;have c:=h.fF r;simp only[b6] at b;split at b
 ·rename_i z m u;rw[u] at c;cases b;refine gj h hd (v:= .int k (k.wrap m)) ?_ (.bu rfl) i;simp only[execOp,j,c.fB.1,convert,q6,ux l,ux q,MT,Conv.intToInt,wd]
 ·simp at b
theorem an1{i:Nat}(h:ct gl ph n B O g s a w)(hd:∀t,o.dst=some t->t<n)(j:gA P o (.ext x i))
 (b:b6 (c9 s.aC) s.bo (bs+o.dst.getD 0) (.ext x i)=some (p,us))(k:gL gl ph n B O g w ⟨put s.aC o.dst p,c7 s.bo us⟩ K):o.wp P a w K Q:=by
 obtain⟨l,u⟩:=j;have e:=h.fF u;simp only[b6] at b;split at b
 ·cases b
 ·rename_i vs z A;rw[A] at e;cases c:vs[i]? with
  |none=>simp[c] at b
  |some q=>
   simp only[c,NL,O5,pV] at b;obtain⟨rfl,rfl⟩:=b;obtain⟨us,C,F,D⟩:=e.aaH (λd=>by cases vs with|nil=>cases d|cons y r=>simp at d;subst d;exact z _ rfl);have hi:i<us.length:=by have:=(e6.1 c).1;omega
   have E:us[i]? =some us[i]:=dC hi;refine gj h hd (v:=us[i]) ?_ ((D i q _ c E).elim (λr=> .inr (.inl r)) (λr=> .inr (.inr (.inl r)))) k;simp[execOp,l,C,Instr.extract,hi]
 ·simp at b
theorem aAK(h:ct gl ph n B O g s a w)(hd:∀t,o.dst=some t->t<n)(z:gA P o (.qj x))
 (c:b6 (c9 s.aC) s.bo (bs+o.dst.getD 0) (.qj x)=some (p,us))(l:gL gl ph n B O g w ⟨put s.aC o.dst p,c7 s.bo us⟩ K):o.wp P a w K Q:=by
 obtain⟨A,C⟩:=z;have b:=h.fF C;simp only[b6] at c;have r:∀d:Addr,a.eval x= .pointer (some d)->(execOp a.eval o).run P w= .ok (.value (a.eval x)) w:=by intro d e;simp only[execOp,A,e];rfl
 split at c
 ·rename_i k aM off j;rw[j] at b;cases c;obtain⟨_,d,e,_⟩:=b.ju (by simp[aG.key,aG.cf]);exact gj h hd (r d e) b l
 ·rename_i k aM i off j;rw[j] at b;cases c;obtain⟨_,d,e,_⟩:=b.ju (by simp[aG.key,aG.cf]);exact gj h hd (r d e) b l
 ·rename_i cs off j;rw[j] at b;cases c;have e:=b.y5;cases u:a.eval x with
  |pointer q=>rw[u] at e;cases e;exact gj h hd (r _ u) b l
  |_=>rw[u] at e;cases e
 ·simp at c
theorem apj{D:Bool}(h:ct gl ph n B O g s a w)(hd:∀t,o.dst=some t->t<n)(F:gA P o (.len D x))
 (j:b6 (c9 s.aC) s.bo (bs+o.dst.getD 0) (.len D x)=some (p,us))(A:gL gl ph n B O g w ⟨put s.aC o.dst p,c7 s.bo us⟩ K):o.wp P a w K Q:=by
 obtain⟨t,G,d,H⟩:=F;have i:=h.fF H;have C:∀(l:Nat),(Builtin.len_ #[t] o.type #[a.eval x]).run P w= .ok (goInt l) w->(execOp a.eval o).run P w= .ok (.value (.int .i64 l)) w:=by intro l I;simp only[execOp,G,resolve,invoke,builtin,q6,wd,MT,r6,mG,fq,I];rfl
 simp only[b6] at j;split at j
 ·rename_i u r;simp only[w6] at d;rw[r] at i;cases j;refine gj h hd (C _ ?_) (.bu rfl) A;rw[i.fB.1];exact run_len_string w t _ u d
 ·rename_i r;simp only[Nn,st] at d;obtain⟨e,d⟩:=d;rw[r] at i;cases j;refine gj h hd (C 0 ?_) (.bu rfl) A;rw[i.fB.1];simp[Builtin.len_,ux d]
 ·rename_i sz es r;simp only[Nn,st] at d;obtain⟨e,d⟩:=d;rw[r] at i;cases j;have z:=i.u3;refine gj h hd (C _ ?_) (.bu rfl) A;cases E:a.eval x with
  |slice q l c=>rw[E] at z;cases z;simp[Builtin.len_,ux d]
  |_=>rw[E] at z;cases z
 ·rename_i k aM off len r;simp only[Nn,st] at d;obtain⟨e,d⟩:=d;rw[r] at i;cases j;obtain⟨_,b,o',J,z,_⟩:=i.ju (by simp[aG.key,aG.cf]);refine gj h hd (C _ ?_) (.bu rfl) A;rw[z];simp[Builtin.len_,ux d]
 ·simp at j
theorem arb{c:Bool}(h:ct gl ph n B O g s a w)(hd:∀t,o.dst=some t->t<n)(j:gA P o (.kV c x y))
 (b:b6 (c9 s.aC) s.bo (bs+o.dst.getD 0) (.kV c x y)=some (p,us))(l:gL gl ph n B O g w ⟨put s.aC o.dst p,c7 s.bo us⟩ K):o.wp P a w K Q:=by
 obtain⟨C,d,q,r⟩:=j;have e:=h.fF q;have i:=h.fF r;simp only[b6] at b;split at b
 ·rename_i k u D v z A;rw[z] at e;rw[A] at i;split at b
  ·rename_i E;cases b;refine gj h hd (v:= .int k (if c then(if v>u then v else u) else(if v<u then v else u))) ?_ (.bu rfl) l;cases c
   ·simp only[Nn,st] at d ⊢;simp only[execOp,d,resolve,invoke,builtin,q6,wd,MT,r6,mG,fq,e.fB.1,i.fB.1,run_min_int2]
   ·simp only[w6] at d ⊢;simp only[execOp,d,resolve,invoke,builtin,q6,wd,MT,r6,mG,fq,e.fB.1,i.fB.1,run_max_int2]
  ·simp at b
 ·simp at b
end
end
end Go.Hf

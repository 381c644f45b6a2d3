/- Frames over one store, part A: the values and the operations of a machine whose frames hold pure values: slices that are lists; variables, slices under construction and maps as named objects of one store that calls pass on. Nothing is claimed here of the program; the definitions are used by the parts that follow. -/
import Derived.WalkKit
import Derived.Orders
set_option linter.unusedVariables false
set_option linter.unusedSimpArgs false
set_option linter.unusedSectionVars false
namespace Go.Hf
inductive PV where
  | undef
  | sc (v : Value)
  | agg (cs : List PV)
  | tup (vs : List PV)
  | lst (sz : Nat) (es : List (List PV))
  | eptr (cs : List PV) (off : Nat)
  | bptr (k s off : Nat)
  | bld (k s off len : Nat)
  | kptr (k s i off : Nat)
  | mref (k s : Nat)
  | clo (f : Nat) (caps : List PV)
  deriving Inhabited
inductive Obj where
  | no (s : Nat)
  | box (s : Nat) (cs : List PV)
  | bld (s e sz : Nat) (es : List (List PV)) (raw : Bool)
  | map (s : Nat) (es : List (Value × Value))
  deriving Inhabited
def Obj.stamp : Obj → Nat
  | .no s => s
  | .box s _ => s
  | .bld s _ _ _ _ => s
  | .map s _ => s
def stT (s t : Nat) : Nat := Nat.add (Nat.mul (Nat.add (Nat.div s 65536) 1) 65536) t
theorem stT_lt (s t : Nat) : s < stT s t := by
  show s < (s / 65536 + 1) * 65536 + t
  omega
theorem stT_ty {s t : Nat} (h : t < 65536) : stT s t % 65536 = t := by
  show ((s / 65536 + 1) * 65536 + t) % 65536 = t
  omega
structure St where
  env : Nat → PV
  objs : Nat → Obj
def upd {α : Type} (f : Nat → α) (i : Nat) (v : α) : Nat → α := fun j => if j = i then v else f j
theorem upd_same {α : Type} (f : Nat → α) (i : Nat) (v : α) : upd f i v i = v := by simp [upd]
theorem upd_ne {α : Type} (f : Nat → α) {i j : Nat} (v : α) (h : j ≠ i) : upd f i v j = f j := by simp [upd, h]
def updAll (f : Nat → Obj) : List (Nat × Obj) → Nat → Obj
  | [] => f
  | (k, o) :: r => updAll (upd f k o) r
def scalarV : Value → Bool
  | .bool _ => true
  | .int _ _ => true
  | .string _ => true
  | .pointer none => true
  | .slice none 0 0 => true
  | .func (.func _) ⟨[]⟩ ⟨[]⟩ => true
  | .nilFunc => true
  | .nilIface => true
  | .map none => true
  | _ => false
def nils : PV := .sc (.slice none 0 0)
def PV.isCell : PV → Bool
  | .sc v => scalarV v
  | .lst _ _ => true
  | .eptr _ _ => true
  | .bptr _ _ _ => true
  | .bld _ _ _ _ => true
  | .kptr _ _ _ _ => true
  | .mref _ _ => true
  | .clo _ _ => true
  | _ => false
def PV.cells : PV → Option (List PV)
  | .agg cs => some cs
  | .undef => none
  | .tup _ => none
  | v => some [v]
def PV.key0 : PV → List Nat
  | .bptr k _ _ => [k]
  | .bld k _ _ _ => [k]
  | .kptr k _ _ _ => [k]
  | .mref k _ => [k]
  | _ => []
def PV.key : PV → List Nat
  | .clo _ caps => caps.flatMap PV.key0
  | v => v.key0
def PV.keysA : PV → List Nat
  | .agg cs => cs.flatMap PV.key
  | v => v.key
def PV.keys : PV → List Nat
  | .tup cs => cs.flatMap PV.keysA
  | v => v.keysA
def ofConst : Value → PV
  | .agg cs => .agg (cs.toList.map PV.sc)
  | v => .sc v
def evalIn (env : Nat → PV) : Operand → PV
  | .tmp t => env t
  | .const v => ofConst v
  | .func f => .sc (.func (.func f) #[] #[])
  | .global _ => .undef
def pureCell (ob : Nat → Obj) : PV → Option PV
  | .bld k s off len =>
    match ob k with
    | .bld s' _ sz es _ => if s = s' ∧ off + len ≤ es.length then some (.lst sz ((es.drop off).take len)) else none
    | _ => none
  | .sc v => some (.sc v)
  | .lst sz es => some (.lst sz es)
  | .eptr cs off => some (.eptr cs off)
  | _ => none
def pureCells (ob : Nat → Obj) : List PV → Option (List PV)
  | [] => some []
  | p :: ps => match pureCell ob p, pureCells ob ps with
    | some q, some qs => some (q :: qs)
    | _, _ => none
def pureVal (ob : Nat → Obj) : PV → Option PV
  | .agg cs => (pureCells ob cs).map PV.agg
  | v => pureCell ob v
def shareCell (ob : Nat → Obj) : PV → List (Nat × Obj)
  | .bld k _ _ _ =>
    match ob k with
    | .bld s e sz es true => [(k, .bld s e sz es false)]
    | _ => []
  | _ => []
def shareVal (ob : Nat → Obj) : PV → List (Nat × Obj)
  | .agg cs => cs.flatMap (shareCell ob)
  | v => shareCell ob v
def elems (ob : Nat → Obj) (sz : Nat) : PV → Option (List (List PV))
  | .sc (.slice none 0 0) => some []
  | .lst sz' es => if sz' = sz then some es else none
  | .bld k s off len =>
    match ob k with
    | .bld s' _ sz' es _ => if s = s' ∧ sz' = sz ∧ off + len ≤ es.length then some ((es.drop off).take len) else none
    | _ => none
  | _ => none
def sshift (op : BinOp) : Value → Value → Option Value
  | .int k a, .int _ b =>
    if b < 0 then none else
      match op with
      | .shl => some (.int k (k.wrap (a * 2 ^ min b.toNat k.bits)))
      | .shr => some (.int k (a.fdiv (2 ^ min b.toNat k.bits)))
      | _ => none
  | _, _ => none
def sbits (op : BinOp) : Value → Value → Option Value
  | .int k a, .int k' b =>
    if k = k' then
      match op with
      | .and => some (.int k (k.wrap (BitVec.ofInt k.bits a &&& BitVec.ofInt k.bits b).toNat))
      | .or => some (.int k (k.wrap (BitVec.ofInt k.bits a ||| BitVec.ofInt k.bits b).toNat))
      | .xor => some (.int k (k.wrap (BitVec.ofInt k.bits a ^^^ BitVec.ofInt k.bits b).toNat))
      | .andNot => some (.int k (k.wrap (BitVec.ofInt k.bits a &&& ~~~BitVec.ofInt k.bits b).toNat))
      | _ => none
    else none
  | _, _ => none
def sbin (op : BinOp) : Value → Value → Option Value
  | .int k a, .int k' b =>
    if k = k' then
      match op with
      | .add => some (.int k (k.wrap (a + b)))
      | .sub => some (.int k (k.wrap (a - b)))
      | .mul => some (.int k (k.wrap (a * b)))
      | .quo => if b = 0 then none else some (.int k (k.wrap (a.tdiv b)))
      | .rem => if b = 0 then none else some (.int k (a.tmod b))
      | .eql => some (.bool (a == b))
      | .neq => some (.bool (a != b))
      | .lss => some (.bool (a < b))
      | .leq => some (.bool (a ≤ b))
      | .gtr => some (.bool (a > b))
      | .geq => some (.bool (a ≥ b))
      | _ => none
    else none
  | .string x, .string y =>
    match op with
    | .add => if ((x.size + y.size : Nat) : Int) > IntKind.i64.max then none else some (.string (x ++ y))
    | .eql => some (.bool (x.toList == y.toList))
    | .neq => some (.bool !(x.toList == y.toList))
    | .lss => some (.bool (Op.bytesLess x.toList y.toList))
    | .leq => some (.bool (Op.bytesLess x.toList y.toList || x.toList == y.toList))
    | .gtr => some (.bool !(Op.bytesLess x.toList y.toList || x.toList == y.toList))
    | .geq => some (.bool !(Op.bytesLess x.toList y.toList))
    | _ => none
  | _, _ => none
def sun (op : UnOp) : Value → Option Value
  | .bool b => match op with | .not => some (.bool !b) | _ => none
  | .int k n => match op with | .neg => some (.int k (k.wrap (0 - n))) | _ => none
  | _ => none
inductive ROpA (α : Type) where
  | mv (x : α)
  | pick (c a b : α)
  | alloc (t : Nat) (zero : List Value)
  | box (t : Nat) (x : α)
  | build (zero : List Value) (parts : List (Nat × Nat × α))
  | bslice (e sz : Nat) (zero : List Value) (len : Nat) (parts : List (Nat × α)) (raw : Bool)
  | load (isAgg : Bool) (n : Nat) (a : α)
  | store (n : Nat) (a v : α)
  | nilchk (x : α)
  | bin (op : BinOp) (x y : α)
  | binb (neg : Bool) (x y : α)
  | eqs (neg : Bool) (x y : α)
  | isnil (neg : Bool) (x : α)
  | un (op : UnOp) (x : α)
  | cint (k : IntKind) (x : α)
  | b2s (x : α)
  | mkslice (e sz bytes : Nat) (zero : List Value) (l c : α)
  | sslice (x : α) (lo hi : Option α)
  | slc (sz : Nat) (x : α) (lo hi : Option α)
  | faddr (off : Nat) (x : α)
  | fld (isAgg : Bool) (off n : Nat) (x : α)
  | iaddr (sz : Nat) (x i : α)
  | sidx (x i : α)
  | ext (x : α) (i : Nat)
  | len (isStr : Bool) (x : α)
  | append (e sz bytes : Nat) (s x : α) (raw : Bool)
  | mx (isMax : Bool) (x y : α)
  | call (f : α) (args : List α)
  | hcall (f : α) (args : List α) (frz : List Bool)
  | sh (op : BinOp) (x y : α)
  | bits (op : BinOp) (x y : α)
  | mkfun (f : Nat) (caps : List α)
  | mkmap
  | mput (kd : Nat) (m k v : α)
  | mget (kd : Nat) (ok : Bool) (zero : Value) (m k : α)
  | cap0 (x : α)
  | apps (e bytes : Nat) (s x : α) (raw : Bool)
  | appz (e sz bytes : Nat) (zero : List Value) (s x : α) (raw : Bool)
  | clr (e sz : Nat) (zero : List Value) (x : α)
  | aaddr (n sz : Nat) (x i : α)
  | aslc (n : Nat) (x : α)
  | bad
  deriving Inhabited
abbrev ROp := ROpA Operand
def takeAgg (isAgg : Bool) (n : Nat) (cs : List PV) (off : Nat) : Option PV :=
  if isAgg then (if off + n ≤ cs.length then some (.agg ((cs.drop off).take n)) else none) else cs[off]?
def putCells (cs : List PV) (off : Nat) (new : List PV) : List PV := cs.take off ++ new ++ cs.drop (off + new.length)
def fillParts {α : Type} (ev : α → PV) (cs : List PV) : List (Nat × Nat × α) → Option (List PV)
  | [] => some cs
  | (off, n, x) :: r =>
    match (ev x).cells with
    | some new => if new.length = n ∧ off + n ≤ cs.length then fillParts ev (putCells cs off new) r else none
    | none => none
def fillElems {α : Type} (ev : α → PV) (ob : Nat → Obj) (sz : Nat) (es : List (List PV)) : List (Nat × α) → Option (List (List PV))
  | [] => some es
  | (i, x) :: r =>
    match (pureVal ob (ev x)).bind PV.cells with
    | some new => if new.length = sz ∧ i < es.length then fillElems ev ob sz (es.set i new) r else none
    | none => none
def bound {α : Type} (ev : α → PV) (dflt : Nat) : Option α → Option Nat
  | none => some dflt
  | some x => match ev x with
    | .sc (.int _ n) => if 0 ≤ n then some n.toNat else none
    | _ => none
def bytesOf : List (List PV) → Option (List UInt8)
  | [] => some []
  | [.sc (.int .u8 n)] :: r => (bytesOf r).map (UInt8.ofNat n.toNat :: ·)
  | _ => none
def capOk : PV → Bool
  | .bptr _ _ _ => true
  | .sc (.pointer none) => true
  | _ => false
def capsOk (l : List PV) : Bool := l.all capOk && l.any fun p => match p with | .bptr _ _ _ => true | _ => false
def keyV : Nat → Value → Bool
  | 0, .int _ _ => true
  | 1, .string _ => true
  | 2, .bool _ => true
  | _, _ => false
def sameKind : Value → Value → Bool
  | .int k _, .int k' _ => k == k'
  | .string _, .string _ => true
  | .bool _, .bool _ => true
  | _, _ => false
def sameKey : Value → Value → Bool
  | .int _ a, .int _ b => a == b
  | .string a, .string b => a.data.toList == b.data.toList
  | .bool a, .bool b => a == b
  | _, _ => false
def mapGet : List (Value × Value) → Value → Option Value
  | [], _ => none
  | (k, v) :: r, x => if sameKey x k then some v else mapGet r x
def mapPut : List (Value × Value) → Value → Value → List (Value × Value)
  | [], x, y => [(x, y)]
  | (k, v) :: r, x, y => if sameKey x k then (x, y) :: r else (k, v) :: mapPut r x y
def strEls (b : ByteArray) : List (List PV) := b.data.toList.map fun c => [.sc (.int .u8 c.toNat)]
def pop {α : Type} (ev : α → PV) (ob : Nat → Obj) (d : Nat) : ROpA α → Option (PV × List (Nat × Obj))
  | .mv x => some (ev x, [])
  | .pick c a b => match ev c with
    | .sc (.bool true) => some (ev a, [])
    | .sc (.bool false) => some (ev b, [])
    | _ => none
  | .alloc t zero => some (.bptr d (stT (ob d).stamp t) 0, [(d, .box (stT (ob d).stamp t) (zero.map PV.sc))])
  | .box t x => match (ev x).cells with
    | some cs => some (.bptr d (stT (ob d).stamp t) 0, [(d, .box (stT (ob d).stamp t) cs)])
    | none => none
  | .build zero parts => (fillParts ev (zero.map PV.sc) parts).map fun cs => (.agg cs, [])
  | .bslice e sz zero len parts raw =>
    (fillElems ev ob sz (List.replicate len (zero.map PV.sc)) parts).map fun es =>
      (.bld d ((ob d).stamp + 1) 0 len, parts.flatMap (fun p => shareVal ob (ev p.2)) ++ [(d, .bld ((ob d).stamp + 1) e sz es raw)])
  | .load isAgg n a => match ev a with
    | .bptr k s off => match ob k with
      | .box s' cs => if s = s' then (takeAgg isAgg n cs off).map fun v => (v, []) else none
      | _ => none
    | .kptr k s i off => match ob k with
      | .bld s' _ _ es _ => if s = s' then (es[i]?).bind fun cs => (takeAgg isAgg n cs off).map fun v => (v, []) else none
      | _ => none
    | .eptr cs off => (takeAgg isAgg n cs off).map fun v => (v, [])
    | _ => none
  | .store n a v => match ev a with
    | .bptr k s off => match ob k, (ev v).cells with
      | .box s' cs, some new => if s = s' ∧ new.length = n ∧ off + n ≤ cs.length then some (.undef, [(k, .box s (putCells cs off new))]) else none
      | _, _ => none
    | .kptr k s i off => match ob k, (pureVal ob (ev v)).bind PV.cells with
      | .bld s' e sz es true, some new =>
        match es[i]? with
        | some cs => if s = s' ∧ new.length = n ∧ off + n ≤ cs.length ∧ (ev v).keys = [] then some (.undef, [(k, .bld s e sz (es.set i (putCells cs off new)) true)]) else none
        | none => none
      | _, _ => none
    | _ => none
  | .nilchk x => match ev x with
    | .bptr k s off => some (.bptr k s off, [])
    | .kptr k s i off => some (.kptr k s i off, [])
    | .eptr cs off => some (.eptr cs off, [])
    | _ => none
  | .bin op x y => match ev x, ev y with
    | .sc a, .sc b => (sbin op a b).map fun v => (.sc v, [])
    | _, _ => none
  | .binb neg x y => match ev x, ev y with
    | .sc (.bool a), .sc (.bool b) => some (.sc (.bool (xor neg (a == b))), [])
    | _, _ => none
  | .eqs neg x y => match ev x, ev y with
    | .agg [.sc (.string a), .sc (.string b)], .agg [.sc (.string a'), .sc (.string b')] => some (.sc (.bool (xor neg (a.toList == a'.toList && b.toList == b'.toList))), [])
    | _, _ => none
  | .isnil neg x => match ev x with
    | .sc (.slice none 0 0) => some (.sc (.bool !neg), [])
    | .lst _ _ => some (.sc (.bool neg), [])
    | .bld _ _ _ _ => some (.sc (.bool neg), [])
    | _ => none
  | .un op x => match ev x with
    | .sc a => (sun op a).map fun v => (.sc v, [])
    | _ => none
  | .cint k x => match ev x with
    | .sc (.int _ n) => some (.sc (.int k (k.wrap n)), [])
    | _ => none
  | .b2s x => ((elems ob 1 (ev x)).bind bytesOf).map fun l => (.sc (.string ⟨l.toArray⟩), [])
  | .mkslice e sz bytes zero l c => match ev l, ev c with
    | .sc (.int .i64 a), .sc (.int .i64 b) =>
      if 0 ≤ a ∧ a ≤ b ∧ b * bytes ≤ 1099511627776 ∧ b ≤ 1099511627776 then
        some (.bld d ((ob d).stamp + 1) 0 a.toNat, [(d, .bld ((ob d).stamp + 1) e sz (List.replicate a.toNat (zero.map PV.sc)) true)])
      else none
    | _, _ => none
  | .sslice x lo hi => match ev x with
    | .sc (.string s) => match bound ev 0 lo, bound ev s.size hi with
      | some l, some h => if l ≤ h ∧ h ≤ s.size then some (.sc (.string (s.extract l h)), []) else none
      | _, _ => none
    | _ => none
  | .slc sz x lo hi => match ev x with
    | .lst sz' es => match bound ev 0 lo, bound ev es.length hi with
      | some l, some h => if sz' = sz ∧ l ≤ h ∧ h ≤ es.length then some (.lst sz ((es.drop l).take (h - l)), []) else none
      | _, _ => none
    | .bld k s off len => match bound ev 0 lo, bound ev len hi, ob k with
      | some l, some h, .bld s' _ sz' _ _ => if s = s' ∧ sz' = sz ∧ l ≤ h ∧ h ≤ len then some (.bld k s (off + l) (h - l), []) else none
      | _, _, _ => none
    | .sc (.slice none 0 0) => match bound ev 0 lo, bound ev 0 hi with
      | some 0, some 0 => some (nils, [])
      | _, _ => none
    | _ => none
  | .faddr o x => match ev x with
    | .bptr k s off => some (.bptr k s (off + o), [])
    | .kptr k s i off => some (.kptr k s i (off + o), [])
    | .eptr cs off => some (.eptr cs (off + o), [])
    | _ => none
  | .fld isAgg off n x => match ev x with
    | .agg cs => (takeAgg isAgg n cs off).map fun v => (v, [])
    | _ => none
  | .iaddr sz x i => match ev x, ev i with
    | .lst sz' es, .sc (.int _ n) => if sz' = sz ∧ 0 ≤ n then (es[n.toNat]?).map fun cs => (.eptr cs 0, []) else none
    | .bld k s off len, .sc (.int _ n) => match ob k with
      | .bld s' _ sz' _ _ => if s = s' ∧ sz' = sz ∧ 0 ≤ n ∧ n < len then some (.kptr k s (off + n.toNat) 0, []) else none
      | _ => none
    | _, _ => none
  | .sidx x i => match ev x, ev i with
    | .sc (.string s), .sc (.int _ n) => if 0 ≤ n then (s.data.toList[n.toNat]?).map fun b => (.sc (.int .u8 b.toNat), []) else none
    | _, _ => none
  | .ext x i => match ev x with
    | .tup vs => (vs[i]?).map fun v => (v, [])
    | _ => none
  | .len isStr x => match isStr, ev x with
    | true, .sc (.string s) => some (.sc (.int .i64 s.size), [])
    | false, .sc (.slice none 0 0) => some (.sc (.int .i64 0), [])
    | false, .lst _ es => some (.sc (.int .i64 es.length), [])
    | false, .bld _ _ _ len => some (.sc (.int .i64 len), [])
    | _, _ => none
  | .append e sz bytes s x raw => match ev s, elems ob sz (ev x) with
    | .sc (.slice none 0 0), some ys =>
      if ys.length * bytes ≤ 1099511627776 ∧ ys.length ≤ 1099511627776 then
        if ys.length = 0 then some (nils, []) else some (.bld d ((ob d).stamp + 1) 0 ys.length, [(d, .bld ((ob d).stamp + 1) e sz ys raw)])
      else none
    | .bld k st 0 len, some ys => match ob k with
      | .bld st' e' sz' es r =>
        if st = st' ∧ e' = e ∧ sz' = sz ∧ (len = es.length ∨ r = true ∧ len ≤ es.length) ∧ (len + ys.length) * bytes ≤ 1099511627776 ∧ len + ys.length ≤ 1099511627776 then
          some (.bld k (st + 1) 0 (len + ys.length), [(k, .bld (st + 1) e sz (es.take len ++ ys) r)])
        else none
      | _ => none
    | _, _ => none
  | .mx isMax x y => match ev x, ev y with
    | .sc (.int k a), .sc (.int k' b) => if k = k' then some (.sc (.int k (if isMax then (if b > a then b else a) else (if b < a then b else a))), []) else none
    | _, _ => none
  | .apps e bytes s x raw => match ev s, ev x with
    | .sc (.slice none 0 0), .sc (.string b) =>
      if b.size * bytes ≤ 1099511627776 ∧ b.size ≤ 1099511627776 then
        if b.size = 0 then some (nils, []) else some (.bld d ((ob d).stamp + 1) 0 b.size, [(d, .bld ((ob d).stamp + 1) e 1 (strEls b) raw)])
      else none
    | .bld k st 0 len, .sc (.string b) => match ob k with
      | .bld st' e' sz' es r =>
        if st = st' ∧ e' = e ∧ sz' = 1 ∧ (len = es.length ∨ r = true ∧ len ≤ es.length) ∧ (len + b.size) * bytes ≤ 1099511627776 ∧ len + b.size ≤ 1099511627776 then
          some (.bld k (st + 1) 0 (len + b.size), [(k, .bld (st + 1) e 1 (es.take len ++ strEls b) r)])
        else none
      | _ => none
    | _, _ => none
  | .appz e sz bytes zero s x raw => match ev s, ev x with
    | .sc (.slice none 0 0), .sc (.int .i64 m) =>
      if 0 < m ∧ m * bytes ≤ 1099511627776 ∧ m ≤ 1099511627776 then
        some (.bld d ((ob d).stamp + 1) 0 m.toNat, [(d, .bld ((ob d).stamp + 1) e sz (List.replicate m.toNat (zero.map PV.sc)) raw)])
      else none
    | _, _ => none
  | .cap0 x => match ev x with
    | .sc (.slice none 0 0) => some (.sc (.int .i64 0), [])
    | _ => none
  | .clr e sz zero x => match ev x with
    | .sc (.slice none 0 0) => some (.tup [], [])
    | .bld k s off len => match ob k with
      | .bld s' e' sz' es true =>
        if s = s' ∧ e' = e ∧ sz' = sz ∧ off + len ≤ es.length then some (.tup [], [(k, .bld s e sz (es.take off ++ List.replicate len (zero.map PV.sc) ++ es.drop (off + len)) true)]) else none
      | _ => none
    | _ => none
  | .aaddr n sz x i => match ev x, ev i with
    | .bptr k s off, .sc (.int _ m) => if 0 ≤ m ∧ m < n then some (.bptr k s (off + m.toNat * sz), []) else none
    | _, _ => none
  | .aslc n x => match ev x with
    | .bptr k s 0 => match ob k with
      | .box s' cs => if s = s' ∧ cs.length = n ∧ n ≤ 1048576 ∧ cs.flatMap PV.key = [] then some (.lst 1 (cs.map fun q => [q]), [(k, .no s)]) else none
      | _ => none
    | _ => none
  | .sh op x y => match ev x, ev y with
    | .sc a, .sc b => (sshift op a b).map fun v => (.sc v, [])
    | _, _ => none
  | .bits op x y => match ev x, ev y with
    | .sc a, .sc b => (sbits op a b).map fun v => (.sc v, [])
    | _, _ => none
  | .mkfun f caps => if caps.length = 0 then some (.sc (.func (.func f) #[] #[]), []) else if capsOk (caps.map ev) then some (.clo f (caps.map ev), []) else none
  | .mkmap => some (.mref d ((ob d).stamp + 1), [(d, .map ((ob d).stamp + 1) [])])
  | .mput kd m k v => match ev m, ev k, ev v with
    | .mref r s, .sc x, .sc y => match ob r with
      | .map s' es => if s = s' ∧ keyV kd x = true ∧ es.all (fun e => sameKind x e.1) = true ∧ scalarV y = true then some (.undef, [(r, .map s (mapPut es x y))]) else none
      | _ => none
    | _, _, _ => none
  | .mget kd ok zero m k => match ev m, ev k with
    | .mref r s, .sc x => match ob r with
      | .map s' es => if s = s' ∧ keyV kd x = true ∧ es.all (fun e => sameKind x e.1) = true then
          match mapGet es x with
          | some y => some (if ok then .tup [.sc y, .sc (.bool true)] else .sc y, [])
          | none => some (if ok then .tup [.sc zero, .sc (.bool false)] else .sc zero, [])
        else none
      | _ => none
    | _, _ => none
  | .call _ _ => none
  | .hcall _ _ _ => none
  | .bad => none
end Go.Hf
section
namespace Go.Hf
open Go.RowKit
inductive VR (c : Nat → Nat) (w : World) : PV → Value → Prop where
  | sc {v : Value} (h : scalarV v = true) : VR c w (.sc v) v
  | lst {sz : Nat} {es : List (List PV)} {b o cap : Nat} (vals : Nat → Nat → Value) (hcap : es.length ≤ cap) (hm : cap ≤ maxLen) (hb : b < w.heap.size) (hc : 0 < es.length → o + es.length * sz ≤ c b)
      (hsz : ∀ (i : Nat) (cs : List PV), es[i]? = some cs → cs.length = sz)
      (hcell : ∀ (i j : Nat) (cs : List PV) (p : PV), es[i]? = some cs → cs[j]? = some p → w.cell? ⟨b, o + (i * sz + j), none⟩ = some (vals i j))
      (hci : ∀ (i j : Nat) (cs : List PV) (p : PV), es[i]? = some cs → cs[j]? = some p → p.isCell = true)
      (hv : ∀ (i j : Nat) (cs : List PV) (p : PV), es[i]? = some cs → cs[j]? = some p → VR c w p (vals i j))   : VR c w (.lst sz es) (.slice (some ⟨b, o, none⟩) es.length cap)
  | eptr {cs : List PV} {off b o : Nat} (vals : Nat → Value) (hb : b < w.heap.size) (hc : o + cs.length ≤ c b)
      (hcell : ∀ (j : Nat) (p : PV), cs[j]? = some p → w.cell? ⟨b, o + j, none⟩ = some (vals j))
      (hci : ∀ (j : Nat) (p : PV), cs[j]? = some p → p.isCell = true)
      (hv : ∀ (j : Nat) (p : PV), cs[j]? = some p → VR c w p (vals j)) : VR c w (.eptr cs off) (.pointer (some ⟨b, o + off, none⟩))
  | agg {cs : List PV} {vs : List Value} (hl : cs.length = vs.length) (hci : ∀ (j : Nat) (p : PV), cs[j]? = some p → p.isCell = true)
      (hv : ∀ (j : Nat) (p : PV) (v : Value), cs[j]? = some p → vs[j]? = some v → VR c w p v) : VR c w (.agg cs) (.agg vs.toArray)
structure Ext (c : Nat → Nat) (w : World) (c' : Nat → Nat) (w' : World) : Prop where
  size : w.heap.size ≤ w'.heap.size
  le : ∀ b, b < w.heap.size → c b ≤ c' b
  cell : ∀ b i, b < w.heap.size → i < c b → w'.cell? ⟨b, i, none⟩ = w.cell? ⟨b, i, none⟩
theorem Ext.refl (c : Nat → Nat) (w : World) : Ext c w c w := ⟨Nat.le_refl _, fun _ _ => Nat.le_refl _, fun _ _ _ _ => rfl⟩
theorem Ext.trans {c c' c'' : Nat → Nat} {w w' w'' : World} (h : Ext c w c' w') (k : Ext c' w' c'' w'') : Ext c w c'' w'' :=
  ⟨Nat.le_trans h.size k.size, fun b hb => Nat.le_trans (h.le b hb) (k.le b (Nat.lt_of_lt_of_le hb h.size)),
   fun b i hb hi => (k.cell b i (Nat.lt_of_lt_of_le hb h.size) (Nat.lt_of_lt_of_le hi (h.le b hb))).trans (h.cell b i hb hi)⟩
theorem VR.mono {c c' : Nat → Nat} {w w' : World} (h : Ext c w c' w') {p : PV} {v : Value} (r : VR c w p v) : VR c' w' p v := by
  induction r with
  | sc h => exact .sc h
  | lst vals hcap hm hb hc hsz hcell hci hv ih =>
    rename_i sz es b o cap
    refine .lst vals hcap hm (Nat.lt_of_lt_of_le hb h.size) (fun hl => Nat.le_trans (hc hl) (h.le _ hb)) hsz ?_ hci ih
    intro i j cs p hi hj
    rw [h.cell _ _ hb ?_]
    · exact hcell i j cs p hi hj
    · have h1 : i < _ := (List.getElem?_eq_some_iff.1 hi).1
      have h2 : j < cs.length := (List.getElem?_eq_some_iff.1 hj).1
      rw [hsz i cs hi] at h2
      have h3 : (i + 1) * sz ≤ _ * sz := Nat.mul_le_mul_right sz h1
      rw [Nat.add_mul, Nat.one_mul] at h3
      have h4 := hc (by omega)
      omega
  | eptr vals hb hc hcell hci hv ih =>
    refine .eptr vals (Nat.lt_of_lt_of_le hb h.size) (Nat.le_trans hc (h.le _ hb)) ?_ hci ih
    intro j p hj
    rw [h.cell _ _ hb ?_]
    · exact hcell j p hj
    · have h2 : j < _ := (List.getElem?_eq_some_iff.1 hj).1
      omega
  | agg hl hci hv ih => exact .agg hl hci ih
structure Gh where
  c : Nat → Nat
  blk : Nat → Nat
  cap : Nat → Nat
def Ref0 (g : Gh) (ob : Nat → Obj) : PV → Value → Prop
  | .bptr k s off, v => s ≤ (ob k).stamp ∧ ∃ a, v = .pointer (some a) ∧ ∀ cs, ob k = .box s cs → a = ⟨g.blk k, off, none⟩
  | .kptr k s i off, v => s ≤ (ob k).stamp ∧ ∃ a, v = .pointer (some a) ∧ ∀ e sz es raw, ob k = .bld s e sz es raw → a = ⟨g.blk k, i * sz + off, none⟩
  | .bld k s off len, v => s ≤ (ob k).stamp ∧ ∃ b o cap, v = .slice (some ⟨b, o, none⟩) len cap ∧ len ≤ cap ∧ cap ≤ maxLen ∧
      ∀ e sz es raw, ob k = .bld s e sz es raw → off + len ≤ es.length ∧ b = g.blk k ∧ (0 < len ∨ off = 0 → o = off * sz) ∧ (off = 0 → cap = g.cap k)
  | .mref k s, v => s ≤ (ob k).stamp ∧ ∃ b, v = .map (some b) ∧ ∀ es, ob k = .map s es → b = g.blk k
  | _, _ => False
def RefR (g : Gh) (ob : Nat → Obj) : PV → Value → Prop
  | .clo f caps, v => caps.flatMap PV.key0 ≠ [] ∧ ∃ vs : List Value, v = .func (.func f) #[] vs.toArray ∧ caps.length = vs.length ∧
      ∀ (j : Nat) (q : PV) (u : Value), caps[j]? = some q → vs[j]? = some u → (q = .sc (.pointer none) ∧ u = .pointer none) ∨ Ref0 g ob q u
  | p, v => Ref0 g ob p v
def KR (g : Gh) (w : World) (ob : Nat → Obj) (p : PV) (v : Value) : Prop := VR g.c w p v ∨ RefR g ob p v
def AR (g : Gh) (w : World) (ob : Nat → Obj) (p : PV) (v : Value) : Prop :=
  ∃ (cs : List PV) (vs : List Value), p = .agg cs ∧ v = .agg vs.toArray ∧ cs.length = vs.length ∧ ∀ (j : Nat) (q : PV) (u : Value), cs[j]? = some q → vs[j]? = some u → q.isCell = true ∧ KR g w ob q u
def XR (g : Gh) (w : World) (ob : Nat → Obj) (p : PV) (v : Value) : Prop :=
  p = .undef ∨ KR g w ob p v ∨
  (∃ (cs : List PV) (vs : List Value), p = .agg cs ∧ v = .agg vs.toArray ∧ cs.length = vs.length ∧ ∀ (j : Nat) (q : PV) (u : Value), cs[j]? = some q → vs[j]? = some u → q.isCell = true ∧ KR g w ob q u) ∨
  (∃ (ps : List PV) (vs : List Value), p = .tup ps ∧ v = .tuple vs.toArray ∧ ps.length = vs.length ∧ ∀ (j : Nat) (q : PV) (u : Value), ps[j]? = some q → vs[j]? = some u → KR g w ob q u ∨ AR g w ob q u)
def Obj.live : Obj → Prop
  | .no _ => False
  | _ => True
def ObjR (g : Gh) (w : World) (ob : Nat → Obj) (k : Nat) : Obj → Prop
  | .no _ => True
  | .box s cs => ∃ (arr : Array Value) (T : Nat), w.heap[g.blk k]? = some (.cells arr T (0, 0)) ∧ (arr.size = cs.length ∧ s % 65536 = T) ∧ g.c (g.blk k) = 0 ∧
      ∀ (j : Nat) (q : PV), cs[j]? = some q → ∃ u, arr[j]? = some u ∧ q.isCell = true ∧ KR g w ob q u
  | .bld _ e sz es raw => ∃ arr : Array Value, w.heap[g.blk k]? = some (.cells arr e (0, 0)) ∧ arr.size = g.cap k * sz ∧ es.length ≤ g.cap k ∧ g.cap k ≤ maxLen ∧
      (∀ (i : Nat) (cs : List PV), es[i]? = some cs → cs.length = sz) ∧
      (∀ (i j : Nat) (cs : List PV) (p : PV), es[i]? = some cs → cs[j]? = some p → ∃ u, arr[i * sz + j]? = some u ∧ p.isCell = true ∧ VR g.c w p u) ∧
      (raw = true → g.c (g.blk k) = 0) ∧ g.c (g.blk k) ≤ es.length * sz
  | .map _ es => ∃ (arr : Array MapEntry) (clock : Nat), w.heap[g.blk k]? = some (.map arr clock) ∧ arr.toList.map (fun e => (e.key, e.val)) = es ∧ g.c (g.blk k) = 0 ∧ es.all (fun e => scalarV e.2) = true
def ObStep (g : Gh) (ob : Nat → Obj) (g' : Gh) (ob' : Nat → Obj) : Prop :=
  ∀ k, (ob k).stamp ≤ (ob' k).stamp ∧
    (∀ cs, ob' k = .box (ob k).stamp cs → (∃ cs0, ob k = .box (ob k).stamp cs0) ∧ g'.blk k = g.blk k) ∧
    (∀ e sz es raw, ob' k = .bld (ob k).stamp e sz es raw → (∃ es0 raw0, ob k = .bld (ob k).stamp e sz es0 raw0 ∧ es0.length ≤ es.length) ∧ g'.blk k = g.blk k ∧ g'.cap k = g.cap k) ∧
    (∀ es, ob' k = .map (ob k).stamp es → (∃ es0, ob k = .map (ob k).stamp es0) ∧ g'.blk k = g.blk k)
theorem Ref0.step {g g' : Gh} {ob ob' : Nat → Obj} (h : ObStep g ob g' ob') {p : PV} {v : Value} (r : Ref0 g ob p v) : Ref0 g' ob' p v := by
  cases p with
  | bptr k s off =>
    obtain ⟨hs, a, rfl, ha⟩ := r
    obtain ⟨h1, h2, _, _⟩ := h k
    refine ⟨Nat.le_trans hs h1, a, rfl, fun cs hc => ?_⟩
    have e1 : (ob' k).stamp = s := by rw [hc]; rfl
    have e2 : s = (ob k).stamp := by omega
    obtain ⟨⟨cs0, hc0⟩, hb⟩ := h2 cs (by rw [← e2]; exact hc)
    rw [hb]; exact ha cs0 (by rw [e2]; exact hc0)
  | kptr k s i off =>
    obtain ⟨hs, a, rfl, ha⟩ := r
    obtain ⟨h1, _, h2, _⟩ := h k
    refine ⟨Nat.le_trans hs h1, a, rfl, fun e sz es raw hc => ?_⟩
    have e1 : (ob' k).stamp = s := by rw [hc]; rfl
    have e2 : s = (ob k).stamp := by omega
    obtain ⟨⟨es0, raw0, hc0, _⟩, hb, _⟩ := h2 e sz es raw (by rw [← e2]; exact hc)
    rw [hb]; exact ha e sz es0 raw0 (by rw [e2]; exact hc0)
  | bld k s off len =>
    obtain ⟨hs, b, o, cap, rfl, hl, hm, ha⟩ := r
    obtain ⟨h1, _, h2, _⟩ := h k
    refine ⟨Nat.le_trans hs h1, b, o, cap, rfl, hl, hm, fun e sz es raw hc => ?_⟩
    have e1 : (ob' k).stamp = s := by rw [hc]; rfl
    have e2 : s = (ob k).stamp := by omega
    obtain ⟨⟨es0, raw0, hc0, hle⟩, hb, hcp⟩ := h2 e sz es raw (by rw [← e2]; exact hc)
    obtain ⟨r1, r2, r3, r4⟩ := ha e sz es0 raw0 (by rw [e2]; exact hc0)
    exact ⟨by omega, by rw [hb]; exact r2, r3, by rw [hcp]; exact r4⟩
  | mref k s =>
    obtain ⟨hs, b, rfl, ha⟩ := r
    obtain ⟨h1, _, _, h2⟩ := h k
    refine ⟨Nat.le_trans hs h1, b, rfl, fun es hc => ?_⟩
    have e1 : (ob' k).stamp = s := by rw [hc]; rfl
    have e2 : s = (ob k).stamp := by omega
    obtain ⟨⟨es0, hc0⟩, hb⟩ := h2 es (by rw [← e2]; exact hc)
    rw [hb]; exact ha es0 (by rw [e2]; exact hc0)
  | _ => exact r.elim
theorem RefR.step {g g' : Gh} {ob ob' : Nat → Obj} (h : ObStep g ob g' ob') {p : PV} {v : Value} (r : RefR g ob p v) : RefR g' ob' p v := by
  cases p with
  | clo f caps =>
    obtain ⟨hk, vs, rfl, hl, hv⟩ := r
    exact ⟨hk, vs, rfl, hl, fun j q u hq hu => (hv j q u hq hu).imp id (Ref0.step h)⟩
  | bptr k s off => exact Ref0.step (p := .bptr k s off) h r
  | kptr k s i off => exact Ref0.step (p := .kptr k s i off) h r
  | bld k s off len => exact Ref0.step (p := .bld k s off len) h r
  | mref k s => exact Ref0.step (p := .mref k s) h r
  | _ => exact r.elim
theorem KR.step {g g' : Gh} {w w' : World} {ob ob' : Nat → Obj} (hE : Ext g.c w g'.c w') (h : ObStep g ob g' ob') {p : PV} {v : Value} (r : KR g w ob p v) : KR g' w' ob' p v :=
  r.imp (VR.mono hE) (RefR.step h)
theorem XR.step {g g' : Gh} {w w' : World} {ob ob' : Nat → Obj} (hE : Ext g.c w g'.c w') (h : ObStep g ob g' ob') {p : PV} {v : Value} (r : XR g w ob p v) : XR g' w' ob' p v := by
  rcases r with r | r | ⟨cs, vs, r1, r2, r3, r4⟩ | ⟨cs, vs, r1, r2, r3, r4⟩
  · exact .inl r
  · exact .inr (.inl (r.step hE h))
  · exact .inr (.inr (.inl ⟨cs, vs, r1, r2, r3, fun j q u hq hu => ⟨(r4 j q u hq hu).1, (r4 j q u hq hu).2.step hE h⟩⟩))
  · refine .inr (.inr (.inr ⟨cs, vs, r1, r2, r3, fun j q u hq hu => (r4 j q u hq hu).imp (fun r => r.step hE h) ?_⟩))
    rintro ⟨cs', vs', s1, s2, s3, s4⟩
    exact ⟨cs', vs', s1, s2, s3, fun j q u hq hu => ⟨(s4 j q u hq hu).1, (s4 j q u hq hu).2.step hE h⟩⟩
theorem ObStep.refl (g : Gh) (ob : Nat → Obj) : ObStep g ob g ob :=
  fun _ => ⟨Nat.le_refl _, fun cs h => ⟨⟨cs, h⟩, rfl⟩, fun _ _ es raw h => ⟨⟨es, raw, h, Nat.le_refl _⟩, rfl, rfl⟩, fun es h => ⟨⟨es, h⟩, rfl⟩⟩
theorem ObStep.trans {g g' g'' : Gh} {ob ob' ob'' : Nat → Obj} (h : ObStep g ob g' ob') (h' : ObStep g' ob' g'' ob'') : ObStep g ob g'' ob'' := by
  intro k
  obtain ⟨a1, a2, a3, a4⟩ := h k
  obtain ⟨b1, b2, b3, b4⟩ := h' k
  refine ⟨Nat.le_trans a1 b1, fun cs hc => ?_, fun e sz es raw hc => ?_, fun es hc => ?_⟩
  · have e1 : (ob'' k).stamp = (ob k).stamp := by rw [hc]; rfl
    have e2 : (ob' k).stamp = (ob k).stamp := by omega
    obtain ⟨⟨c0, hc0⟩, hb⟩ := b2 cs (by rw [e2]; exact hc)
    obtain ⟨hx, hb'⟩ := a2 c0 (by rw [← e2]; exact hc0)
    exact ⟨hx, hb.trans hb'⟩
  · have e1 : (ob'' k).stamp = (ob k).stamp := by rw [hc]; rfl
    have e2 : (ob' k).stamp = (ob k).stamp := by omega
    obtain ⟨⟨c0, r0, hc0, hl⟩, hb, hcp⟩ := b3 e sz es raw (by rw [e2]; exact hc)
    obtain ⟨⟨c1, r1, hc1, hl1⟩, hb', hcp'⟩ := a3 e sz c0 r0 (by rw [← e2]; exact hc0)
    exact ⟨⟨c1, r1, hc1, by omega⟩, hb.trans hb', hcp.trans hcp'⟩
  · have e1 : (ob'' k).stamp = (ob k).stamp := by rw [hc]; rfl
    have e2 : (ob' k).stamp = (ob k).stamp := by omega
    obtain ⟨⟨c0, hc0⟩, hb⟩ := b4 es (by rw [e2]; exact hc)
    obtain ⟨hx, hb'⟩ := a4 c0 (by rw [← e2]; exact hc0)
    exact ⟨hx, hb.trans hb'⟩
theorem ObjR.keep {g g' : Gh} {w w' : World} {ob ob' : Nat → Obj} {k : Nat} {o : Obj} (hE : Ext g.c w g'.c w') (h : ObStep g ob g' ob')
    (hb : o.live → g'.blk k = g.blk k ∧ g'.cap k = g.cap k ∧ g'.c (g.blk k) = g.c (g.blk k) ∧ w'.heap[g.blk k]? = w.heap[g.blk k]?) (r : ObjR g w ob k o) : ObjR g' w' ob' k o := by
  cases o with
  | no s => trivial
  | box s cs =>
    obtain ⟨h1, h2, h3, h4⟩ := hb trivial
    obtain ⟨arr, T, r1, r2, r3, r4⟩ := r
    refine ⟨arr, T, ?_, r2, ?_, fun j q hq => ?_⟩
    · rw [h1, h4]; exact r1
    · rw [h1, h3]; exact r3
    · obtain ⟨u, hu, hc, hk⟩ := r4 j q hq
      exact ⟨u, hu, hc, hk.step hE h⟩
  | bld s e sz es raw =>
    obtain ⟨h1, h2, h3, h4⟩ := hb trivial
    obtain ⟨arr, r1, r2, r3, r4, r5, r6, r7, r8⟩ := r
    refine ⟨arr, ?_, ?_, ?_, ?_, r5, fun i j cs p hi hj => ?_, ?_, ?_⟩
    · rw [h1, h4]; exact r1
    · rw [h2]; exact r2
    · rw [h2]; exact r3
    · rw [h2]; exact r4
    · obtain ⟨u, hu, hc, hk⟩ := r6 i j cs p hi hj
      exact ⟨u, hu, hc, hk.mono hE⟩
    · rw [h1, h3]; exact r7
    · rw [h1, h3]; exact r8
  | map s es =>
    obtain ⟨h1, h2, h3, h4⟩ := hb trivial
    obtain ⟨arr, clock, r1, r2, r3, r4⟩ := r
    exact ⟨arr, clock, by rw [h1, h4]; exact r1, r2, by rw [h1, h3]; exact r3, r4⟩
structure HeapR (g : Gh) (w : World) (ob : Nat → Obj) : Prop where
  obj : ∀ k, ObjR g w ob k (ob k)
  inj : ∀ k k', (ob k).live → (ob k').live → g.blk k = g.blk k' → k = k'
  lt : ∀ k, (ob k).live → g.blk k < w.heap.size
def Blk (g : Gh) (ob : Nat → Obj) (b : Nat) : Prop := ∃ k, (ob k).live ∧ g.blk k = b
structure HPres (g : Gh) (w : World) (ob : Nat → Obj) (c' : Nat → Nat) (w' : World) : Prop where
  os : w'.os = w.os
  tape : w'.tape = w.tape
  output : w'.output = w.output
  size : w.heap.size ≤ w'.heap.size
  block : ∀ b, b < w.heap.size → ¬ Blk g ob b → w'.heap[b]? = w.heap[b]?
  c : ∀ b, b < w.heap.size → ¬ Blk g ob b → c' b = g.c b
def ArgsX (g : Gh) (w : World) (ob : Nat → Obj) (args : List PV) (vs : List Value) : Prop :=
  args.length = vs.length ∧ ∀ (i : Nat) (p : PV) (v : Value), args[i]? = some p → vs[i]? = some v → XR g w ob p v
def Enters (P : Program) (f : Nat) : Prop := ∃ fn, P.funcs[f]? = some fn ∧ (fn.name == "runtime.NumGoroutine") = false ∧ fn.body.isNone = false
structure Gl where
  p : (Nat → Nat) → World → Prop
  mono : ∀ {c c' : Nat → Nat} {w w' : World}, Ext c w c' w' → p c w → p c' w'
structure After (g : Gh) (w : World) (ob : Nat → Obj) (g' : Gh) (w' : World) (ob' : Nat → Obj) : Prop where
  pres : HPres g w ob g'.c w'
  ext : Ext g.c w g'.c w'
  heap : HeapR g' w' ob'
  step : ObStep g ob g' ob'
  src : ∀ k, (ob' k).live → w.heap.size ≤ g'.blk k ∨ Blk g ob (g'.blk k)
def HC (gl : Gl) (P : Program) (f : Nat) (args : List PV) (ob : Nat → Obj) (res : PV) (ob' : Nat → Obj) : Prop :=
  Enters P f ∧ ∀ (g : Gh) (w : World) (vs : List Value), gl.p g.c w → HeapR g w ob → ArgsX g w ob args vs →
    Calls P f vs.toArray w fun e w' => ∃ v g', e = .returned v ∧ After g w ob g' w' ob' ∧ XR g' w' ob' res v
structure POper where
  dst : Option Nat
  guard : Option (Nat × Bool)
  r : ROp
  rk : List Nat
  wk : List Nat
  deriving Inhabited
def optL {α : Type} (o : Option α) : List α := match o with | some x => [x] | none => []
def ROpA.opnds {α : Type} : ROpA α → List α
  | .mv x => [x]
  | .pick c a b => [c, a, b]
  | .alloc _ _ => []
  | .box _ x => [x]
  | .build _ parts => parts.map (·.2.2)
  | .bslice _ _ _ _ parts _ => parts.map (·.2)
  | .load _ _ a => [a]
  | .store _ a v => [a, v]
  | .nilchk x => [x]
  | .bin _ x y => [x, y]
  | .binb _ x y => [x, y]
  | .eqs _ x y => [x, y]
  | .isnil _ x => [x]
  | .un _ x => [x]
  | .cint _ x => [x]
  | .b2s x => [x]
  | .mkslice _ _ _ _ l c => [l, c]
  | .sslice x lo hi => x :: (optL lo ++ optL hi)
  | .slc _ x lo hi => x :: (optL lo ++ optL hi)
  | .faddr _ x => [x]
  | .fld _ _ _ x => [x]
  | .iaddr _ x i => [x, i]
  | .sidx x i => [x, i]
  | .ext x _ => [x]
  | .len _ x => [x]
  | .append _ _ _ s x _ => [s, x]
  | .mx _ x y => [x, y]
  | .call f args => f :: args
  | .hcall f args _ => f :: args
  | .sh _ x y => [x, y]
  | .bits _ x y => [x, y]
  | .mkfun _ caps => caps
  | .mkmap => []
  | .mput _ m k v => [m, k, v]
  | .mget _ _ _ m k => [m, k]
  | .cap0 x => [x]
  | .apps _ _ s x _ => [s, x]
  | .appz _ _ _ _ s x _ => [s, x]
  | .clr _ _ _ x => [x]
  | .aaddr _ _ x i => [x, i]
  | .aslc _ x => [x]
  | .bad => []
def handArg (ob : Nat → Obj) (frz : Bool) (p : PV) : Option PV := if frz then pureVal ob p else some p
def shareArg (ob : Nat → Obj) (frz : Bool) (p : PV) : List (Nat × Obj) := if frz then shareVal ob p else []
def prep {α : Type} (ev : α → PV) (ob : Nat → Obj) : List Bool → List α → Option (List PV × List (Nat × Obj))
  | _, [] => some ([], [])
  | [], x :: xs => match handArg ob true (ev x), prep ev ob [] xs with
    | some q, some (qs, us) => some (q :: qs, shareArg ob true (ev x) ++ us)
    | _, _ => none
  | b :: bs, x :: xs => match handArg ob b (ev x), prep ev ob bs xs with
    | some q, some (qs, us) => some (q :: qs, shareArg ob b (ev x) ++ us)
    | _, _ => none
def put (env : Nat → PV) (d : Option Nat) (v : PV) : Nat → PV := match d with | some d => upd env d v | none => env
def ROpA.looks {α : Type} : ROpA α → Bool
  | .load _ _ _ => true
  | .store _ _ _ => true
  | .slc _ _ _ _ => true
  | .iaddr _ _ _ => true
  | .b2s _ => true
  | .bslice _ _ _ _ _ _ => true
  | .append _ _ _ _ _ _ => true
  | .apps _ _ _ _ _ => true
  | .clr _ _ _ _ => true
  | .aslc _ _ => true
  | .call _ _ => true
  | .hcall _ _ _ => true
  | .mput _ _ _ _ => true
  | .mget _ _ _ _ _ => true
  | _ => false
def cls (bs k : Nat) : Nat := if bs ≤ k ∧ k < bs + 4096 then k - bs else if k % 4096 < 2048 then 4096 else 4098
def ROpA.off {α : Type} : ROpA α → Nat
  | .bslice _ _ _ _ _ _ => 2048
  | .mkslice _ _ _ _ _ _ => 2048
  | .append _ _ _ _ _ _ => 2048
  | .apps _ _ _ _ _ => 2048
  | .appz _ _ _ _ _ _ _ => 2048
  | _ => 0
def ROpA.lookOpnds {α : Type} : ROpA α → List α
  | .store _ a _ => [a]
  | r => r.opnds
def metOk (bs : Nat) (draw : Bool) (o : POper) (ev : Operand → PV) : Prop := draw = true → o.r.looks = true → ∀ x ∈ o.r.lookOpnds, ∀ k ∈ (ev x).keys, cls bs k ∈ o.rk ∨ 4097 ∈ o.rk
def turnedOk (bs : Nat) (draw : Bool) (o : POper) (us : List (Nat × Obj)) : Prop := draw = true → ∀ u ∈ us, cls bs u.1 ∈ o.wk
def wantedIn (env : Nat → PV) : Option (Nat × Bool) → Option Bool
  | none => some true
  | some (t, want) => match env t with
    | .sc (.bool b) => some (b == want)
    | .tup [] => some false
    | _ => none
def noOb : Nat → Obj := fun _ => .no 0
def RC (gl : Gl) (P : Program) (f : Nat) (args : List PV) (res : PV) : Prop := HC gl P f args noOb res noOb ∧ res.keys = []
def fnOf : PV → Option (Nat × List PV)
  | .sc (.func (.func f) ⟨[]⟩ ⟨[]⟩) => some (f, [])
  | .clo f caps => some (f, caps)
  | _ => none
def pwOp (gl : Gl) (P : Program) (bs : Nat) (draw : Bool) (o : POper) (s : St) (K : St → Prop) : Prop :=
  match wantedIn s.env o.guard with
  | some true =>
    metOk bs draw o (evalIn s.env) ∧
    match o.r with
    | .call f args =>
      match evalIn s.env f with
      | .sc (.func (.func fid) _ _) =>
        match prep (evalIn s.env) s.objs [] args with
        | some (ps, us) => ∃ res, RC gl P fid ps res ∧ turnedOk bs draw o us ∧ K ⟨put s.env o.dst res, updAll s.objs us⟩
        | none => False
      | _ => False
    | .hcall f args frz =>
      match fnOf (evalIn s.env f) with
      | some (fid, caps) =>
        match prep (evalIn s.env) s.objs frz args with
        | some (ps, us) => ∃ res ob', HC gl P fid (ps ++ caps) (updAll s.objs us) res ob' ∧ (draw = true → 4097 ∈ o.rk ∧ ∀ k, ob' k = s.objs k ∨ cls bs k ∈ o.wk) ∧ K ⟨put s.env o.dst res, ob'⟩
        | none => False
      | none => False
    | r =>
      match pop (evalIn s.env) s.objs (bs + r.off + o.dst.getD 0) r with
      | some (v, us) => turnedOk bs draw o us ∧ K ⟨put s.env o.dst v, updAll s.objs us⟩
      | none => False
  | some false => K ⟨put s.env o.dst (.tup []), s.objs⟩
  | none => False
def pwOps (gl : Gl) (P : Program) (bs : Nat) (draw : Bool) : List POper → St → (St → Prop) → Prop
  | [], s, K => K s
  | o :: os, s, K => pwOp gl P bs draw o s fun s' => pwOps gl P bs draw os s' K
inductive PC where
  | skip
  | region (draw : Bool) (ops : List POper)
  | seq (a b : PC)
  | cond (c : Operand) (a b : PC)
  | block (id : Nat) (b : PC)
  | loop (b : PC)
  | exit (id : Nat)
  | ret
  deriving Inhabited
inductive PX where
  | normal
  | exit (id : Nat)
  | ret
  deriving DecidableEq, Inhabited
def thenX (K : St → Prop) (Q : PX → St → Prop) : PX → St → Prop
  | .normal, s => K s
  | e, s => Q e s
def inBlockX (id : Nat) (Q : PX → St → Prop) : PX → St → Prop
  | .exit i, s => if i = id then Q .normal s else Q (.exit i) s
  | e, s => Q e s
def weak (K : St → Prop) (s : St) : Prop := ∃ env', (∀ i, env' i = .undef ∨ env' i = s.env i) ∧ K ⟨env', s.objs⟩
theorem weak_intro {K : St → Prop} {s : St} (h : K s) : weak K s := ⟨s.env, fun _ => .inr rfl, h⟩
def rounds (F : (PX → St → Prop) → St → Prop) (Q : PX → St → Prop) : Nat → St → Prop
  | 0, _ => False
  | n + 1, s => weak (F (thenX (rounds F Q n) Q)) s
def pw (gl : Gl) (P : Program) (bs : Nat) : PC → (PX → St → Prop) → St → Prop
  | .skip, Q, s => Q .normal s
  | .region draw ops, Q, s => pwOps gl P bs draw ops s (Q .normal)
  | .seq a b, Q, s => pw gl P bs a (thenX (weak (pw gl P bs b Q)) Q) s
  | .cond c a b, Q, s => match evalIn s.env c with
    | .sc (.bool true) => pw gl P bs a Q s
    | .sc (.bool false) => pw gl P bs b Q s
    | _ => False
  | .block id b, Q, s => pw gl P bs b (inBlockX id Q) s
  | .loop b, Q, s => ∃ n, rounds (pw gl P bs b) Q n s
  | .exit id, Q, s => Q (.exit id) s
  | .ret, Q, s => Q .ret s
end Go.Hf
end
section
namespace Go.Hf
open Go.RowKit
structure FR (gl : Gl) (ph : Gh × (Nat → Obj) × World × List Deferred) (n B : Nat) (O : Nat → Prop) (g : Gh) (s : St) (a : Act) (w : World) : Prop where
  size : a.tmps.size = n
  defers : a.defers = ph.2.2.2
  base : B ≤ w.heap.size
  env : ∀ i, XR g w s.objs (s.env i) (a.tmps.getD i undef)
  obj : ∀ k, ObjR g w s.objs k (s.objs k)
  inj : ∀ k k', (s.objs k).live → (s.objs k').live → g.blk k = g.blk k' → k = k'
  fresh : ∀ k, (s.objs k).live → (B ≤ g.blk k ∨ O (g.blk k)) ∧ g.blk k < w.heap.size
  home : ObStep ph.1 ph.2.1 g s.objs ∧ Ext ph.1.c ph.2.2.1 g.c w
  glob : gl.p g.c w
theorem FR.weak {n B : Nat} {O : Nat → Prop} {gl : Gl} {ph : Gh × (Nat → Obj) × World × List Deferred} {g : Gh} {s : St} {a : Act} {w : World} (h : FR gl ph n B O g s a w) {env' : Nat → PV} (he : ∀ i, env' i = .undef ∨ env' i = s.env i) : FR gl ph n B O g ⟨env', s.objs⟩ a w :=
  ⟨h.size, h.defers, h.base, fun i => by
    rcases he i with e | e
    · exact .inl e
    · show XR g w s.objs (env' i) _
      rw [e]; exact h.env i, h.obj, h.inj, h.fresh, h.home, h.glob⟩
theorem FR.pass {n B : Nat} {O : Nat → Prop} {gl : Gl} {ph : Gh × (Nat → Obj) × World × List Deferred} {g g' : Gh} {s : St} {a : Act} {w w' : World} (h : FR gl ph n B O g s a w) (ob' : Nat → Obj) (ch : Nat → Prop) (hE : Ext g.c w g'.c w') (hS : ObStep g s.objs g' ob')
    (hsame : ∀ k, ¬ ch k → ob' k = s.objs k)
    (hk : ∀ k, ¬ ch k → (s.objs k).live → g'.blk k = g.blk k ∧ g'.cap k = g.cap k ∧ g'.c (g.blk k) = g.c (g.blk k) ∧ w'.heap[g.blk k]? = w.heap[g.blk k]?)
    (hn : ∀ k, ch k → (ob' k).live → ObjR g' w' ob' k (ob' k) ∧ (B ≤ g'.blk k ∨ O (g'.blk k)) ∧ g'.blk k < w'.heap.size ∧ ∀ k', k' ≠ k → (ob' k').live → g'.blk k' ≠ g'.blk k) :
    FR gl ph n B O g' ⟨s.env, ob'⟩ a w' := by
  refine ⟨h.size, h.defers, Nat.le_trans h.base hE.size, fun i => (h.env i).step hE hS, fun k => ?_, fun k k' hl hl' he => ?_, fun k hl => ?_, ⟨h.home.1.trans hS, h.home.2.trans hE⟩, gl.mono hE h.glob⟩
  · rcases Classical.em (ch k) with e | e
    · rcases Classical.em (ob' k).live with hl | hl
      · exact (hn k e hl).1
      · show ObjR g' w' ob' k (ob' k)
        cases ho : ob' k <;> simp_all [Obj.live, ObjR]
    · show ObjR g' w' ob' k (ob' k)
      rw [hsame k e]; exact ObjR.keep hE hS (hk k e) (h.obj k)
  · by_cases hkk : k = k'
    · exact hkk
    rcases Classical.em (ch k) with e | e
    · exact absurd he.symm ((hn k e hl).2.2.2 k' (fun x => hkk x.symm) hl')
    · rcases Classical.em (ch k') with e' | e'
      · exact absurd he ((hn k' e' hl').2.2.2 k hkk hl)
      · have hl1 : (s.objs k).live := by rw [← hsame k e]; exact hl
        have hl2 : (s.objs k').live := by rw [← hsame k' e']; exact hl'
        have he' : g'.blk k = g'.blk k' := he
        rw [(hk k e hl1).1, (hk k' e' hl2).1] at he'
        exact h.inj k k' hl1 hl2 he'
  · rcases Classical.em (ch k) with e | e
    · exact ⟨(hn k e hl).2.1, (hn k e hl).2.2.1⟩
    · have hl1 : (s.objs k).live := by rw [← hsame k e]; exact hl
      show (B ≤ g'.blk k ∨ O (g'.blk k)) ∧ g'.blk k < w'.heap.size
      rw [(hk k e hl1).1]
      exact ⟨(h.fresh k hl1).1, Nat.lt_of_lt_of_le (h.fresh k hl1).2 hE.size⟩
theorem FR.put {n B : Nat} {O : Nat → Prop} {gl : Gl} {ph : Gh × (Nat → Obj) × World × List Deferred} {g : Gh} {s : St} {a : Act} {w : World} (h : FR gl ph n B O g s a w) (d : Option Nat) (hd : ∀ t, d = some t → t < n) {p : PV} {v : Value} (hv : XR g w s.objs p v) :
    FR gl ph n B O g ⟨put s.env d p, s.objs⟩ (a.put d v) w := by
  cases d with
  | none => exact ⟨h.size, h.defers, h.base, h.env, h.obj, h.inj, h.fresh, h.home, h.glob⟩
  | some t =>
    have ht := hd t rfl
    refine ⟨by simp [Act.put, h.size], by simp [Act.put, h.defers], h.base, fun i => ?_, h.obj, h.inj, h.fresh, h.home, h.glob⟩
    simp only [Hf.put, Act.put, upd]
    by_cases e : i = t
    · subst e
      simp [Array.getD_eq_getD_getElem?, h.size, ht]; exact hv
    · have := h.env i
      simp only [e, if_false]
      rw [Array.getD_eq_getD_getElem?, Array.getElem?_setIfInBounds, if_neg (fun x => e x.symm), ← Array.getD_eq_getD_getElem?]
      exact this
end Go.Hf
end

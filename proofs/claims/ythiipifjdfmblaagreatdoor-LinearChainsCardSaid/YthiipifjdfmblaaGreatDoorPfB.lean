/- Pure frames, part A: the values, the operations and the predicate transformer of a machine whose frames hold pure values: slices that are lists, local variables and local slices as named objects of the frame. Nothing is claimed here of the program; the definitions are used by the parts that follow. -/
import Derived.WalkKit
import Derived.Orders
set_option linter.unusedVariables false
set_option linter.unusedSimpArgs false
namespace Go.Pf

/-- A pure value. 'sc': a scalar without an address; 'lst': a slice as the list of its elements' cells; 'eptr': a pointer into cells that nobody changes; 'own': a slice that is handed over; 'bptr', 'bld', 'kptr': names of the frame's own objects (a variable, a slice that it makes, a place in such a slice). -/
inductive PV where
  | undef
  | sc (v : Value)
  | agg (cs : List PV)
  | tup (vs : List PV)
  | lst (sz : Nat) (es : List (List PV))
  | eptr (cs : List PV) (off : Nat)
  | own (e sz : Nat) (raw : Bool) (es : List (List PV))
  | bptr (k s off : Nat)
  | bld (k s off len : Nat)
  | kptr (k s i off : Nat)
  deriving Inhabited

/-- An object of a frame, with its stamp. -/
inductive Obj where
  | no (s : Nat)
  | box (s : Nat) (cs : List PV)
  | bld (s e sz : Nat) (es : List (List PV)) (raw : Bool)
  deriving Inhabited

def Obj.stamp : Obj → Nat
  | .no s => s
  | .box s _ => s
  | .bld s _ _ _ _ => s

structure St where
  env : Nat → PV
  objs : Nat → Obj

def upd {α : Type} (f : Nat → α) (i : Nat) (v : α) : Nat → α := fun j => if j = i then v else f j

theorem upd_same {α : Type} (f : Nat → α) (i : Nat) (v : α) : upd f i v i = v := by simp [upd]
theorem upd_ne {α : Type} (f : Nat → α) {i j : Nat} (v : α) (h : j ≠ i) : upd f i v j = f j := by simp [upd, h]

def updAll (f : Nat → Obj) : List (Nat × Obj) → Nat → Obj
  | [] => f
  | (k, o) :: r => updAll (upd f k o) r

/-- Is this a scalar that holds no address? -/
def scalarV : Value → Bool
  | .bool _ => true
  | .int _ _ => true
  | .string _ => true
  | .pointer none => true
  | .slice none 0 0 => true
  | .func (.func _) ⟨[]⟩ ⟨[]⟩ => true
  | .nilFunc => true
  | .nilIface => true
  | _ => false

/-- The nil slice. -/
def nils : PV := .sc (.slice none 0 0)

def PV.isCell : PV → Bool
  | .sc v => scalarV v
  | .lst _ _ => true
  | .eptr _ _ => true
  | .bptr _ _ _ => true
  | .bld _ _ _ _ => true
  | .kptr _ _ _ _ => true
  | _ => false

/-- The cells of a value that can be stored. -/
def PV.cells : PV → Option (List PV)
  | .agg cs => some cs
  | .undef => none
  | .tup _ => none
  | .own _ _ _ _ => none
  | v => some [v]

/-- The names of the frame's objects in a value. -/
def PV.key : PV → List Nat
  | .bptr k _ _ => [k]
  | .bld k _ _ _ => [k]
  | .kptr k _ _ _ => [k]
  | _ => []
def PV.keys : PV → List Nat
  | .agg cs => cs.flatMap PV.key
  | .tup cs => cs.flatMap PV.key
  | v => v.key

/-- A constant's value. -/
def ofConst : Value → PV
  | .agg cs => .agg (cs.toList.map PV.sc)
  | v => .sc v

def evalIn (env : Nat → PV) : Operand → PV
  | .tmp t => env t
  | .const v => ofConst v
  | .func f => .sc (.func (.func f) #[] #[])
  | .global _ => .undef

/-- A cell without names of the frame: a local slice becomes the list that it holds now. -/
def pureCell (ob : Nat → Obj) : PV → Option PV
  | .bld k s off len =>
    match ob k with
    | .bld s' _ sz es _ => if s = s' ∧ off + len ≤ es.length then some (.lst sz ((es.drop off).take len)) else none
    | _ => none
  | .sc v => some (.sc v)
  | .lst sz es => some (.lst sz es)
  | .eptr cs off => some (.eptr cs off)
  | _ => none

def pureCells (ob : Nat → Obj) : List PV → Option (List PV)
  | [] => some []
  | p :: ps => match pureCell ob p, pureCells ob ps with
    | some q, some qs => some (q :: qs)
    | _, _ => none

def pureVal (ob : Nat → Obj) : PV → Option PV
  | .agg cs => (pureCells ob cs).map PV.agg
  | v => pureCell ob v

/-- What handing a value on does to the local slices in it: they may no longer be written in place. -/
def shareCell (ob : Nat → Obj) : PV → List (Nat × Obj)
  | .bld k _ _ _ =>
    match ob k with
    | .bld s e sz es true => [(k, .bld s e sz es false)]
    | _ => []
  | _ => []
def shareVal (ob : Nat → Obj) : PV → List (Nat × Obj)
  | .agg cs => cs.flatMap (shareCell ob)
  | v => shareCell ob v

/-- The elements of a slice value, each of sz cells. -/
def elems (ob : Nat → Obj) (sz : Nat) : PV → Option (List (List PV))
  | .sc (.slice none 0 0) => some []
  | .lst sz' es => if sz' = sz then some es else none
  | .bld k s off len =>
    match ob k with
    | .bld s' _ sz' es _ => if s = s' ∧ sz' = sz ∧ off + len ≤ es.length then some ((es.drop off).take len) else none
    | _ => none
  | _ => none

/-- The integer, bool and string operators. -/
def sbin (op : BinOp) : Value → Value → Option Value
  | .int k a, .int k' b =>
    if k = k' then
      match op with
      | .add => some (.int k (k.wrap (a + b)))
      | .sub => some (.int k (k.wrap (a - b)))
      | .mul => some (.int k (k.wrap (a * b)))
      | .quo => if b = 0 then none else some (.int k (k.wrap (a.tdiv b)))
      | .rem => if b = 0 then none else some (.int k (a.tmod b))
      | .eql => some (.bool (a == b))
      | .neq => some (.bool (a != b))
      | .lss => some (.bool (a < b))
      | .leq => some (.bool (a ≤ b))
      | .gtr => some (.bool (a > b))
      | .geq => some (.bool (a ≥ b))
      | _ => none
    else none
  | .string x, .string y =>
    match op with
    | .add => if ((x.size + y.size : Nat) : Int) > IntKind.i64.max then none else some (.string (x ++ y))
    | .eql => some (.bool (x.toList == y.toList))
    | .neq => some (.bool !(x.toList == y.toList))
    | .lss => some (.bool (Op.bytesLess x.toList y.toList))
    | .leq => some (.bool (Op.bytesLess x.toList y.toList || x.toList == y.toList))
    | .gtr => some (.bool !(Op.bytesLess x.toList y.toList || x.toList == y.toList))
    | .geq => some (.bool !(Op.bytesLess x.toList y.toList))
    | _ => none
  | _, _ => none

def sun (op : UnOp) : Value → Option Value
  | .bool b => match op with | .not => some (.bool !b) | _ => none
  | .int k n => match op with | .neg => some (.int k (k.wrap (0 - n))) | _ => none
  | _ => none

/-- How a slice is handed to a function: 'imm': it is only read; 'inout': it may be written in place; 'eat': it is given away. -/
inductive Mode where
  | imm | inout | eat
  deriving DecidableEq, Inhabited

/-- The operations, with what the types say of them written out. -/
inductive ROp where
  | mv (x : Operand)
  | pick (c a b : Operand)
  | alloc (zero : List Value)
  | box (x : Operand)
  | build (zero : List Value) (parts : List (Nat × Nat × Operand))
  | bslice (e sz : Nat) (zero : List Value) (len : Nat) (parts : List (Nat × Operand)) (raw : Bool)
  | load (isAgg : Bool) (n : Nat) (a : Operand)
  | store (n : Nat) (a v : Operand)
  | nilchk (x : Operand)
  | bin (op : BinOp) (x y : Operand)
  | binb (neg : Bool) (x y : Operand)
  | eqs (neg : Bool) (x y : Operand)
  | isnil (neg : Bool) (x : Operand)
  | un (op : UnOp) (x : Operand)
  | cint (k : IntKind) (x : Operand)
  | b2s (x : Operand)
  | mkslice (e sz bytes : Nat) (zero : List Value) (l c : Operand)
  | sslice (x : Operand) (lo hi : Option Operand)
  | slc (sz : Nat) (x : Operand) (lo hi : Option Operand)
  | faddr (off : Nat) (x : Operand)
  | fld (isAgg : Bool) (off n : Nat) (x : Operand)
  | iaddr (sz : Nat) (x i : Operand)
  | sidx (x i : Operand)
  | ext (x : Operand) (i : Nat)
  | len (isStr : Bool) (x : Operand)
  | append (e sz bytes : Nat) (s x : Operand) (raw : Bool)
  | mx (isMax : Bool) (x y : Operand)
  | call (f : Operand) (args : List Operand) (modes : List Mode)
  | cap0 (x : Operand)
  | appz (e sz bytes : Nat) (zero : List Value) (s x : Operand) (raw : Bool)
  | clr (e sz : Nat) (zero : List Value) (x : Operand)
  | aaddr (n sz : Nat) (x i : Operand)
  | aslc (n : Nat) (x : Operand)
  | bad
  deriving Inhabited

def takeAgg (isAgg : Bool) (n : Nat) (cs : List PV) (off : Nat) : Option PV :=
  if isAgg then (if off + n ≤ cs.length then some (.agg ((cs.drop off).take n)) else none) else cs[off]?

def putCells (cs : List PV) (off : Nat) (new : List PV) : List PV := cs.take off ++ new ++ cs.drop (off + new.length)

def fillParts (ev : Operand → PV) (cs : List PV) : List (Nat × Nat × Operand) → Option (List PV)
  | [] => some cs
  | (off, n, x) :: r =>
    match (ev x).cells with
    | some new => if new.length = n ∧ off + n ≤ cs.length then fillParts ev (putCells cs off new) r else none
    | none => none

/-- The elements of a composite slice: each part a pure value. -/
def fillElems (ev : Operand → PV) (ob : Nat → Obj) (sz : Nat) (es : List (List PV)) : List (Nat × Operand) → Option (List (List PV))
  | [] => some es
  | (i, x) :: r =>
    match (pureVal ob (ev x)).bind PV.cells with
    | some new => if new.length = sz ∧ i < es.length then fillElems ev ob sz (es.set i new) r else none
    | none => none

def bound (ev : Operand → PV) (dflt : Nat) : Option Operand → Option Nat
  | none => some dflt
  | some x => match ev x with
    | .sc (.int _ n) => if 0 ≤ n then some n.toNat else none
    | _ => none

def bytesOf : List (List PV) → Option (List UInt8)
  | [] => some []
  | [.sc (.int .u8 n)] :: r => (bytesOf r).map (UInt8.ofNat n.toNat :: ·)
  | _ => none

/-- One operation that is no call: the value and the objects that it turns; 'd': the slot that it writes. -/
def pop (ev : Operand → PV) (ob : Nat → Obj) (d : Nat) : ROp → Option (PV × List (Nat × Obj))
  | .mv x => some (ev x, [])
  | .pick c a b => match ev c with
    | .sc (.bool true) => some (ev a, [])
    | .sc (.bool false) => some (ev b, [])
    | _ => none
  | .alloc zero => some (.bptr d ((ob d).stamp + 1) 0, [(d, .box ((ob d).stamp + 1) (zero.map PV.sc))])
  | .box x => match (ev x).cells with
    | some cs => some (.bptr d ((ob d).stamp + 1) 0, [(d, .box ((ob d).stamp + 1) cs)])
    | none => none
  | .build zero parts => (fillParts ev (zero.map PV.sc) parts).map fun cs => (.agg cs, [])
  | .bslice e sz zero len parts raw =>
    (fillElems ev ob sz (List.replicate len (zero.map PV.sc)) parts).map fun es =>
      (.bld d ((ob d).stamp + 1) 0 len, parts.flatMap (fun p => shareVal ob (ev p.2)) ++ [(d, .bld ((ob d).stamp + 1) e sz es raw)])
  | .load isAgg n a => match ev a with
    | .bptr k s off => match ob k with
      | .box s' cs => if s = s' then (takeAgg isAgg n cs off).map fun v => (v, []) else none
      | _ => none
    | .kptr k s i off => match ob k with
      | .bld s' _ _ es _ => if s = s' then (es[i]?).bind fun cs => (takeAgg isAgg n cs off).map fun v => (v, []) else none
      | _ => none
    | .eptr cs off => (takeAgg isAgg n cs off).map fun v => (v, [])
    | _ => none
  | .store n a v => match ev a with
    | .bptr k s off => match ob k, (ev v).cells with
      | .box s' cs, some new => if s = s' ∧ new.length = n ∧ off + n ≤ cs.length then some (.undef, [(k, .box s (putCells cs off new))]) else none
      | _, _ => none
    | .kptr k s i off => match ob k, (pureVal ob (ev v)).bind PV.cells with
      | .bld s' e sz es true, some new =>
        match es[i]? with
        | some cs => if s = s' ∧ new.length = n ∧ off + n ≤ cs.length ∧ (ev v).keys = [] then some (.undef, [(k, .bld s e sz (es.set i (putCells cs off new)) true)]) else none
        | none => none
      | _, _ => none
    | _ => none
  | .nilchk x => match ev x with
    | .bptr k s off => some (.bptr k s off, [])
    | .kptr k s i off => some (.kptr k s i off, [])
    | .eptr cs off => some (.eptr cs off, [])
    | _ => none
  | .bin op x y => match ev x, ev y with
    | .sc a, .sc b => (sbin op a b).map fun v => (.sc v, [])
    | _, _ => none
  | .binb neg x y => match ev x, ev y with
    | .sc (.bool a), .sc (.bool b) => some (.sc (.bool (xor neg (a == b))), [])
    | _, _ => none
  | .eqs neg x y => match ev x, ev y with
    | .agg [.sc (.string a), .sc (.string b)], .agg [.sc (.string a'), .sc (.string b')] => some (.sc (.bool (xor neg (a.toList == a'.toList && b.toList == b'.toList))), [])
    | _, _ => none
  | .isnil neg x => match ev x with
    | .sc (.slice none 0 0) => some (.sc (.bool !neg), [])
    | .lst _ _ => some (.sc (.bool neg), [])
    | .bld _ _ _ _ => some (.sc (.bool neg), [])
    | _ => none
  | .un op x => match ev x with
    | .sc a => (sun op a).map fun v => (.sc v, [])
    | _ => none
  | .cint k x => match ev x with
    | .sc (.int _ n) => some (.sc (.int k (k.wrap n)), [])
    | _ => none
  | .b2s x => ((elems ob 1 (ev x)).bind bytesOf).map fun l => (.sc (.string ⟨l.toArray⟩), [])
  | .mkslice e sz bytes zero l c => match ev l, ev c with
    | .sc (.int .i64 a), .sc (.int .i64 b) =>
      if 0 ≤ a ∧ a ≤ b ∧ b * bytes ≤ 1099511627776 ∧ b ≤ 1099511627776 then
        some (.bld d ((ob d).stamp + 1) 0 a.toNat, [(d, .bld ((ob d).stamp + 1) e sz (List.replicate a.toNat (zero.map PV.sc)) true)])
      else none
    | _, _ => none
  | .sslice x lo hi => match ev x with
    | .sc (.string s) => match bound ev 0 lo, bound ev s.size hi with
      | some l, some h => if l ≤ h ∧ h ≤ s.size then some (.sc (.string (s.extract l h)), []) else none
      | _, _ => none
    | _ => none
  | .slc sz x lo hi => match ev x with
    | .lst sz' es => match bound ev 0 lo, bound ev es.length hi with
      | some l, some h => if sz' = sz ∧ l ≤ h ∧ h ≤ es.length then some (.lst sz ((es.drop l).take (h - l)), []) else none
      | _, _ => none
    | .bld k s off len => match bound ev 0 lo, bound ev len hi, ob k with
      | some l, some h, .bld s' _ sz' _ _ => if s = s' ∧ sz' = sz ∧ l ≤ h ∧ h ≤ len then some (.bld k s (off + l) (h - l), []) else none
      | _, _, _ => none
    | .sc (.slice none 0 0) => match bound ev 0 lo, bound ev 0 hi with
      | some 0, some 0 => some (nils, [])
      | _, _ => none
    | _ => none
  | .faddr o x => match ev x with
    | .bptr k s off => some (.bptr k s (off + o), [])
    | .kptr k s i off => some (.kptr k s i (off + o), [])
    | .eptr cs off => some (.eptr cs (off + o), [])
    | _ => none
  | .fld isAgg off n x => match ev x with
    | .agg cs => (takeAgg isAgg n cs off).map fun v => (v, [])
    | _ => none
  | .iaddr sz x i => match ev x, ev i with
    | .lst sz' es, .sc (.int _ n) => if sz' = sz ∧ 0 ≤ n then (es[n.toNat]?).map fun cs => (.eptr cs 0, []) else none
    | .bld k s off len, .sc (.int _ n) => match ob k with
      | .bld s' _ sz' _ _ => if s = s' ∧ sz' = sz ∧ 0 ≤ n ∧ n < len then some (.kptr k s (off + n.toNat) 0, []) else none
      | _ => none
    | _, _ => none
  | .sidx x i => match ev x, ev i with
    | .sc (.string s), .sc (.int _ n) => if 0 ≤ n then (s.data.toList[n.toNat]?).map fun b => (.sc (.int .u8 b.toNat), []) else none
    | _, _ => none
  | .ext x i => match ev x with
    | .tup vs => (vs[i]?).map fun v => (v, [])
    | _ => none
  | .len isStr x => match isStr, ev x with
    | true, .sc (.string s) => some (.sc (.int .i64 s.size), [])
    | false, .sc (.slice none 0 0) => some (.sc (.int .i64 0), [])
    | false, .lst _ es => some (.sc (.int .i64 es.length), [])
    | false, .bld _ _ _ len => some (.sc (.int .i64 len), [])
    | _, _ => none
  | .append e sz bytes s x raw => match ev s, elems ob sz (ev x) with
    | .sc (.slice none 0 0), some ys =>
      if ys.length * bytes ≤ 1099511627776 ∧ ys.length ≤ 1099511627776 then
        if ys.length = 0 then some (nils, []) else some (.bld d ((ob d).stamp + 1) 0 ys.length, [(d, .bld ((ob d).stamp + 1) e sz ys raw)])
      else none
    | .bld k st 0 len, some ys => match ob k with
      | .bld st' e' sz' es r =>
        if st = st' ∧ e' = e ∧ sz' = sz ∧ (len = es.length ∨ r = true ∧ len ≤ es.length) ∧ (len + ys.length) * bytes ≤ 1099511627776 ∧ len + ys.length ≤ 1099511627776 then
          some (.bld k (st + 1) 0 (len + ys.length), [(k, .bld (st + 1) e sz (es.take len ++ ys) r)])
        else none
      | _ => none
    | _, _ => none
  | .mx isMax x y => match ev x, ev y with
    | .sc (.int k a), .sc (.int k' b) => if k = k' then some (.sc (.int k (if isMax then (if b > a then b else a) else (if b < a then b else a))), []) else none
    | _, _ => none
  | .appz e sz bytes zero s x raw => match ev s, ev x with
    | .sc (.slice none 0 0), .sc (.int .i64 m) =>
      if 0 < m ∧ m * bytes ≤ 1099511627776 ∧ m ≤ 1099511627776 then
        some (.bld d ((ob d).stamp + 1) 0 m.toNat, [(d, .bld ((ob d).stamp + 1) e sz (List.replicate m.toNat (zero.map PV.sc)) raw)])
      else none
    | _, _ => none
  | .cap0 x => match ev x with
    | .sc (.slice none 0 0) => some (.sc (.int .i64 0), [])
    | _ => none
  | .clr e sz zero x => match ev x with
    | .sc (.slice none 0 0) => some (.tup [], [])
    | .bld k s off len => match ob k with
      | .bld s' e' sz' es true =>
        if s = s' ∧ e' = e ∧ sz' = sz ∧ off + len ≤ es.length then some (.tup [], [(k, .bld s e sz (es.take off ++ List.replicate len (zero.map PV.sc) ++ es.drop (off + len)) true)]) else none
      | _ => none
    | _ => none
  | .aaddr n sz x i => match ev x, ev i with
    | .bptr k s off, .sc (.int _ m) => if 0 ≤ m ∧ m < n then some (.bptr k s (off + m.toNat * sz), []) else none
    | _, _ => none
  | .aslc n x => match ev x with
    | .bptr k s 0 => match ob k with
      | .box s' cs => if s = s' ∧ cs.length = n ∧ n ≤ 1048576 ∧ cs.flatMap PV.key = [] then some (.lst 1 (cs.map fun q => [q]), [(k, .no s)]) else none
      | _ => none
    | _ => none
  | .call _ _ _ => none
  | .bad => none

end Go.Pf
/- Pure frames, part B: how a pure value stands for a value in memory; what it says that a function, called with such values, returns one ('RC'); the predicate transformer over pure frames ('pw'). Definitions, and how they pass from one memory to a later one. -/
namespace Go.Pf
open Go.RowKit

/-- A pure value stands for a value in the memory w; 'c': of each block so many cells from its start on stay as they are. -/
inductive VR (c : Nat → Nat) (w : World) : PV → Value → Prop where
  | sc {v : Value} (h : scalarV v = true) : VR c w (.sc v) v
  | lst {sz : Nat} {es : List (List PV)} {b o cap : Nat} (vals : Nat → Nat → Value) (hcap : es.length ≤ cap) (hm : cap ≤ maxLen) (hb : b < w.heap.size) (hc : 0 < es.length → o + es.length * sz ≤ c b)
      (hsz : ∀ (i : Nat) (cs : List PV), es[i]? = some cs → cs.length = sz)
      (hcell : ∀ (i j : Nat) (cs : List PV) (p : PV), es[i]? = some cs → cs[j]? = some p → w.cell? ⟨b, o + (i * sz + j), none⟩ = some (vals i j))
      (hci : ∀ (i j : Nat) (cs : List PV) (p : PV), es[i]? = some cs → cs[j]? = some p → p.isCell = true)
      (hv : ∀ (i j : Nat) (cs : List PV) (p : PV), es[i]? = some cs → cs[j]? = some p → VR c w p (vals i j))   : VR c w (.lst sz es) (.slice (some ⟨b, o, none⟩) es.length cap)
  | eptr {cs : List PV} {off b o : Nat} (vals : Nat → Value) (hb : b < w.heap.size) (hc : o + cs.length ≤ c b)
      (hcell : ∀ (j : Nat) (p : PV), cs[j]? = some p → w.cell? ⟨b, o + j, none⟩ = some (vals j))
      (hci : ∀ (j : Nat) (p : PV), cs[j]? = some p → p.isCell = true)
      (hv : ∀ (j : Nat) (p : PV), cs[j]? = some p → VR c w p (vals j)) : VR c w (.eptr cs off) (.pointer (some ⟨b, o + off, none⟩))
  | agg {cs : List PV} {vs : List Value} (hl : cs.length = vs.length) (hci : ∀ (j : Nat) (p : PV), cs[j]? = some p → p.isCell = true)
      (hv : ∀ (j : Nat) (p : PV) (v : Value), cs[j]? = some p → vs[j]? = some v → VR c w p v) : VR c w (.agg cs) (.agg vs.toArray)

/-- The memory w' keeps what is promised of w. -/
structure Ext (c : Nat → Nat) (w : World) (c' : Nat → Nat) (w' : World) : Prop where
  size : w.heap.size ≤ w'.heap.size
  le : ∀ b, b < w.heap.size → c b ≤ c' b
  cell : ∀ b i, b < w.heap.size → i < c b → w'.cell? ⟨b, i, none⟩ = w.cell? ⟨b, i, none⟩

theorem Ext.refl (c : Nat → Nat) (w : World) : Ext c w c w := ⟨Nat.le_refl _, fun _ _ => Nat.le_refl _, fun _ _ _ _ => rfl⟩
theorem Ext.trans {c c' c'' : Nat → Nat} {w w' w'' : World} (h : Ext c w c' w') (k : Ext c' w' c'' w'') : Ext c w c'' w'' :=
  ⟨Nat.le_trans h.size k.size, fun b hb => Nat.le_trans (h.le b hb) (k.le b (Nat.lt_of_lt_of_le hb h.size)),
   fun b i hb hi => (k.cell b i (Nat.lt_of_lt_of_le hb h.size) (Nat.lt_of_lt_of_le hi (h.le b hb))).trans (h.cell b i hb hi)⟩

theorem VR.mono {c c' : Nat → Nat} {w w' : World} (h : Ext c w c' w') {p : PV} {v : Value} (r : VR c w p v) : VR c' w' p v := by
  induction r with
  | sc h => exact .sc h
  | lst vals hcap hm hb hc hsz hcell hci hv ih =>
    rename_i sz es b o cap
    refine .lst vals hcap hm (Nat.lt_of_lt_of_le hb h.size) (fun hl => Nat.le_trans (hc hl) (h.le _ hb)) hsz ?_ hci ih
    intro i j cs p hi hj
    rw [h.cell _ _ hb ?_]
    · exact hcell i j cs p hi hj
    · have h1 : i < _ := (List.getElem?_eq_some_iff.1 hi).1
      have h2 : j < cs.length := (List.getElem?_eq_some_iff.1 hj).1
      rw [hsz i cs hi] at h2
      have h3 : (i + 1) * sz ≤ _ * sz := Nat.mul_le_mul_right sz h1
      rw [Nat.add_mul, Nat.one_mul] at h3
      have h4 := hc (by omega)
      omega
  | eptr vals hb hc hcell hci hv ih =>
    refine .eptr vals (Nat.lt_of_lt_of_le hb h.size) (Nat.le_trans hc (h.le _ hb)) ?_ hci ih
    intro j p hj
    rw [h.cell _ _ hb ?_]
    · exact hcell j p hj
    · have h2 : j < _ := (List.getElem?_eq_some_iff.1 hj).1
      omega
  | agg hl hci hv ih => exact .agg hl hci ih

/-- The slice v, with so many elements of sz cells, holds them in a block of its own. -/
def OwnR (c : Nat → Nat) (w : World) (v : Value) (e sz : Nat) (raw : Bool) (es : List (List PV)) : Prop :=
  ∃ (b cap : Nat) (arr : Array Value), v = .slice (some ⟨b, 0, none⟩) es.length cap ∧ w.heap[b]? = some (.cells arr e (0, 0)) ∧ arr.size = cap * sz ∧ es.length ≤ cap ∧ cap ≤ maxLen ∧
    (∀ (i : Nat) (cs : List PV), es[i]? = some cs → cs.length = sz) ∧
    (∀ (i j : Nat) (cs : List PV) (p : PV), es[i]? = some cs → cs[j]? = some p → ∃ u, arr[i * sz + j]? = some u ∧ p.isCell = true ∧ VR c w p u) ∧
    (raw = true → c b = 0) ∧ c b ≤ es.length * sz

def ArgR (c : Nat → Nat) (w : World) : PV → Value → Prop
  | .own e sz raw es, v => OwnR c w v e sz raw es
  | p, v => VR c w p v

def ArgsR (c : Nat → Nat) (w : World) (args : List PV) (vs : List Value) : Prop :=
  args.length = vs.length ∧ ∀ (i : Nat) (p : PV) (v : Value), args[i]? = some p → vs[i]? = some v → ArgR c w p v

/-- The block of a slice that is handed over as the first argument. -/
def ownBlk : List PV → List Value → Option Nat
  | .own _ _ _ _ :: _, .slice (some a) _ _ :: _ => some a.block
  | _, _ => none

/-- Of what was there nothing has turned but, perhaps, the block O. -/
structure Pres (c : Nat → Nat) (w : World) (c' : Nat → Nat) (w' : World) (O : Option Nat) : Prop where
  os : w'.os = w.os
  tape : w'.tape = w.tape
  output : w'.output = w.output
  size : w.heap.size ≤ w'.heap.size
  block : ∀ b, b < w.heap.size → O ≠ some b → w'.heap[b]? = w.heap[b]?
  c : ∀ b, b < w.heap.size → O ≠ some b → c' b = c b

theorem Pres.refl (c : Nat → Nat) (w : World) (O : Option Nat) : Pres c w c w O := ⟨rfl, rfl, rfl, Nat.le_refl _, fun _ _ _ => rfl, fun _ _ _ => rfl⟩
theorem Pres.trans {c c' c'' : Nat → Nat} {w w' w'' : World} {O : Option Nat} (h : Pres c w c' w' O) (k : Pres c' w' c'' w'' O) : Pres c w c'' w'' O :=
  ⟨k.os.trans h.os, k.tape.trans h.tape, k.output.trans h.output, Nat.le_trans h.size k.size,
   fun b hb ho => (k.block b (Nat.lt_of_lt_of_le hb h.size) ho).trans (h.block b hb ho),
   fun b hb ho => (k.c b (Nat.lt_of_lt_of_le hb h.size) ho).trans (h.c b hb ho)⟩

/-- What comes back: at its first place there may be a slice with a block of its own, new (or, where 'may' says so, an elder one). -/
def ResR (c : Nat → Nat) (w : World) (may : Nat → Prop) : PV → Value → Prop
  | .own e sz raw es, v => OwnR c w v e sz raw es ∧ ∀ (a : Addr) (l cap : Nat), v = .slice (some a) l cap → may a.block
  | .tup ps, v => ∃ vs : List Value, v = .tuple vs.toArray ∧ ps.length = vs.length ∧
      ∀ (i : Nat) (p : PV) (u : Value), ps[i]? = some p → vs[i]? = some u → (VR c w p u ∨ i = 0 ∧ ∃ e sz raw es, p = .own e sz raw es ∧ OwnR c w u e sz raw es ∧ ∀ (a : Addr) (l cap : Nat), u = .slice (some a) l cap → may a.block)
  | p, v => VR c w p v

/-- A function with a body of its own. -/
def Enters (P : Program) (f : Nat) : Prop := ∃ fn, P.funcs[f]? = some fn ∧ (fn.name == "runtime.NumGoroutine") = false ∧ fn.body.isNone = false

/-- What is known of the program's variables; it stays true. -/
structure Gl where
  p : (Nat → Nat) → World → Prop
  mono : ∀ {c c' : Nat → Nat} {w w' : World}, Ext c w c' w' → p c w → p c' w'

/-- The function f, called with values for which 'args' stand, returns a value for which 'res' stands; a slice that was handed over to be written in place holds 'out' then. -/
def RC (gl : Gl) (P : Program) (f : Nat) (m : Mode) (args : List PV) (res : PV) (out : List (List PV)) : Prop :=
  Enters P f ∧ ∀ (c : Nat → Nat) (w : World) (vs : List Value), gl.p c w → ArgsR c w args vs →
    Calls P f vs.toArray w fun e w' => ∃ v c', e = .returned v ∧ Pres c w c' w' (ownBlk args vs) ∧
      ResR c' w' (fun b => w.heap.size ≤ b ∨ m = .eat ∧ ownBlk args vs = some b) res v ∧
      (m = .inout → ∀ e sz raw es r v0 vr, args = .own e sz raw es :: r → vs = v0 :: vr → OwnR c' w' v0 e sz raw out)

structure POper where
  dst : Option Nat
  guard : Option (Nat × Bool)
  r : ROp
  rk : List Nat
  wk : List Nat
  deriving Inhabited

def optL (o : Option Operand) : List Operand := match o with | some x => [x] | none => []

def ROp.opnds : ROp → List Operand
  | .mv x => [x]
  | .pick c a b => [c, a, b]
  | .alloc _ => []
  | .box x => [x]
  | .build _ parts => parts.map (·.2.2)
  | .bslice _ _ _ _ parts _ => parts.map (·.2)
  | .load _ _ a => [a]
  | .store _ a v => [a, v]
  | .nilchk x => [x]
  | .bin _ x y => [x, y]
  | .binb _ x y => [x, y]
  | .eqs _ x y => [x, y]
  | .isnil _ x => [x]
  | .un _ x => [x]
  | .cint _ x => [x]
  | .b2s x => [x]
  | .mkslice _ _ _ _ l c => [l, c]
  | .sslice x lo hi => x :: (optL lo ++ optL hi)
  | .slc _ x lo hi => x :: (optL lo ++ optL hi)
  | .faddr _ x => [x]
  | .fld _ _ _ x => [x]
  | .iaddr _ x i => [x, i]
  | .sidx x i => [x, i]
  | .ext x _ => [x]
  | .len _ x => [x]
  | .append _ _ _ s x _ => [s, x]
  | .mx _ x y => [x, y]
  | .call f args _ => f :: args
  | .cap0 x => [x]
  | .appz _ _ _ _ s x _ => [s, x]
  | .clr _ _ _ x => [x]
  | .aaddr _ _ x i => [x, i]
  | .aslc _ x => [x]
  | .bad => []

/-- The slice that is handed over. -/
def ownArg (ob : Nat → Obj) : PV → Option PV
  | .sc (.slice none 0 0) => some nils
  | .bld k s 0 len =>
    match ob k with
    | .bld s' e sz es true => if s = s' ∧ len = es.length then some (.own e sz true es) else none
    | _ => none
  | _ => none

def pureVals (ev : Operand → PV) (ob : Nat → Obj) : List Operand → Option (List PV)
  | [] => some []
  | x :: xs => match pureVal ob (ev x), pureVals ev ob xs with
    | some q, some qs => some (q :: qs)
    | _, _ => none

/-- The arguments of a call, and the objects that turn by their being handed on. -/
def prep (ev : Operand → PV) (ob : Nat → Obj) : Mode → List Operand → Option (List PV × List (Nat × Obj))
  | .imm, xs => (pureVals ev ob xs).map fun ps => (ps, xs.flatMap fun x => shareVal ob (ev x))
  | _, [] => none
  | _, x :: xs =>
    match ownArg ob (ev x), pureVals ev ob xs with
    | some q, some qs => if (ev x).keys.all (fun k => !(xs.any fun y => (ev y).keys.contains k)) then some (q :: qs, xs.flatMap fun y => shareVal ob (ev y)) else none
    | _, _ => none

/-- What a slice that was handed over holds behind the call. -/
def outUpd (ob : Nat → Obj) (m : Mode) (x : PV) (out : List (List PV)) : List (Nat × Obj) :=
  match m, x with
  | .inout, .bld k s _ _ => match ob k with
    | .bld _ e sz _ raw => [(k, .bld s e sz out raw)]
    | _ => []
  | .eat, .bld k s _ _ => [(k, .no s)]
  | _, _ => []

def adopt (ob : Nat → Obj) (d : Nat) : PV → PV × List (Nat × Obj)
  | .own e sz raw es => (.bld d ((ob d).stamp + 1) 0 es.length, [(d, .bld ((ob d).stamp + 1) e sz es raw)])
  | .tup (.own e sz raw es :: r) => (.tup (.bld d ((ob d).stamp + 1) 0 es.length :: r), [(d, .bld ((ob d).stamp + 1) e sz es raw)])
  | v => (v, [])

def put (env : Nat → PV) (d : Option Nat) (v : PV) : Nat → PV := match d with | some d => upd env d v | none => env

def headMode : List Mode → Mode
  | m :: _ => m
  | [] => .imm

def firstOf (ev : Operand → PV) : List Operand → PV
  | x :: _ => ev x
  | [] => .undef

/-- Does an operation look into the objects that its operands name? -/
def ROp.looks : ROp → Bool
  | .load _ _ _ => true
  | .store _ _ _ => true
  | .slc _ _ _ _ => true
  | .iaddr _ _ _ => true
  | .b2s _ => true
  | .bslice _ _ _ _ _ _ => true
  | .append _ _ _ _ _ _ => true
  | .clr _ _ _ _ => true
  | .aslc _ _ => true
  | .call _ _ _ => true
  | _ => false

/-- In a region whose order is drawn: the objects that an operation meets are those that it names. -/
def metOk (draw : Bool) (o : POper) (ev : Operand → PV) : Prop := draw = true → o.r.looks = true → ∀ x ∈ o.r.opnds, ∀ k ∈ (ev x).keys, k ∈ o.rk
def turnedOk (draw : Bool) (o : POper) (us : List (Nat × Obj)) : Prop := draw = true → ∀ u ∈ us, u.1 ∈ o.wk

/-- Is a guarded operation wanted? (Nothing is said where the guard's slot holds no bool and was not passed by.) -/
def wantedIn (env : Nat → PV) : Option (Nat × Bool) → Option Bool
  | none => some true
  | some (t, want) => match env t with
    | .sc (.bool b) => some (b == want)
    | .tup [] => some false
    | _ => none

/-- One operation. -/
def pwOp (gl : Gl) (P : Program) (draw : Bool) (o : POper) (s : St) (K : St → Prop) : Prop :=
  match wantedIn s.env o.guard with
  | some true =>
    metOk draw o (evalIn s.env) ∧
    match o.r with
    | .call f args modes =>
      match evalIn s.env f with
      | .sc (.func (.func fid) _ _) =>
        match prep (evalIn s.env) s.objs (headMode modes) args with
        | some (ps, us) => ∃ res out, RC gl P fid (headMode modes) ps res out ∧
            turnedOk draw o (us ++ outUpd s.objs (headMode modes) (firstOf (evalIn s.env) args) out ++ (adopt s.objs (o.dst.getD 0) res).2) ∧
            K ⟨put s.env o.dst (adopt s.objs (o.dst.getD 0) res).1,
               updAll s.objs (us ++ outUpd s.objs (headMode modes) (firstOf (evalIn s.env) args) out ++ (adopt s.objs (o.dst.getD 0) res).2)⟩
        | none => False
      | _ => False
    | r =>
      match pop (evalIn s.env) s.objs (o.dst.getD 0) r with
      | some (v, us) => turnedOk draw o us ∧ K ⟨put s.env o.dst v, updAll s.objs us⟩
      | none => False
  | some false => K ⟨put s.env o.dst (.tup []), s.objs⟩
  | none => False

def pwOps (gl : Gl) (P : Program) (draw : Bool) : List POper → St → (St → Prop) → Prop
  | [], s, K => K s
  | o :: os, s, K => pwOp gl P draw o s fun s' => pwOps gl P draw os s' K

inductive PC where
  | skip
  | region (draw : Bool) (ops : List POper)
  | seq (a b : PC)
  | cond (c : Operand) (a b : PC)
  | block (id : Nat) (b : PC)
  | loop (b : PC)
  | exit (id : Nat)
  | ret
  deriving Inhabited

inductive PX where
  | normal
  | exit (id : Nat)
  | ret
  deriving DecidableEq, Inhabited

def thenX (K : St → Prop) (Q : PX → St → Prop) : PX → St → Prop
  | .normal, s => K s
  | e, s => Q e s

def inBlockX (id : Nat) (Q : PX → St → Prop) : PX → St → Prop
  | .exit i, s => if i = id then Q .normal s else Q (.exit i) s
  | e, s => Q e s

def rounds (F : (PX → St → Prop) → St → Prop) (Q : PX → St → Prop) : Nat → St → Prop
  | 0, _ => False
  | n + 1, s => F (thenX (rounds F Q n) Q) s

def pw (gl : Gl) (P : Program) : PC → (PX → St → Prop) → St → Prop
  | .skip, Q, s => Q .normal s
  | .region draw ops, Q, s => pwOps gl P draw ops s (Q .normal)
  | .seq a b, Q, s => pw gl P a (thenX (pw gl P b Q) Q) s
  | .cond c a b, Q, s => match evalIn s.env c with
    | .sc (.bool true) => pw gl P a Q s
    | .sc (.bool false) => pw gl P b Q s
    | _ => False
  | .block id b, Q, s => pw gl P b (inBlockX id Q) s
  | .loop b, Q, s => ∃ n, rounds (pw gl P b) Q n s
  | .exit id, Q, s => Q (.exit id) s
  | .ret, Q, s => Q .ret s

end Go.Pf

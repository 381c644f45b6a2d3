/- Pure frames, second part Da: the operations once more, each by a function of its own (they run faster so). -/
import Derived.Test.YthiipifjdfmblaaGreatDoorPgC
set_option linter.unusedVariables false
set_option linter.unusedSimpArgs false
namespace Go.Pf

def pMv (ev : Operand → PV) (ob : Nat → Obj) (d : Nat) (x : Operand) : Option (PV × List (Nat × Obj)) :=
  some (ev x, [])
def pPick (ev : Operand → PV) (ob : Nat → Obj) (d : Nat) (c : Operand) (a : Operand) (b : Operand) : Option (PV × List (Nat × Obj)) :=
  match ev c with
    | .sc (.bool true) => some (ev a, [])
    | .sc (.bool false) => some (ev b, [])
    | _ => none
def pAlloc (ev : Operand → PV) (ob : Nat → Obj) (d : Nat) (zero : List Value) : Option (PV × List (Nat × Obj)) :=
  some (.bptr d ((ob d).stamp + 1) 0, [(d, .box ((ob d).stamp + 1) (zero.map PV.sc))])
def pBox (ev : Operand → PV) (ob : Nat → Obj) (d : Nat) (x : Operand) : Option (PV × List (Nat × Obj)) :=
  match (ev x).cells with
    | some cs => some (.bptr d ((ob d).stamp + 1) 0, [(d, .box ((ob d).stamp + 1) cs)])
    | none => none
def pBuild (ev : Operand → PV) (ob : Nat → Obj) (d : Nat) (zero : List Value) (parts : List (Nat × Nat × Operand)) : Option (PV × List (Nat × Obj)) :=
  (fillParts ev (zero.map PV.sc) parts).map fun cs => (.agg cs, [])
def pBslice (ev : Operand → PV) (ob : Nat → Obj) (d : Nat) (e : Nat) (sz : Nat) (zero : List Value) (len : Nat) (parts : List (Nat × Operand)) (raw : Bool) : Option (PV × List (Nat × Obj)) :=
  
    (fillElems ev ob sz (List.replicate len (zero.map PV.sc)) parts).map fun es =>
      (.bld d ((ob d).stamp + 1) 0 len, parts.flatMap (fun p => shareVal ob (ev p.2)) ++ [(d, .bld ((ob d).stamp + 1) e sz es raw)])
def pLoad (ev : Operand → PV) (ob : Nat → Obj) (d : Nat) (isAgg : Bool) (n : Nat) (a : Operand) : Option (PV × List (Nat × Obj)) :=
  match ev a with
    | .bptr k s off => match ob k with
      | .box s' cs => if s = s' then (takeAgg isAgg n cs off).map fun v => (v, []) else none
      | _ => none
    | .kptr k s i off => match ob k with
      | .bld s' _ _ es _ => if s = s' then (es[i]?).bind fun cs => (takeAgg isAgg n cs off).map fun v => (v, []) else none
      | _ => none
    | .eptr cs off => (takeAgg isAgg n cs off).map fun v => (v, [])
    | _ => none
def pStore (ev : Operand → PV) (ob : Nat → Obj) (d : Nat) (n : Nat) (a : Operand) (v : Operand) : Option (PV × List (Nat × Obj)) :=
  match ev a with
    | .bptr k s off => match ob k, (ev v).cells with
      | .box s' cs, some new => if s = s' ∧ new.length = n ∧ off + n ≤ cs.length then some (.undef, [(k, .box s (putCells cs off new))]) else none
      | _, _ => none
    | .kptr k s i off => match ob k, (pureVal ob (ev v)).bind PV.cells with
      | .bld s' e sz es true, some new =>
        match es[i]? with
        | some cs => if s = s' ∧ new.length = n ∧ off + n ≤ cs.length ∧ (ev v).keys = [] then some (.undef, [(k, .bld s e sz (es.set i (putCells cs off new)) true)]) else none
        | none => none
      | _, _ => none
    | _ => none
def pNilchk (ev : Operand → PV) (ob : Nat → Obj) (d : Nat) (x : Operand) : Option (PV × List (Nat × Obj)) :=
  match ev x with
    | .bptr k s off => some (.bptr k s off, [])
    | .kptr k s i off => some (.kptr k s i off, [])
    | .eptr cs off => some (.eptr cs off, [])
    | _ => none
def pBin (ev : Operand → PV) (ob : Nat → Obj) (d : Nat) (op : BinOp) (x : Operand) (y : Operand) : Option (PV × List (Nat × Obj)) :=
  match ev x, ev y with
    | .sc a, .sc b => (sbin op a b).map fun v => (.sc v, [])
    | _, _ => none
def pBinb (ev : Operand → PV) (ob : Nat → Obj) (d : Nat) (neg : Bool) (x : Operand) (y : Operand) : Option (PV × List (Nat × Obj)) :=
  match ev x, ev y with
    | .sc (.bool a), .sc (.bool b) => some (.sc (.bool (xor neg (a == b))), [])
    | _, _ => none
def pEqs (ev : Operand → PV) (ob : Nat → Obj) (d : Nat) (neg : Bool) (x : Operand) (y : Operand) : Option (PV × List (Nat × Obj)) :=
  match ev x, ev y with
    | .agg [.sc (.string a), .sc (.string b)], .agg [.sc (.string a'), .sc (.string b')] => some (.sc (.bool (xor neg (a.toList == a'.toList && b.toList == b'.toList))), [])
    | _, _ => none
def pIsnil (ev : Operand → PV) (ob : Nat → Obj) (d : Nat) (neg : Bool) (x : Operand) : Option (PV × List (Nat × Obj)) :=
  match ev x with
    | .sc (.slice none 0 0) => some (.sc (.bool !neg), [])
    | .lst _ _ => some (.sc (.bool neg), [])
    | .bld _ _ _ _ => some (.sc (.bool neg), [])
    | _ => none
def pUn (ev : Operand → PV) (ob : Nat → Obj) (d : Nat) (op : UnOp) (x : Operand) : Option (PV × List (Nat × Obj)) :=
  match ev x with
    | .sc a => (sun op a).map fun v => (.sc v, [])
    | _ => none
def pCint (ev : Operand → PV) (ob : Nat → Obj) (d : Nat) (k : IntKind) (x : Operand) : Option (PV × List (Nat × Obj)) :=
  match ev x with
    | .sc (.int _ n) => some (.sc (.int k (k.wrap n)), [])
    | _ => none
def pB2s (ev : Operand → PV) (ob : Nat → Obj) (d : Nat) (x : Operand) : Option (PV × List (Nat × Obj)) :=
  ((elems ob 1 (ev x)).bind bytesOf).map fun l => (.sc (.string ⟨l.toArray⟩), [])
def pMkslice (ev : Operand → PV) (ob : Nat → Obj) (d : Nat) (e : Nat) (sz : Nat) (bytes : Nat) (zero : List Value) (l : Operand) (c : Operand) : Option (PV × List (Nat × Obj)) :=
  match ev l, ev c with
    | .sc (.int .i64 a), .sc (.int .i64 b) =>
      if 0 ≤ a ∧ a ≤ b ∧ b * bytes ≤ 1099511627776 ∧ b ≤ 1099511627776 then
        some (.bld d ((ob d).stamp + 1) 0 a.toNat, [(d, .bld ((ob d).stamp + 1) e sz (List.replicate a.toNat (zero.map PV.sc)) true)])
      else none
    | _, _ => none
def pSslice (ev : Operand → PV) (ob : Nat → Obj) (d : Nat) (x : Operand) (lo : Option Operand) (hi : Option Operand) : Option (PV × List (Nat × Obj)) :=
  match ev x with
    | .sc (.string s) => match bound ev 0 lo, bound ev s.size hi with
      | some l, some h => if l ≤ h ∧ h ≤ s.size then some (.sc (.string (s.extract l h)), []) else none
      | _, _ => none
    | _ => none
def pSlc (ev : Operand → PV) (ob : Nat → Obj) (d : Nat) (sz : Nat) (x : Operand) (lo : Option Operand) (hi : Option Operand) : Option (PV × List (Nat × Obj)) :=
  match ev x with
    | .lst sz' es => match bound ev 0 lo, bound ev es.length hi with
      | some l, some h => if sz' = sz ∧ l ≤ h ∧ h ≤ es.length then some (.lst sz ((es.drop l).take (h - l)), []) else none
      | _, _ => none
    | .bld k s off len => match bound ev 0 lo, bound ev len hi, ob k with
      | some l, some h, .bld s' _ sz' _ _ => if s = s' ∧ sz' = sz ∧ l ≤ h ∧ h ≤ len then some (.bld k s (off + l) (h - l), []) else none
      | _, _, _ => none
    | .sc (.slice none 0 0) => match bound ev 0 lo, bound ev 0 hi with
      | some 0, some 0 => some (nils, [])
      | _, _ => none
    | _ => none
def pFaddr (ev : Operand → PV) (ob : Nat → Obj) (d : Nat) (o : Nat) (x : Operand) : Option (PV × List (Nat × Obj)) :=
  match ev x with
    | .bptr k s off => some (.bptr k s (off + o), [])
    | .kptr k s i off => some (.kptr k s i (off + o), [])
    | .eptr cs off => some (.eptr cs (off + o), [])
    | _ => none
def pFld (ev : Operand → PV) (ob : Nat → Obj) (d : Nat) (isAgg : Bool) (off : Nat) (n : Nat) (x : Operand) : Option (PV × List (Nat × Obj)) :=
  match ev x with
    | .agg cs => (takeAgg isAgg n cs off).map fun v => (v, [])
    | _ => none
def pIaddr (ev : Operand → PV) (ob : Nat → Obj) (d : Nat) (sz : Nat) (x : Operand) (i : Operand) : Option (PV × List (Nat × Obj)) :=
  match ev x, ev i with
    | .lst sz' es, .sc (.int _ n) => if sz' = sz ∧ 0 ≤ n then (es[n.toNat]?).map fun cs => (.eptr cs 0, []) else none
    | .bld k s off len, .sc (.int _ n) => match ob k with
      | .bld s' _ sz' _ _ => if s = s' ∧ sz' = sz ∧ 0 ≤ n ∧ n < len then some (.kptr k s (off + n.toNat) 0, []) else none
      | _ => none
    | _, _ => none
def pSidx (ev : Operand → PV) (ob : Nat → Obj) (d : Nat) (x : Operand) (i : Operand) : Option (PV × List (Nat × Obj)) :=
  match ev x, ev i with
    | .sc (.string s), .sc (.int _ n) => if 0 ≤ n then (s.data.toList[n.toNat]?).map fun b => (.sc (.int .u8 b.toNat), []) else none
    | _, _ => none
def pExt (ev : Operand → PV) (ob : Nat → Obj) (d : Nat) (x : Operand) (i : Nat) : Option (PV × List (Nat × Obj)) :=
  match ev x with
    | .tup vs => (vs[i]?).map fun v => (v, [])
    | _ => none
def pLen (ev : Operand → PV) (ob : Nat → Obj) (d : Nat) (isStr : Bool) (x : Operand) : Option (PV × List (Nat × Obj)) :=
  match isStr, ev x with
    | true, .sc (.string s) => some (.sc (.int .i64 s.size), [])
    | false, .sc (.slice none 0 0) => some (.sc (.int .i64 0), [])
    | false, .lst _ es => some (.sc (.int .i64 es.length), [])
    | false, .bld _ _ _ len => some (.sc (.int .i64 len), [])
    | _, _ => none
def pAppend (ev : Operand → PV) (ob : Nat → Obj) (d : Nat) (e : Nat) (sz : Nat) (bytes : Nat) (s : Operand) (x : Operand) (raw : Bool) : Option (PV × List (Nat × Obj)) :=
  match ev s, elems ob sz (ev x) with
    | .sc (.slice none 0 0), some ys =>
      if ys.length * bytes ≤ 1099511627776 ∧ ys.length ≤ 1099511627776 then
        if ys.length = 0 then some (nils, []) else some (.bld d ((ob d).stamp + 1) 0 ys.length, [(d, .bld ((ob d).stamp + 1) e sz ys raw)])
      else none
    | .bld k st 0 len, some ys => match ob k with
      | .bld st' e' sz' es r =>
        if st = st' ∧ e' = e ∧ sz' = sz ∧ (len = es.length ∨ r = true ∧ len ≤ es.length) ∧ (len + ys.length) * bytes ≤ 1099511627776 ∧ len + ys.length ≤ 1099511627776 then
          some (.bld k (st + 1) 0 (len + ys.length), [(k, .bld (st + 1) e sz (es.take len ++ ys) r)])
        else none
      | _ => none
    | _, _ => none
def pMx (ev : Operand → PV) (ob : Nat → Obj) (d : Nat) (isMax : Bool) (x : Operand) (y : Operand) : Option (PV × List (Nat × Obj)) :=
  match ev x, ev y with
    | .sc (.int k a), .sc (.int k' b) => if k = k' then some (.sc (.int k (if isMax then (if b > a then b else a) else (if b < a then b else a))), []) else none
    | _, _ => none
def pAppz (ev : Operand → PV) (ob : Nat → Obj) (d : Nat) (e : Nat) (sz : Nat) (bytes : Nat) (zero : List Value) (s : Operand) (x : Operand) (raw : Bool) : Option (PV × List (Nat × Obj)) :=
  match ev s, ev x with
    | .sc (.slice none 0 0), .sc (.int .i64 m) =>
      if 0 < m ∧ m * bytes ≤ 1099511627776 ∧ m ≤ 1099511627776 then
        some (.bld d ((ob d).stamp + 1) 0 m.toNat, [(d, .bld ((ob d).stamp + 1) e sz (List.replicate m.toNat (zero.map PV.sc)) raw)])
      else none
    | _, _ => none
def pCap0 (ev : Operand → PV) (ob : Nat → Obj) (d : Nat) (x : Operand) : Option (PV × List (Nat × Obj)) :=
  match ev x with
    | .sc (.slice none 0 0) => some (.sc (.int .i64 0), [])
    | _ => none
def pClr (ev : Operand → PV) (ob : Nat → Obj) (d : Nat) (e : Nat) (sz : Nat) (zero : List Value) (x : Operand) : Option (PV × List (Nat × Obj)) :=
  match ev x with
    | .sc (.slice none 0 0) => some (.tup [], [])
    | .bld k s off len => match ob k with
      | .bld s' e' sz' es true =>
        if s = s' ∧ e' = e ∧ sz' = sz ∧ off + len ≤ es.length then some (.tup [], [(k, .bld s e sz (es.take off ++ List.replicate len (zero.map PV.sc) ++ es.drop (off + len)) true)]) else none
      | _ => none
    | _ => none
def pAaddr (ev : Operand → PV) (ob : Nat → Obj) (d : Nat) (n : Nat) (sz : Nat) (x : Operand) (i : Operand) : Option (PV × List (Nat × Obj)) :=
  match ev x, ev i with
    | .bptr k s off, .sc (.int _ m) => if 0 ≤ m ∧ m < n then some (.bptr k s (off + m.toNat * sz), []) else none
    | _, _ => none
def pAslc (ev : Operand → PV) (ob : Nat → Obj) (d : Nat) (n : Nat) (x : Operand) : Option (PV × List (Nat × Obj)) :=
  match ev x with
    | .bptr k s 0 => match ob k with
      | .box s' cs => if s = s' ∧ cs.length = n ∧ n ≤ 1048576 ∧ cs.flatMap PV.key = [] then some (.lst 1 (cs.map fun q => [q]), [(k, .no s)]) else none
      | _ => none
    | _ => none

def popF (ev : Operand → PV) (ob : Nat → Obj) (d : Nat) : ROp → Option (PV × List (Nat × Obj))
  | .mv x => pMv ev ob d x
  | .pick c a b => pPick ev ob d c a b
  | .alloc zero => pAlloc ev ob d zero
  | .box x => pBox ev ob d x
  | .build zero parts => pBuild ev ob d zero parts
  | .bslice e sz zero len parts raw => pBslice ev ob d e sz zero len parts raw
  | .load isAgg n a => pLoad ev ob d isAgg n a
  | .store n a v => pStore ev ob d n a v
  | .nilchk x => pNilchk ev ob d x
  | .bin op x y => pBin ev ob d op x y
  | .binb neg x y => pBinb ev ob d neg x y
  | .eqs neg x y => pEqs ev ob d neg x y
  | .isnil neg x => pIsnil ev ob d neg x
  | .un op x => pUn ev ob d op x
  | .cint k x => pCint ev ob d k x
  | .b2s x => pB2s ev ob d x
  | .mkslice e sz bytes zero l c => pMkslice ev ob d e sz bytes zero l c
  | .sslice x lo hi => pSslice ev ob d x lo hi
  | .slc sz x lo hi => pSlc ev ob d sz x lo hi
  | .faddr o x => pFaddr ev ob d o x
  | .fld isAgg off n x => pFld ev ob d isAgg off n x
  | .iaddr sz x i => pIaddr ev ob d sz x i
  | .sidx x i => pSidx ev ob d x i
  | .ext x i => pExt ev ob d x i
  | .len isStr x => pLen ev ob d isStr x
  | .append e sz bytes s x raw => pAppend ev ob d e sz bytes s x raw
  | .mx isMax x y => pMx ev ob d isMax x y
  | .appz e sz bytes zero s x raw => pAppz ev ob d e sz bytes zero s x raw
  | .cap0 x => pCap0 ev ob d x
  | .clr e sz zero x => pClr ev ob d e sz zero x
  | .aaddr n sz x i => pAaddr ev ob d n sz x i
  | .aslc n x => pAslc ev ob d n x
  | .call _ _ _ => none
  | .bad => none

theorem popF_eq (ev : Operand → PV) (ob : Nat → Obj) (d : Nat) (r : ROp) : popF ev ob d r = pop ev ob d r := by
  cases r <;> rfl

def ROp.isCall : ROp → Bool
  | .call _ _ _ => true
  | _ => false
end Go.Pf

/- Pure frames, part U: the code of a function, resolved ('comp'), by a program; what it turns out is what the code says. -/
import Derived.Test.YtlefgpakmgbgaaaGreatDoorEh
set_option linter.unusedVariables false
set_option linter.unusedSimpArgs false
set_option linter.unusedSectionVars false
section
namespace Go.Hf
open Go.RowKit
structure Hints where
  raws : List Nat
  calls : List (Nat × List Bool)
  dyns : List Nat
  pts : List (Nat × List Nat)
  hw : List (Nat × List Nat)
  deriving Inhabited
def zeroOf (P : Program) (t : TypeId) : Option (Nat × List Value) :=
  match P.info? t with
  | some i => match i.zero with
    | some z => if z.cells.toList.length = i.size ∧ z.cells.toList.all scalarV = true then some (i.size, z.cells.toList) else none
    | none => none
  | none => none
theorem zeroOf_ok {P : Program} {t : TypeId} {sz : Nat} {zero : List Value} (h : zeroOf P t = some (sz, zero)) : ZeroOk P t sz zero := by
  unfold zeroOf at h
  split at h
  · rename_i i hi
    split at h
    · rename_i z hz
      split at h
      · rename_i hc
        cases h
        exact ⟨i, z, hi, hz, rfl, rfl, hc.1, hc.2⟩
      · cases h
    · cases h
  · cases h
def tyOf (P : Program) (t : TypeId) : Option (Bool × Nat) :=
  match P.info? t, P.underlying t with
  | some i, some d => if aggD d = true ∨ i.size = 1 then some (aggD d, i.size) else none
  | _, _ => none
theorem tyOf_ok {P : Program} {t : TypeId} {agg : Bool} {n : Nat} (h : tyOf P t = some (agg, n)) : TyOk P t agg n := by
  unfold tyOf at h
  split at h
  · rename_i i d hi hd
    split at h
    · rename_i hc
      cases h
      exact ⟨i, d, hi, rfl, hd, rfl, fun e => hc.resolve_left (by simp [e])⟩
    · cases h
  · cases h
def partsOf (place : Nat → Option (Nat × Nat)) : List (Nat × Operand) → Option (List (Nat × Nat × Operand))
  | [] => some []
  | (i, x) :: r =>
    match place i, partsOf place r with
    | some (off, n), some q => if opndOk x = true then some ((off, n, x) :: q) else none
    | _, _ => none
theorem partsOf_ok {place : Nat → Option (Nat × Nat)} : ∀ {l : List (Nat × Operand)} {q : List (Nat × Nat × Operand)}, partsOf place l = some q → PartsOk place l q
  | [], q, h => by cases h; trivial
  | (i, x) :: r, q, h => by
    unfold partsOf at h
    split at h
    · rename_i off n q' h1 h2
      split at h
      · rename_i hx
        cases h
        exact ⟨h1, rfl, hx, partsOf_ok h2⟩
      · cases h
    · cases h
def buildOf (P : Program) (t : TypeId) (parts : List (Nat × Operand)) : Option (List (Nat × Nat × Operand)) :=
  match P.underlying t with
  | some (.struct fs) => if fs.toList.all (fun f => (P.info? f.type).isSome) = true then partsOf (fun k => (fs[k]?).bind fun f => (P.info? f.type).map fun i => (f.offset, i.size)) parts else none
  | some (.array _ e) => match P.info? e with
    | some i => partsOf (fun k => some (k * i.size, i.size)) parts
    | none => none
  | _ => none
theorem buildOf_ok {P : Program} {t : TypeId} {parts : List (Nat × Operand)} {ps : List (Nat × Nat × Operand)} (h : buildOf P t parts = some ps) : BuildOk P t parts ps := by
  unfold buildOf at h
  split at h
  · rename_i fs hu
    split at h
    · rename_i hc
      refine .inl ⟨fs, hu, fun k f hf => ?_, partsOf_ok h⟩
      rw [List.all_eq_true] at hc
      exact hc f (by rw [← Array.getElem?_toList] at hf; exact List.mem_of_getElem? hf)
    · cases h
  · rename_i m e hu
    split at h
    · rename_i i hi
      exact .inr ⟨m, e, i, hu, hi, partsOf_ok h⟩
    · cases h
  · cases h
def orBad (c : Bool) (r : ROp) : ROp := if c then r else .bad
theorem orBad_ok {P : Program} {o : Oper} {c : Bool} {r : ROp} (h : c = true → Rs P o r) : Rs P o (orBad c r) := by
  cases c
  · trivial
  · exact h rfl
def eqOf : BinOp → Option Bool
  | .eql => some false
  | .neq => some true
  | _ => none
theorem eqOf_ok {op : BinOp} {b : Bool} (h : eqOf op = some b) : op = eqOp b := by
  cases op <;> simp [eqOf] at h <;> subst h <;> rfl
def nilConst : Operand → Bool
  | .const (.slice none 0 0) => true
  | _ => false
theorem nilConst_ok {x : Operand} (h : nilConst x = true) : x = .const (.slice none 0 0) := by
  unfold nilConst at h
  split at h
  · rfl
  · cases h
def binOf (P : Program) (op : BinOp) (t : TypeId) (x y : Operand) : ROp :=
  match eqOf op, P.underlying t with
  | some neg, some .bool => orBad (opndOk x && opndOk y) (.binb neg x y)
  | some neg, some (.slice _) => orBad (opndOk x && nilConst y) (.isnil neg x)
  | some neg, some (.struct ⟨[f1, f2]⟩) =>
    orBad (f1.name != "_" && f2.name != "_" && f1.offset == 0 && f2.offset == 1 && (match P.underlying f1.type with | some .string => true | _ => false) && (match P.underlying f2.type with | some .string => true | _ => false) &&
      !P.stoodInHeld t && !P.eqGuardType P.depth t && opndOk x && opndOk y) (.eqs neg x y)
  | _, _ => orBad (opndOk x && opndOk y) (match op with
    | .shl | .shr => .sh op x y
    | .and | .or | .xor | .andNot => .bits op x y
    | _ => .bin op x y)
theorem str_ok {d : Option TypeDesc} (h : (match d with | some .string => true | _ => false) = true) : d = some .string := by
  split at h
  · rfl
  · cases h
theorem binOf_ok {P : Program} {o : Oper} {op : BinOp} {t yt : TypeId} {x y : Operand} (ho : o.op = .binOp op t x y yt) : Rs P o (binOf P op t x y) := by
  unfold binOf
  split
  · rename_i neg h1 h2
    refine orBad_ok (fun hc => ?_)
    simp only [Bool.and_eq_true] at hc
    rw [eqOf_ok h1] at ho
    exact ⟨t, yt, ho, h2, hc.1, hc.2⟩
  · rename_i neg e h1 h2
    refine orBad_ok (fun hc => ?_)
    simp only [Bool.and_eq_true] at hc
    rw [eqOf_ok h1, nilConst_ok hc.2] at ho
    exact ⟨t, yt, e, ho, h2, hc.1⟩
  · rename_i neg f1 f2 h1 h2
    refine orBad_ok (fun hc => ?_)
    simp only [Bool.and_eq_true, bne_iff_ne, beq_iff_eq, Bool.not_eq_true'] at hc
    obtain ⟨⟨⟨⟨⟨⟨⟨⟨⟨c1, c2⟩, c3⟩, c4⟩, c5⟩, c6⟩, c7⟩, c8⟩, c9⟩, c10⟩ := hc
    rw [eqOf_ok h1] at ho
    exact ⟨t, yt, f1, f2, ho, h2, c1, c2, c3, c4, str_ok c5, str_ok c6, c7, c8, c9, c10⟩
  · refine orBad_ok (fun hc => ?_)
    simp only [Bool.and_eq_true] at hc
    cases op <;> exact ⟨t, yt, ho, hc.1, hc.2⟩
def convOf (P : Program) (s t : TypeId) (x : Operand) : ROp :=
  match P.underlying s, P.underlying t with
  | some _, some (.int k) => orBad (opndOk x) (.cint k x)
  | some (.slice e), some .string => match P.underlying e with
    | some (.int .u8) => orBad (opndOk x) (.b2s x)
    | _ => .bad
  | _, _ => .bad
theorem convOf_ok {P : Program} {o : Oper} {s t : TypeId} {x : Operand} (ho : o.op = .convert s t x) : Rs P o (convOf P s t x) := by
  unfold convOf
  split
  · rename_i d k h1 h2
    exact orBad_ok (fun hc => ⟨s, t, d, ho, h1, h2, hc⟩)
  · rename_i e h1 h2
    split
    · rename_i h3
      exact orBad_ok (fun hc => ⟨s, t, e, ho, h1, h3, h2, hc⟩)
    · trivial
  · trivial
def callOf (P : Program) (H : Hints) (o : Oper) (c : Call) : ROp :=
  match c with
  | { callee := .value f, args := args, argTypes := _ } => orBad (opndOk f && args.toList.all opndOk) (match f with
    | .func i => (match H.calls.lookup i with | some l => .hcall f args.toList l | none => .call f args.toList)
    | .tmp t => if H.dyns.contains t then .call f args.toList else .hcall f args.toList []
    | _ => .hcall f args.toList [])
  | { callee := .builtin .len, args := ⟨[x]⟩, argTypes := ⟨[t]⟩ } => match P.underlying t with
    | some .string => orBad (opndOk x) (.len true x)
    | some (.slice _) => orBad (opndOk x) (.len false x)
    | _ => .bad
  | { callee := .builtin .append, args := ⟨[s, x]⟩, argTypes := ⟨[t, t']⟩ } => match P.underlying t with
    | some (.slice e) => match P.info? e with
      | some i => match i.zero with
        | some z => if t == t' then orBad (t == t' && o.dst.isSome && z.cells.size == i.size && decide (0 < i.size) && opndOk s && opndOk x) (.append e i.size i.bytes s x (H.raws.contains (o.dst.getD 0)))
          else match zeroOf P e, P.underlying t' with
            | _, some .string => orBad (o.dst.isSome && z.cells.size == 1 && i.size == 1 && opndOk s && opndOk x) (.apps e i.bytes s x (H.raws.contains (o.dst.getD 0)))
            | some (sz, zs), some (.int _) => orBad (o.dst.isSome && decide (0 < sz) && opndOk s && opndOk x) (.appz e sz i.bytes zs s x (H.raws.contains (o.dst.getD 0)))
            | _, _ => .bad
        | none => .bad
      | none => .bad
    | _ => .bad
  | { callee := .builtin .cap, args := ⟨[x]⟩, argTypes := ⟨[t]⟩ } => match P.underlying t with
    | some (.slice _) => orBad (opndOk x) (.cap0 x)
    | _ => .bad
  | { callee := .builtin .clear, args := ⟨[x]⟩, argTypes := ⟨[t]⟩ } => match P.underlying t with
    | some (.slice e) => match zeroOf P e with
      | some (sz, z) => orBad (decide (0 < sz) && opndOk x) (.clr e sz z x)
      | none => .bad
    | _ => .bad
  | { callee := .builtin .max, args := ⟨[x, y]⟩, argTypes := _ } => orBad (opndOk x && opndOk y) (.mx true x y)
  | { callee := .builtin .min, args := ⟨[x, y]⟩, argTypes := _ } => orBad (opndOk x && opndOk y) (.mx false x y)
  | _ => .bad
theorem callOf_ok {P : Program} {H : Hints} {o : Oper} {c : Call} (ho : o.op = .call c) : Rs P o (callOf P H o c) := by
  unfold callOf
  split
  · refine orBad_ok (fun hc => ?_)
    simp only [Bool.and_eq_true] at hc
    split
    · split
      · exact ⟨_, by rw [ho], hc.1, hc.2⟩
      · exact ⟨_, by rw [ho], hc.1, hc.2⟩
    · split
      · exact ⟨_, by rw [ho], hc.1, hc.2⟩
      · exact ⟨_, by rw [ho], hc.1, hc.2⟩
    · exact ⟨_, by rw [ho], hc.1, hc.2⟩
  · rename_i x t
    split
    · rename_i h1; exact orBad_ok (fun hc => ⟨t, ho, by simpa using h1, hc⟩)
    · rename_i e h1; exact orBad_ok (fun hc => ⟨t, ho, by simp; exact ⟨e, h1⟩, hc⟩)
    · trivial
  · rename_i s x t t'
    split
    · rename_i e h1
      split
      · rename_i i hi
        split
        · rename_i z hz
          split
          · refine orBad_ok (fun hc => ?_)
            simp only [Bool.and_eq_true, beq_iff_eq, decide_eq_true_eq] at hc
            obtain ⟨⟨⟨⟨⟨c1, c2⟩, c3⟩, c4⟩, c5⟩, c6⟩ := hc
            subst c1
            exact ⟨t, i, ho, c2, h1, hi, rfl, ⟨z, hz, c3⟩, rfl, c4, c5, c6⟩
          · split
            · rename_i hk
              refine orBad_ok (fun hc => ?_)
              simp only [Bool.and_eq_true, beq_iff_eq] at hc
              exact ⟨t, t', i, z, ho, hc.1.1.1.1, h1, hk, hi, rfl, hz, hc.1.1.1.2, hc.1.1.2, hc.1.2, hc.2⟩
            · rename_i sz zs k hz' hk
              refine orBad_ok (fun hc => ?_)
              simp only [Bool.and_eq_true, decide_eq_true_eq] at hc
              exact ⟨t, t', i, k, ho, hc.1.1.1, h1, hk, hi, rfl, zeroOf_ok hz', hc.1.1.2, hc.1.2, hc.2⟩
            · trivial
        · trivial
      · trivial
    · trivial
  · rename_i x t
    split
    · rename_i e h1; exact orBad_ok (fun hc => ⟨t, e, ho, h1, hc⟩)
    · trivial
  · rename_i x t
    split
    · rename_i e h1
      split
      · rename_i sz z hz
        refine orBad_ok (fun hc => ?_)
        simp only [Bool.and_eq_true, decide_eq_true_eq] at hc
        exact ⟨t, ho, h1, zeroOf_ok hz, hc.1, hc.2⟩
      · trivial
    · trivial
  · refine orBad_ok (fun hc => ?_)
    simp only [Bool.and_eq_true] at hc
    exact ⟨_, ho, hc.1, hc.2⟩
  · refine orBad_ok (fun hc => ?_)
    simp only [Bool.and_eq_true] at hc
    exact ⟨_, ho, hc.1, hc.2⟩
  · trivial
def kindD : TypeDesc → Option Nat
  | .int _ => some 0
  | .string => some 1
  | .bool => some 2
  | _ => none
theorem kindD_ok {d : TypeDesc} {kd : Nat} (h : kindD d = some kd) : keyD kd d = true := by
  cases d <;> simp [kindD] at h <;> subst h <;> rfl
def mapOf (P : Program) (t : TypeId) : Option (Nat × Value) :=
  match P.underlying t with
  | some (.map kt et) => match P.underlying kt, P.info? et with
    | some d, some i => match kindD d, i.zero with
      | some kd, some z => if scalarV z then some (kd, z) else none
      | _, _ => none
    | _, _ => none
  | _ => none
theorem mapOf_ok {P : Program} {t : TypeId} {kd : Nat} {z : Value} (h : mapOf P t = some (kd, z)) :
    ∃ kt et d i, P.underlying t = some (.map kt et) ∧ P.underlying kt = some d ∧ keyD kd d = true ∧ P.info? et = some i ∧ i.zero = some z ∧ scalarV z = true := by
  unfold mapOf at h
  split at h
  · rename_i kt et h1
    split at h
    · rename_i d i h2 h3
      split at h
      · rename_i kd' z' h4 h5
        split at h
        · rename_i h6; cases h; exact ⟨kt, et, d, i, h1, h2, kindD_ok h4, h3, h5, h6⟩
        · cases h
      · cases h
    · cases h
  · cases h
def rsOf (P : Program) (H : Hints) (o : Oper) : ROp :=
  match o.op with
  | .move x => orBad (opndOk x) (.mv x)
  | .assign x => orBad (opndOk x) (.mv x)
  | .pick c a b => orBad (opndOk c && opndOk a && opndOk b) (.pick c a b)
  | .alloc t => match zeroOf P t with
    | some (_, z) => orBad (decide (t < 65536) && o.dst.isSome) (.alloc t z)
    | none => .bad
  | .box t x => orBad (decide (t < 65536) && o.dst.isSome && opndOk x) (.box t x)
  | .build t parts => match zeroOf P t, buildOf P t parts.toList with
    | some (_, z), some ps => .build z ps
    | _, _ => .bad
  | .buildSlice t len parts => match P.underlying t with
    | some (.slice e) => match zeroOf P e with
      | some (sz, z) => orBad (o.dst.isSome && decide (0 < sz) && decide (len * sz ≤ 16777216) && parts.toList.all (fun p => opndOk p.2)) (.bslice e sz z len parts.toList (H.raws.contains (o.dst.getD 0)))
      | none => .bad
    | _ => .bad
  | .load t x => match tyOf P t with
    | some (agg, n) => orBad (opndOk x) (.load agg n x)
    | none => .bad
  | .store t x v => match tyOf P t with
    | some (_, n) => orBad (opndOk x && opndOk v) (.store n x v)
    | none => .bad
  | .nilCheck x => orBad (opndOk x) (.nilchk x)
  | .binOp op t x y _ => binOf P op t x y
  | .unOp op _ x => orBad (opndOk x) (.un op x)
  | .convert s t x => convOf P s t x
  | .makeSlice t l c => match P.underlying t with
    | some (.slice e) => match zeroOf P e, P.info? e with
      | some (sz, z), some i => orBad (o.dst.isSome && decide (0 < sz) && opndOk l && opndOk c) (.mkslice e sz i.bytes z l c)
      | _, _ => .bad
    | _ => .bad
  | .slice t x lo hi none => match P.underlying t with
    | some .string => orBad (opndOk x && (optL lo ++ optL hi).all opndOk) (.sslice x lo hi)
    | some (.slice e) => match P.info? e with
      | some i => orBad (opndOk x && (optL lo ++ optL hi).all opndOk) (.slc i.size x lo hi)
      | none => .bad
    | some (.array n e) => match P.info? e with
      | some i => orBad (lo.isNone && hi.isNone && i.size == 1 && opndOk x) (.aslc n x)
      | none => .bad
    | _ => .bad
  | .fieldAddr t x k => match P.underlying t with
    | some (.struct fs) => match fs[k]? with
      | some f => match P.info? f.type with
        | some i => orBad (i.size != 0 && opndOk x) (.faddr f.offset x)
        | none => .bad
      | none => .bad
    | _ => .bad
  | .field t x k => match P.underlying t with
    | some (.struct fs) => match fs[k]? with
      | some f => match tyOf P f.type with
        | some (agg, n) => orBad (opndOk x) (.fld agg f.offset n x)
        | none => .bad
      | none => .bad
    | _ => .bad
  | .indexAddr t x i => match P.underlying t with
    | some (.slice e) => match P.info? e with
      | some inf => orBad (opndOk x && opndOk i) (.iaddr inf.size x i)
      | none => .bad
    | some (.array n e) => match P.info? e with
      | some inf => orBad (opndOk x && opndOk i) (.aaddr n inf.size x i)
      | none => .bad
    | _ => .bad
  | .index t x i => match P.underlying t with
    | some .string => orBad (opndOk x && opndOk i) (.sidx x i)
    | _ => .bad
  | .extract x i => orBad (opndOk x) (.ext x i)
  | .call c => callOf P H o c
  | .makeFunc (.func f) ⟨[]⟩ caps => orBad (caps.toList.all opndOk) (.mkfun f caps.toList)
  | .makeMap _ none => orBad o.dst.isSome .mkmap
  | .mapUpdate t m k v => match mapOf P t with
    | some (kd, _) => orBad (opndOk m && opndOk k && opndOk v) (.mput kd m k v)
    | none => .bad
  | .insert t m k v => match mapOf P t with
    | some (kd, _) => orBad (opndOk m && opndOk k && opndOk v) (.mput kd m k v)
    | none => .bad
  | .lookup t m k ok => match mapOf P t with
    | some (kd, z) => orBad (opndOk m && opndOk k) (.mget kd ok z m k)
    | none => .bad
  | _ => .bad
theorem rsOf_ok {P : Program} {H : Hints} {o : Oper} : Rs P o (rsOf P H o) := by
  unfold rsOf
  split
  · rename_i x ho; exact orBad_ok (fun hc => ⟨.inl ho, hc⟩)
  · rename_i x ho; exact orBad_ok (fun hc => ⟨.inr ho, hc⟩)
  · rename_i c a b ho
    refine orBad_ok (fun hc => ?_)
    simp only [Bool.and_eq_true] at hc
    exact ⟨ho, hc.1.1, hc.1.2, hc.2⟩
  · rename_i t ho
    split
    · rename_i sz z hz
      refine orBad_ok (fun hc => ?_)
      simp only [Bool.and_eq_true, decide_eq_true_eq] at hc
      exact ⟨ho, hc.1, hc.2, sz, zeroOf_ok hz⟩
    · trivial
  · rename_i t x ho
    refine orBad_ok (fun hc => ?_)
    simp only [Bool.and_eq_true, decide_eq_true_eq] at hc
    exact ⟨ho, hc.1.1, hc.1.2, hc.2⟩
  · rename_i t parts ho
    split
    · rename_i sz z ps hz hb; exact ⟨t, parts, sz, ho, zeroOf_ok hz, buildOf_ok hb⟩
    · trivial
  · rename_i t len parts ho
    split
    · rename_i e hu
      split
      · rename_i sz z hz
        refine orBad_ok (fun hc => ?_)
        simp only [Bool.and_eq_true, decide_eq_true_eq] at hc
        exact ⟨t, parts, ho, hc.1.1.1, hu, zeroOf_ok hz, rfl, hc.1.1.2, hc.1.2, hc.2⟩
      · trivial
    · trivial
  · rename_i t x ho
    split
    · rename_i agg n ht; exact orBad_ok (fun hc => ⟨t, ho, tyOf_ok ht, hc⟩)
    · trivial
  · rename_i t x v ho
    split
    · rename_i agg n ht
      refine orBad_ok (fun hc => ?_)
      simp only [Bool.and_eq_true] at hc
      exact ⟨t, agg, ho, tyOf_ok ht, hc.1, hc.2⟩
    · trivial
  · rename_i x ho; exact orBad_ok (fun hc => ⟨ho, hc⟩)
  · rename_i op t x y yt ho; exact binOf_ok ho
  · rename_i op t x ho; exact orBad_ok (fun hc => ⟨t, ho, hc⟩)
  · rename_i s t x ho; exact convOf_ok ho
  · rename_i t l c ho
    split
    · rename_i e hu
      split
      · rename_i sz z i hz hi
        refine orBad_ok (fun hc => ?_)
        simp only [Bool.and_eq_true, decide_eq_true_eq] at hc
        exact ⟨t, i, ho, hc.1.1.1, hu, zeroOf_ok hz, hi, rfl, hc.1.1.2, hc.1.2, hc.2⟩
      · trivial
    · trivial
  · rename_i t x lo hi ho
    split
    · rename_i hu
      refine orBad_ok (fun hc => ?_)
      simp only [Bool.and_eq_true] at hc
      exact ⟨t, ho, hu, hc.1, hc.2⟩
    · rename_i e hu
      split
      · rename_i i hi
        refine orBad_ok (fun hc => ?_)
        simp only [Bool.and_eq_true] at hc
        exact ⟨t, e, i, ho, hu, hi, rfl, hc.1, hc.2⟩
      · trivial
    · rename_i m e hu
      split
      · rename_i i hi
        refine orBad_ok (fun hc => ?_)
        simp only [Bool.and_eq_true, Option.isNone_iff_eq_none, beq_iff_eq] at hc
        obtain ⟨⟨⟨h1, h2⟩, h3⟩, h4⟩ := hc
        subst h1; subst h2
        exact ⟨t, e, i, ho, hu, hi, h3, h4⟩
      · trivial
    · trivial
  · rename_i t x k ho
    split
    · rename_i fs hu
      split
      · rename_i f hf
        split
        · rename_i i hi
          refine orBad_ok (fun hc => ?_)
          simp only [Bool.and_eq_true, bne_iff_ne] at hc
          exact ⟨t, fs, k, f, i, ho, hu, hf, rfl, hi, hc.1, hc.2⟩
        · trivial
      · trivial
    · trivial
  · rename_i t x k ho
    split
    · rename_i fs hu
      split
      · rename_i f hf
        split
        · rename_i agg n ht; exact orBad_ok (fun hc => ⟨t, fs, k, f, ho, hu, hf, rfl, tyOf_ok ht, hc⟩)
        · trivial
      · trivial
    · trivial
  · rename_i t x i ho
    split
    · rename_i e hu
      split
      · rename_i inf hi
        refine orBad_ok (fun hc => ?_)
        simp only [Bool.and_eq_true] at hc
        exact ⟨t, e, inf, ho, hu, hi, rfl, hc.1, hc.2⟩
      · trivial
    · rename_i m e hu
      split
      · rename_i inf hi
        refine orBad_ok (fun hc => ?_)
        simp only [Bool.and_eq_true] at hc
        exact ⟨t, e, inf, ho, hu, hi, rfl, hc.1, hc.2⟩
      · trivial
    · trivial
  · rename_i t x i ho
    split
    · rename_i hu
      refine orBad_ok (fun hc => ?_)
      simp only [Bool.and_eq_true] at hc
      exact ⟨t, ho, hu, hc.1, hc.2⟩
    · trivial
  · rename_i x i ho; exact orBad_ok (fun hc => ⟨ho, hc⟩)
  · rename_i c ho; exact callOf_ok ho
  · rename_i f caps ho; exact orBad_ok (fun hc => ⟨ho, hc⟩)
  · rename_i t ho; exact orBad_ok (fun hc => ⟨t, ho, hc⟩)
  · rename_i t m k v ho
    split
    · rename_i kd z hm
      obtain ⟨kt, et, d, i, h1, h2, h3, h4, h5, h6⟩ := mapOf_ok hm
      refine orBad_ok (fun hc => ?_)
      simp only [Bool.and_eq_true] at hc
      exact ⟨t, kt, et, d, .inl ho, h1, h2, h3, hc.1.1, hc.1.2, hc.2⟩
    · trivial
  · rename_i t m k v ho
    split
    · rename_i kd z hm
      obtain ⟨kt, et, d, i, h1, h2, h3, h4, h5, h6⟩ := mapOf_ok hm
      refine orBad_ok (fun hc => ?_)
      simp only [Bool.and_eq_true] at hc
      exact ⟨t, kt, et, d, .inr ho, h1, h2, h3, hc.1.1, hc.1.2, hc.2⟩
    · trivial
  · rename_i t m k ok ho
    split
    · rename_i kd z hm
      obtain ⟨kt, et, d, i, h1, h2, h3, h4, h5, h6⟩ := mapOf_ok hm
      refine orBad_ok (fun hc => ?_)
      simp only [Bool.and_eq_true] at hc
      exact ⟨t, kt, et, d, i, ho, h1, h2, h3, h4, h5, h6, hc.1, hc.2⟩
    · trivial
  · trivial
end Go.Hf
end
section
namespace Go.Hf
open Go.RowKit
def locBit : Loc → Nat
  | .inl t => 2 * t
  | .inr k => 2 * k + 1
theorem locBit_inj {a b : Loc} (h : locBit a = locBit b) : a = b := by
  cases a <;> cases b <;> simp only [locBit] at h
  · congr 1; omega
  · omega
  · omega
  · congr 1; omega
def maskOf : List Loc → Nat
  | [] => 0
  | l :: r => (1 <<< locBit l) ||| maskOf r
theorem maskOf_mem : ∀ {l : Loc} {ls : List Loc}, l ∈ ls → (maskOf ls).testBit (locBit l) = true
  | l, [], h => by cases h
  | l, x :: r, h => by
    simp only [maskOf, Nat.testBit_or, Bool.or_eq_true]
    rcases List.mem_cons.1 h with rfl | h
    · left; simp [Nat.testBit_shiftLeft]
    · right; exact maskOf_mem h
theorem mask_meet {l : Loc} {a b : List Loc} (ha : l ∈ a) (hb : l ∈ b) : (maskOf a &&& maskOf b) ≠ 0 := by
  intro h
  have : (maskOf a &&& maskOf b).testBit (locBit l) = true := by rw [Nat.testBit_and, maskOf_mem ha, maskOf_mem hb]; rfl
  rw [h] at this
  simp at this
def edgesAnc (done : Nat → Nat) : List Edge → Nat
  | [] => 0
  | e :: r => (if Region.binds .any e then (1 <<< e.on) ||| done e.on else 0) ||| edgesAnc done r
theorem edgesAnc_ok {ops : Array Oper} {j : Nat} {o : Oper} (ho : ops[j]? = some o) {done : Nat → Nat} : ∀ (l : List Edge), (∀ e ∈ l, e ∈ o.after ∧ (Region.binds .any e = true → ∀ i, (done e.on).testBit i = true → Anc ops i e.on)) →
    ∀ i, (edgesAnc done l).testBit i = true → Anc ops i j
  | [], _, i, h => by simp [edgesAnc] at h
  | e :: r, hl, i, h => by
    simp only [edgesAnc, Nat.testBit_or, Bool.or_eq_true] at h
    rcases h with h | h
    · split at h
      · rename_i hb
        obtain ⟨he, hd⟩ := hl e (by simp)
        rw [Nat.testBit_or, Bool.or_eq_true] at h
        rcases h with h | h
        · have : i = e.on := by
            rw [Nat.testBit_shiftLeft] at h
            simp only [Bool.and_eq_true, decide_eq_true_eq] at h
            obtain ⟨h1, h2⟩ := h
            rcases Nat.eq_zero_or_pos (i - e.on) with h4 | h4
            · omega
            · have : (1 : Nat).testBit (i - e.on) = false := Nat.testBit_lt_two_pow (Nat.one_lt_two_pow (by omega))
              rw [this] at h2; cases h2
          subst this
          exact .edge ho (by simpa using he) hb rfl
        · exact .trans (hd hb i h) (.edge ho (by simpa using he) hb rfl)
      · simp at h
    · exact edgesAnc_ok ho r (fun e he => hl e (by simp [he])) i h
def okBefore (rd wr anc : Nat) : List (Nat × Nat × Nat) → Bool
  | [] => true
  | (r', w', _) :: rest => ((w' &&& (rd ||| wr)) == 0 && (r' &&& wr) == 0 || anc.testBit rest.length) && okBefore rd wr anc rest
def ancOf : List (Nat × Nat × Nat) → Nat → Nat
  | [], _ => 0
  | (_, _, a) :: rest, i => if i = rest.length then a else ancOf rest i
def backOk (j : Nat) (l : List Edge) : Bool := l.all fun e => !Region.binds .any e || decide (e.on < j)
def drawFrom : List Oper → List POper → List (Nat × Nat × Nat) → Bool
  | [], [], _ => true
  | o :: os, p :: ps, acc =>
    let rd := maskOf (readsOf p)
    let wr := maskOf (writesOf p)
    let anc := edgesAnc (ancOf acc) o.after.toList
    backOk acc.length o.after.toList && (!p.r.makes || p.wk.contains (p.r.off + p.dst.getD 0) && decide (p.r.off + p.dst.getD 0 < 4096)) && okBefore rd wr anc acc && drawFrom os ps ((rd, wr, anc) :: acc)
  | _, _, _ => false
structure AccOk (ops : Array Oper) (pos : List POper) (acc : List (Nat × Nat × Nat)) : Prop where
  get : ∀ i, i < acc.length → ∃ p, pos[i]? = some p ∧ acc.reverse[i]? = some (maskOf (readsOf p), maskOf (writesOf p), ancOf acc i)
  anc : ∀ i j, j < acc.length → (ancOf acc j).testBit i = true → Anc ops i j
theorem okBefore_ok {rd wr anc : Nat} : ∀ (acc : List (Nat × Nat × Nat)), okBefore rd wr anc acc = true → ∀ i r' w' a', acc.reverse[i]? = some (r', w', a') → ((w' &&& (rd ||| wr)) = 0 ∧ (r' &&& wr) = 0) ∨ anc.testBit i = true
  | [], _, i, r', w', a', h => by simp at h
  | (r, w, a) :: rest, hk, i, r', w', a', h => by
    simp only [okBefore, Bool.and_eq_true, Bool.or_eq_true, beq_iff_eq] at hk
    rw [List.reverse_cons] at h
    rcases Nat.lt_or_ge i rest.length with hi | hi
    · rw [List.getElem?_append_left (by simpa using hi)] at h
      exact okBefore_ok rest hk.2 i r' w' a' h
    · rw [List.getElem?_append_right (by simpa using hi)] at h
      have : i = rest.length := by
        rcases Nat.eq_or_lt_of_le hi with e | e
        · exact e.symm
        · rw [List.getElem?_eq_none (by simp; omega)] at h; cases h
      subst this
      simp at h
      obtain ⟨rfl, rfl, rfl⟩ := h
      exact hk.1
theorem cls_own {bs d : Nat} (h : d < 4096) : cls bs (bs + d) = d := by
  unfold cls
  rw [if_pos (by omega)]
  omega
theorem drawFrom_ok {bs : Nat} {ops : Array Oper} {pos : List POper} : ∀ (os : List Oper) (ps : List POper) (acc : List (Nat × Nat × Nat)), drawFrom os ps acc = true → (∀ j, os[j]? = ops[acc.length + j]?) → (∀ j, ps[j]? = pos[acc.length + j]?) → AccOk ops pos acc →
    (∀ (j : Nat) (o : Oper), acc.length ≤ j → ops[j]? = some o → ∀ e ∈ o.after, Region.binds .any e = true → e.on < j) ∧
    (∀ (i j : Nat) (p q : POper), i < j → acc.length ≤ j → pos[i]? = some p → pos[j]? = some q → Conf p q → Anc ops i j) ∧
    (∀ (j : Nat) (p : POper), acc.length ≤ j → pos[j]? = some p → p.r.makes = true → cls bs (bs + p.r.off + p.dst.getD 0) ∈ p.wk)
  | [], [], acc, _, ho, hp, _ => by
    have e1 : ∀ j, acc.length ≤ j → ops[j]? = none := fun j hj => by have := ho (j - acc.length); rw [show acc.length + (j - acc.length) = j by omega] at this; simpa using this.symm
    have e2 : ∀ j, acc.length ≤ j → pos[j]? = none := fun j hj => by have := hp (j - acc.length); rw [show acc.length + (j - acc.length) = j by omega] at this; simpa using this.symm
    exact ⟨fun j o hj h => absurd h (by simp [e1 j hj]), fun i j p q _ hj _ h => absurd h (by simp [e2 j hj]), fun j p hj h => absurd h (by simp [e2 j hj])⟩
  | [], p :: ps, acc, h, _, _, _ => by simp [drawFrom] at h
  | o :: os, [], acc, h, _, _, _ => by simp [drawFrom] at h
  | o :: os, p :: ps, acc, h, ho, hp, hA => by
    simp only [drawFrom, Bool.and_eq_true] at h
    obtain ⟨⟨⟨h1, h2⟩, h3⟩, h4⟩ := h
    have ho0 : ops[acc.length]? = some o := by have := ho 0; simpa using this.symm
    have hp0 : pos[acc.length]? = some p := by have := hp 0; simpa using this.symm
    have hback : ∀ e ∈ o.after, Region.binds .any e = true → e.on < acc.length := by
      intro e he hb
      rw [backOk, List.all_eq_true] at h1
      have := h1 e (by simpa using he)
      simpa [hb] using this
    have hanc : ∀ i, (edgesAnc (ancOf acc) o.after.toList).testBit i = true → Anc ops i acc.length :=
      edgesAnc_ok ho0 _ (fun e he => ⟨by simpa using he, fun hb i hi => hA.anc i e.on (hback e (by simpa using he) hb) hi⟩)
    have hA' : AccOk ops pos ((maskOf (readsOf p), maskOf (writesOf p), edgesAnc (ancOf acc) o.after.toList) :: acc) := by
      refine ⟨fun i hi => ?_, fun i j hj hb => ?_⟩
      · simp only [List.length_cons] at hi
        rw [List.reverse_cons]
        simp only [ancOf]
        by_cases e : i = acc.length
        · subst e
          refine ⟨p, hp0, ?_⟩
          rw [List.getElem?_append_right (by simp)]
          simp
        · obtain ⟨q, hq1, hq2⟩ := hA.get i (by omega)
          refine ⟨q, hq1, ?_⟩
          rw [List.getElem?_append_left (by simp; omega), if_neg e]
          exact hq2
      · simp only [List.length_cons] at hj
        simp only [ancOf] at hb
        split at hb
        · rename_i e; subst e; exact hanc i hb
        · exact hA.anc i j (by omega) hb
    obtain ⟨r1, r2, r3⟩ := drawFrom_ok (bs := bs) (ops := ops) (pos := pos) os ps _ h4 (fun j => by have := ho (j + 1); simp only [List.getElem?_cons_succ] at this; rw [this]; congr 1; simp only [List.length_cons]; omega)
      (fun j => by have := hp (j + 1); simp only [List.getElem?_cons_succ] at this; rw [this]; congr 1; simp only [List.length_cons]; omega) hA'
    simp only [List.length_cons] at r1 r2 r3
    refine ⟨fun j o' hj ho' => ?_, fun i j q r hij hj hq hr hc => ?_, fun j q hj hq hm => ?_⟩
    · by_cases e : j = acc.length
      · subst e; rw [ho0] at ho'; cases ho'; exact hback
      · exact r1 j o' (by omega) ho'
    · by_cases e : j = acc.length
      · subst e
        rw [hp0] at hr; cases hr
        obtain ⟨q', hq1, hq2⟩ := hA.get i hij
        rw [hq] at hq1; cases hq1
        rcases okBefore_ok acc h3 i _ _ _ hq2 with ⟨k1, k2⟩ | k
        · exfalso
          rcases hc with ⟨l, hl1, hl2⟩ | ⟨l, hl1, hl2⟩
          · have : (maskOf (writesOf q) &&& (maskOf (readsOf p) ||| maskOf (writesOf p))).testBit (locBit l) = true := by
              rw [Nat.testBit_and, Nat.testBit_or, maskOf_mem hl1]
              rcases List.mem_append.1 hl2 with h | h
              · rw [maskOf_mem h]; rfl
              · rw [maskOf_mem h]; simp
            rw [k1] at this; simp at this
          · exact mask_meet hl1 hl2 k2
        · exact hanc i k
      · exact r2 i j q r hij (by omega) hq hr hc
    · by_cases e : j = acc.length
      · subst e
        rw [hp0] at hq; cases hq
        simp only [hm, Bool.not_true, Bool.false_or, List.contains_eq_mem, decide_eq_true_eq, Bool.and_eq_true] at h2
        rw [Nat.add_assoc, cls_own h2.2]
        exact h2.1
      · exact r3 j q (by omega) hq hm
def drawOk (ops : Array Oper) (pos : List POper) : Bool := drawFrom ops.toList pos []
theorem drawOk_ok {bs : Nat} {ops : Array Oper} {pos : List POper} (hl : ops.size = pos.length) (h : drawOk ops pos = true) : DrawOk bs ops pos := by
  obtain ⟨h1, h2, h3⟩ := drawFrom_ok (bs := bs) (ops := ops) (pos := pos) ops.toList pos [] h (by simp) (by simp) ⟨fun i hi => by simp at hi, fun i j hj => by simp at hj⟩
  refine ⟨hl, fun j o ho => h1 j o (by simp) ho, fun i j p q hij hp hq hc => h2 i j p q hij (by simp) hp hq hc, fun po hpo hm => ?_⟩
  obtain ⟨j, hj⟩ := List.mem_iff_getElem?.1 hpo
  exact h3 j po (by simp) hj hm
end Go.Hf
end

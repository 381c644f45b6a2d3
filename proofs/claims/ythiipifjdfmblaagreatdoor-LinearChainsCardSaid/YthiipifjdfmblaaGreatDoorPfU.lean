/- Pure frames, part U: the code of a function, resolved ('comp'), by a program; what it turns out is what the code says. -/
import Derived.Test.YthiipifjdfmblaaGreatDoorPfT
set_option linter.unusedVariables false
set_option linter.unusedSimpArgs false
namespace Go.Pf
open Go.RowKit

/-- What is to be known beside the code: the slots whose slices may be written in place; how a function takes its first argument; the objects whose names a slot may hold (for drawn regions). -/
structure Hints where
  raws : List Nat
  modes : List (Nat × Mode)
  pts : List (Nat × List Nat)
  deriving Inhabited

def zeroOf (P : Program) (t : TypeId) : Option (Nat × List Value) :=
  match P.info? t with
  | some i => match i.zero with
    | some z => if z.cells.toList.length = i.size ∧ z.cells.toList.all scalarV = true then some (i.size, z.cells.toList) else none
    | none => none
  | none => none

theorem zeroOf_ok {P : Program} {t : TypeId} {sz : Nat} {zero : List Value} (h : zeroOf P t = some (sz, zero)) : ZeroOk P t sz zero := by
  unfold zeroOf at h
  split at h
  · rename_i i hi
    split at h
    · rename_i z hz
      split at h
      · rename_i hc
        cases h
        exact ⟨i, z, hi, hz, rfl, rfl, hc.1, hc.2⟩
      · cases h
    · cases h
  · cases h

def tyOf (P : Program) (t : TypeId) : Option (Bool × Nat) :=
  match P.info? t, P.underlying t with
  | some i, some d => if aggD d = true ∨ i.size = 1 then some (aggD d, i.size) else none
  | _, _ => none

theorem tyOf_ok {P : Program} {t : TypeId} {agg : Bool} {n : Nat} (h : tyOf P t = some (agg, n)) : TyOk P t agg n := by
  unfold tyOf at h
  split at h
  · rename_i i d hi hd
    split at h
    · rename_i hc
      cases h
      exact ⟨i, d, hi, rfl, hd, rfl, fun e => hc.resolve_left (by simp [e])⟩
    · cases h
  · cases h

def partsOf (place : Nat → Option (Nat × Nat)) : List (Nat × Operand) → Option (List (Nat × Nat × Operand))
  | [] => some []
  | (i, x) :: r =>
    match place i, partsOf place r with
    | some (off, n), some q => if opndOk x = true then some ((off, n, x) :: q) else none
    | _, _ => none

theorem partsOf_ok {place : Nat → Option (Nat × Nat)} : ∀ {l : List (Nat × Operand)} {q : List (Nat × Nat × Operand)}, partsOf place l = some q → PartsOk place l q
  | [], q, h => by cases h; trivial
  | (i, x) :: r, q, h => by
    unfold partsOf at h
    split at h
    · rename_i off n q' h1 h2
      split at h
      · rename_i hx
        cases h
        exact ⟨h1, rfl, hx, partsOf_ok h2⟩
      · cases h
    · cases h

def buildOf (P : Program) (t : TypeId) (parts : List (Nat × Operand)) : Option (List (Nat × Nat × Operand)) :=
  match P.underlying t with
  | some (.struct fs) => if fs.toList.all (fun f => (P.info? f.type).isSome) = true then partsOf (fun k => (fs[k]?).bind fun f => (P.info? f.type).map fun i => (f.offset, i.size)) parts else none
  | some (.array _ e) => match P.info? e with
    | some i => partsOf (fun k => some (k * i.size, i.size)) parts
    | none => none
  | _ => none

theorem buildOf_ok {P : Program} {t : TypeId} {parts : List (Nat × Operand)} {ps : List (Nat × Nat × Operand)} (h : buildOf P t parts = some ps) : BuildOk P t parts ps := by
  unfold buildOf at h
  split at h
  · rename_i fs hu
    split at h
    · rename_i hc
      refine .inl ⟨fs, hu, fun k f hf => ?_, partsOf_ok h⟩
      rw [List.all_eq_true] at hc
      exact hc f (by rw [← Array.getElem?_toList] at hf; exact List.mem_of_getElem? hf)
    · cases h
  · rename_i m e hu
    split at h
    · rename_i i hi
      exact .inr ⟨m, e, i, hu, hi, partsOf_ok h⟩
    · cases h
  · cases h

/-- 'r' if the condition holds, else nothing is said. -/
def orBad (c : Bool) (r : ROp) : ROp := if c then r else .bad

theorem orBad_ok {P : Program} {o : Oper} {c : Bool} {r : ROp} (h : c = true → Rs P o r) : Rs P o (orBad c r) := by
  cases c
  · trivial
  · exact h rfl

def eqOf : BinOp → Option Bool
  | .eql => some false
  | .neq => some true
  | _ => none
theorem eqOf_ok {op : BinOp} {b : Bool} (h : eqOf op = some b) : op = eqOp b := by
  cases op <;> simp [eqOf] at h <;> subst h <;> rfl

def nilConst : Operand → Bool
  | .const (.slice none 0 0) => true
  | _ => false
theorem nilConst_ok {x : Operand} (h : nilConst x = true) : x = .const (.slice none 0 0) := by
  unfold nilConst at h
  split at h
  · rfl
  · cases h

def binOf (P : Program) (op : BinOp) (t : TypeId) (x y : Operand) : ROp :=
  match eqOf op, P.underlying t with
  | some neg, some .bool => orBad (opndOk x && opndOk y) (.binb neg x y)
  | some neg, some (.slice _) => orBad (opndOk x && nilConst y) (.isnil neg x)
  | some neg, some (.struct ⟨[f1, f2]⟩) =>
    orBad (f1.name != "_" && f2.name != "_" && f1.offset == 0 && f2.offset == 1 && (match P.underlying f1.type with | some .string => true | _ => false) && (match P.underlying f2.type with | some .string => true | _ => false) &&
      !P.stoodInHeld t && !P.eqGuardType P.depth t && opndOk x && opndOk y) (.eqs neg x y)
  | _, _ => orBad (opndOk x && opndOk y) (.bin op x y)

theorem str_ok {d : Option TypeDesc} (h : (match d with | some .string => true | _ => false) = true) : d = some .string := by
  split at h
  · rfl
  · cases h

theorem binOf_ok {P : Program} {o : Oper} {op : BinOp} {t yt : TypeId} {x y : Operand} (ho : o.op = .binOp op t x y yt) : Rs P o (binOf P op t x y) := by
  unfold binOf
  split
  · rename_i neg h1 h2
    refine orBad_ok (fun hc => ?_)
    simp only [Bool.and_eq_true] at hc
    rw [eqOf_ok h1] at ho
    exact ⟨t, yt, ho, h2, hc.1, hc.2⟩
  · rename_i neg e h1 h2
    refine orBad_ok (fun hc => ?_)
    simp only [Bool.and_eq_true] at hc
    rw [eqOf_ok h1, nilConst_ok hc.2] at ho
    exact ⟨t, yt, e, ho, h2, hc.1⟩
  · rename_i neg f1 f2 h1 h2
    refine orBad_ok (fun hc => ?_)
    simp only [Bool.and_eq_true, bne_iff_ne, beq_iff_eq, Bool.not_eq_true'] at hc
    obtain ⟨⟨⟨⟨⟨⟨⟨⟨⟨c1, c2⟩, c3⟩, c4⟩, c5⟩, c6⟩, c7⟩, c8⟩, c9⟩, c10⟩ := hc
    rw [eqOf_ok h1] at ho
    exact ⟨t, yt, f1, f2, ho, h2, c1, c2, c3, c4, str_ok c5, str_ok c6, c7, c8, c9, c10⟩
  · refine orBad_ok (fun hc => ?_)
    simp only [Bool.and_eq_true] at hc
    exact ⟨t, yt, ho, hc.1, hc.2⟩

def convOf (P : Program) (s t : TypeId) (x : Operand) : ROp :=
  match P.underlying s, P.underlying t with
  | some _, some (.int k) => orBad (opndOk x) (.cint k x)
  | some (.slice e), some .string => match P.underlying e with
    | some (.int .u8) => orBad (opndOk x) (.b2s x)
    | _ => .bad
  | _, _ => .bad

theorem convOf_ok {P : Program} {o : Oper} {s t : TypeId} {x : Operand} (ho : o.op = .convert s t x) : Rs P o (convOf P s t x) := by
  unfold convOf
  split
  · rename_i d k h1 h2
    exact orBad_ok (fun hc => ⟨s, t, d, ho, h1, h2, hc⟩)
  · rename_i e h1 h2
    split
    · rename_i h3
      exact orBad_ok (fun hc => ⟨s, t, e, ho, h1, h3, h2, hc⟩)
    · trivial
  · trivial

def callOf (P : Program) (H : Hints) (o : Oper) (c : Call) : ROp :=
  match c with
  | { callee := .value f, args := args, argTypes := _ } => orBad (opndOk f && args.toList.all opndOk) (.call f args.toList (match f with | .func i => [(H.modes.lookup i).getD .imm] | _ => [.imm]))
  | { callee := .builtin .len, args := ⟨[x]⟩, argTypes := ⟨[t]⟩ } => match P.underlying t with
    | some .string => orBad (opndOk x) (.len true x)
    | some (.slice _) => orBad (opndOk x) (.len false x)
    | _ => .bad
  | { callee := .builtin .append, args := ⟨[s, x]⟩, argTypes := ⟨[t, t']⟩ } => match P.underlying t with
    | some (.slice e) => match P.info? e with
      | some i => match i.zero with
        | some z => if t == t' then orBad (t == t' && o.dst.isSome && z.cells.size == i.size && decide (0 < i.size) && opndOk s && opndOk x) (.append e i.size i.bytes s x (H.raws.contains (o.dst.getD 0)))
          else match zeroOf P e, P.underlying t' with
            | some (sz, zs), some (.int _) => orBad (o.dst.isSome && decide (0 < sz) && opndOk s && opndOk x) (.appz e sz i.bytes zs s x (H.raws.contains (o.dst.getD 0)))
            | _, _ => .bad
        | none => .bad
      | none => .bad
    | _ => .bad
  | { callee := .builtin .cap, args := ⟨[x]⟩, argTypes := ⟨[t]⟩ } => match P.underlying t with
    | some (.slice _) => orBad (opndOk x) (.cap0 x)
    | _ => .bad
  | { callee := .builtin .clear, args := ⟨[x]⟩, argTypes := ⟨[t]⟩ } => match P.underlying t with
    | some (.slice e) => match zeroOf P e with
      | some (sz, z) => orBad (decide (0 < sz) && opndOk x) (.clr e sz z x)
      | none => .bad
    | _ => .bad
  | { callee := .builtin .max, args := ⟨[x, y]⟩, argTypes := _ } => orBad (opndOk x && opndOk y) (.mx true x y)
  | { callee := .builtin .min, args := ⟨[x, y]⟩, argTypes := _ } => orBad (opndOk x && opndOk y) (.mx false x y)
  | _ => .bad

theorem callOf_ok {P : Program} {H : Hints} {o : Oper} {c : Call} (ho : o.op = .call c) : Rs P o (callOf P H o c) := by
  unfold callOf
  split
  · refine orBad_ok (fun hc => ?_)
    simp only [Bool.and_eq_true] at hc
    exact ⟨_, by rw [ho], hc.1, hc.2⟩
  · rename_i x t
    split
    · rename_i h1; exact orBad_ok (fun hc => ⟨t, ho, by simpa using h1, hc⟩)
    · rename_i e h1; exact orBad_ok (fun hc => ⟨t, ho, by simp; exact ⟨e, h1⟩, hc⟩)
    · trivial
  · rename_i s x t t'
    split
    · rename_i e h1
      split
      · rename_i i hi
        split
        · rename_i z hz
          split
          · refine orBad_ok (fun hc => ?_)
            simp only [Bool.and_eq_true, beq_iff_eq, decide_eq_true_eq] at hc
            obtain ⟨⟨⟨⟨⟨c1, c2⟩, c3⟩, c4⟩, c5⟩, c6⟩ := hc
            subst c1
            exact ⟨t, i, ho, c2, h1, hi, rfl, ⟨z, hz, c3⟩, rfl, c4, c5, c6⟩
          · split
            · rename_i sz zs k hz' hk
              refine orBad_ok (fun hc => ?_)
              simp only [Bool.and_eq_true, decide_eq_true_eq] at hc
              exact ⟨t, t', i, k, ho, hc.1.1.1, h1, hk, hi, rfl, zeroOf_ok hz', hc.1.1.2, hc.1.2, hc.2⟩
            · trivial
        · trivial
      · trivial
    · trivial
  · rename_i x t
    split
    · rename_i e h1; exact orBad_ok (fun hc => ⟨t, e, ho, h1, hc⟩)
    · trivial
  · rename_i x t
    split
    · rename_i e h1
      split
      · rename_i sz z hz
        refine orBad_ok (fun hc => ?_)
        simp only [Bool.and_eq_true, decide_eq_true_eq] at hc
        exact ⟨t, ho, h1, zeroOf_ok hz, hc.1, hc.2⟩
      · trivial
    · trivial
  · refine orBad_ok (fun hc => ?_)
    simp only [Bool.and_eq_true] at hc
    exact ⟨_, ho, hc.1, hc.2⟩
  · refine orBad_ok (fun hc => ?_)
    simp only [Bool.and_eq_true] at hc
    exact ⟨_, ho, hc.1, hc.2⟩
  · trivial

def rsOf (P : Program) (H : Hints) (o : Oper) : ROp :=
  match o.op with
  | .move x => orBad (opndOk x) (.mv x)
  | .assign x => orBad (opndOk x) (.mv x)
  | .pick c a b => orBad (opndOk c && opndOk a && opndOk b) (.pick c a b)
  | .alloc t => match zeroOf P t with
    | some (_, z) => orBad o.dst.isSome (.alloc z)
    | none => .bad
  | .box _ x => orBad (o.dst.isSome && opndOk x) (.box x)
  | .build t parts => match zeroOf P t, buildOf P t parts.toList with
    | some (_, z), some ps => .build z ps
    | _, _ => .bad
  | .buildSlice t len parts => match P.underlying t with
    | some (.slice e) => match zeroOf P e with
      | some (sz, z) => orBad (o.dst.isSome && decide (0 < sz) && decide (len * sz ≤ 16777216) && parts.toList.all (fun p => opndOk p.2)) (.bslice e sz z len parts.toList (H.raws.contains (o.dst.getD 0)))
      | none => .bad
    | _ => .bad
  | .load t x => match tyOf P t with
    | some (agg, n) => orBad (opndOk x) (.load agg n x)
    | none => .bad
  | .store t x v => match tyOf P t with
    | some (_, n) => orBad (opndOk x && opndOk v) (.store n x v)
    | none => .bad
  | .nilCheck x => orBad (opndOk x) (.nilchk x)
  | .binOp op t x y _ => binOf P op t x y
  | .unOp op _ x => orBad (opndOk x) (.un op x)
  | .convert s t x => convOf P s t x
  | .makeSlice t l c => match P.underlying t with
    | some (.slice e) => match zeroOf P e, P.info? e with
      | some (sz, z), some i => orBad (o.dst.isSome && decide (0 < sz) && opndOk l && opndOk c) (.mkslice e sz i.bytes z l c)
      | _, _ => .bad
    | _ => .bad
  | .slice t x lo hi none => match P.underlying t with
    | some .string => orBad (opndOk x && (optL lo ++ optL hi).all opndOk) (.sslice x lo hi)
    | some (.slice e) => match P.info? e with
      | some i => orBad (opndOk x && (optL lo ++ optL hi).all opndOk) (.slc i.size x lo hi)
      | none => .bad
    | some (.array n e) => match P.info? e with
      | some i => orBad (lo.isNone && hi.isNone && i.size == 1 && opndOk x) (.aslc n x)
      | none => .bad
    | _ => .bad
  | .fieldAddr t x k => match P.underlying t with
    | some (.struct fs) => match fs[k]? with
      | some f => match P.info? f.type with
        | some i => orBad (i.size != 0 && opndOk x) (.faddr f.offset x)
        | none => .bad
      | none => .bad
    | _ => .bad
  | .field t x k => match P.underlying t with
    | some (.struct fs) => match fs[k]? with
      | some f => match tyOf P f.type with
        | some (agg, n) => orBad (opndOk x) (.fld agg f.offset n x)
        | none => .bad
      | none => .bad
    | _ => .bad
  | .indexAddr t x i => match P.underlying t with
    | some (.slice e) => match P.info? e with
      | some inf => orBad (opndOk x && opndOk i) (.iaddr inf.size x i)
      | none => .bad
    | some (.array n e) => match P.info? e with
      | some inf => orBad (opndOk x && opndOk i) (.aaddr n inf.size x i)
      | none => .bad
    | _ => .bad
  | .index t x i => match P.underlying t with
    | some .string => orBad (opndOk x && opndOk i) (.sidx x i)
    | _ => .bad
  | .extract x i => orBad (opndOk x) (.ext x i)
  | .call c => callOf P H o c
  | _ => .bad

theorem rsOf_ok {P : Program} {H : Hints} {o : Oper} : Rs P o (rsOf P H o) := by
  unfold rsOf
  split
  · rename_i x ho; exact orBad_ok (fun hc => ⟨.inl ho, hc⟩)
  · rename_i x ho; exact orBad_ok (fun hc => ⟨.inr ho, hc⟩)
  · rename_i c a b ho
    refine orBad_ok (fun hc => ?_)
    simp only [Bool.and_eq_true] at hc
    exact ⟨ho, hc.1.1, hc.1.2, hc.2⟩
  · rename_i t ho
    split
    · rename_i sz z hz; exact orBad_ok (fun hc => ⟨t, ho, hc, sz, zeroOf_ok hz⟩)
    · trivial
  · rename_i t x ho
    refine orBad_ok (fun hc => ?_)
    simp only [Bool.and_eq_true] at hc
    exact ⟨t, ho, hc.1, hc.2⟩
  · rename_i t parts ho
    split
    · rename_i sz z ps hz hb; exact ⟨t, parts, sz, ho, zeroOf_ok hz, buildOf_ok hb⟩
    · trivial
  · rename_i t len parts ho
    split
    · rename_i e hu
      split
      · rename_i sz z hz
        refine orBad_ok (fun hc => ?_)
        simp only [Bool.and_eq_true, decide_eq_true_eq] at hc
        exact ⟨t, parts, ho, hc.1.1.1, hu, zeroOf_ok hz, rfl, hc.1.1.2, hc.1.2, hc.2⟩
      · trivial
    · trivial
  · rename_i t x ho
    split
    · rename_i agg n ht; exact orBad_ok (fun hc => ⟨t, ho, tyOf_ok ht, hc⟩)
    · trivial
  · rename_i t x v ho
    split
    · rename_i agg n ht
      refine orBad_ok (fun hc => ?_)
      simp only [Bool.and_eq_true] at hc
      exact ⟨t, agg, ho, tyOf_ok ht, hc.1, hc.2⟩
    · trivial
  · rename_i x ho; exact orBad_ok (fun hc => ⟨ho, hc⟩)
  · rename_i op t x y yt ho; exact binOf_ok ho
  · rename_i op t x ho; exact orBad_ok (fun hc => ⟨t, ho, hc⟩)
  · rename_i s t x ho; exact convOf_ok ho
  · rename_i t l c ho
    split
    · rename_i e hu
      split
      · rename_i sz z i hz hi
        refine orBad_ok (fun hc => ?_)
        simp only [Bool.and_eq_true, decide_eq_true_eq] at hc
        exact ⟨t, i, ho, hc.1.1.1, hu, zeroOf_ok hz, hi, rfl, hc.1.1.2, hc.1.2, hc.2⟩
      · trivial
    · trivial
  · rename_i t x lo hi ho
    split
    · rename_i hu
      refine orBad_ok (fun hc => ?_)
      simp only [Bool.and_eq_true] at hc
      exact ⟨t, ho, hu, hc.1, hc.2⟩
    · rename_i e hu
      split
      · rename_i i hi
        refine orBad_ok (fun hc => ?_)
        simp only [Bool.and_eq_true] at hc
        exact ⟨t, e, i, ho, hu, hi, rfl, hc.1, hc.2⟩
      · trivial
    · rename_i m e hu
      split
      · rename_i i hi
        refine orBad_ok (fun hc => ?_)
        simp only [Bool.and_eq_true, Option.isNone_iff_eq_none, beq_iff_eq] at hc
        obtain ⟨⟨⟨h1, h2⟩, h3⟩, h4⟩ := hc
        subst h1; subst h2
        exact ⟨t, e, i, ho, hu, hi, h3, h4⟩
      · trivial
    · trivial
  · rename_i t x k ho
    split
    · rename_i fs hu
      split
      · rename_i f hf
        split
        · rename_i i hi
          refine orBad_ok (fun hc => ?_)
          simp only [Bool.and_eq_true, bne_iff_ne] at hc
          exact ⟨t, fs, k, f, i, ho, hu, hf, rfl, hi, hc.1, hc.2⟩
        · trivial
      · trivial
    · trivial
  · rename_i t x k ho
    split
    · rename_i fs hu
      split
      · rename_i f hf
        split
        · rename_i agg n ht; exact orBad_ok (fun hc => ⟨t, fs, k, f, ho, hu, hf, rfl, tyOf_ok ht, hc⟩)
        · trivial
      · trivial
    · trivial
  · rename_i t x i ho
    split
    · rename_i e hu
      split
      · rename_i inf hi
        refine orBad_ok (fun hc => ?_)
        simp only [Bool.and_eq_true] at hc
        exact ⟨t, e, inf, ho, hu, hi, rfl, hc.1, hc.2⟩
      · trivial
    · rename_i m e hu
      split
      · rename_i inf hi
        refine orBad_ok (fun hc => ?_)
        simp only [Bool.and_eq_true] at hc
        exact ⟨t, e, inf, ho, hu, hi, rfl, hc.1, hc.2⟩
      · trivial
    · trivial
  · rename_i t x i ho
    split
    · rename_i hu
      refine orBad_ok (fun hc => ?_)
      simp only [Bool.and_eq_true] at hc
      exact ⟨t, ho, hu, hc.1, hc.2⟩
    · trivial
  · rename_i x i ho; exact orBad_ok (fun hc => ⟨ho, hc⟩)
  · rename_i c ho; exact callOf_ok ho
  · trivial
end Go.Pf

/- Pure frames, part E: when an operation of the model is the one that a resolved operation names ('Rs'); and that those which touch no memory do what the pure ones say. -/
import Derived.Test.YthiipifjdfmblaaGreatDoorPfD
set_option linter.unusedVariables false
set_option linter.unusedSimpArgs false
namespace Go.Pf
open Go.RowKit

def eqOp (neg : Bool) : BinOp := if neg then .neq else .eql

/-- The zero cells of a type, with its size. -/
def ZeroOk (P : Program) (t : TypeId) (sz : Nat) (zero : List Value) : Prop :=
  ∃ i z, P.info? t = some i ∧ i.zero = some z ∧ z.cells.toList = zero ∧ i.size = sz ∧ zero.length = sz ∧ zero.all scalarV = true

/-- The place of each part of a composite value. -/
def PartsOk (place : Nat → Option (Nat × Nat)) : List (Nat × Operand) → List (Nat × Nat × Operand) → Prop
  | [], [] => True
  | (i, x) :: r, (off, n, y) :: q => place i = some (off, n) ∧ x = y ∧ opndOk x = true ∧ PartsOk place r q
  | _, _ => False

def BuildOk (P : Program) (t : TypeId) (parts : List (Nat × Operand)) (ps : List (Nat × Nat × Operand)) : Prop :=
  (∃ fs : Array Field, P.underlying t = some (.struct fs) ∧ (∀ (k : Nat) (f : Field), fs[k]? = some f → (P.info? f.type).isSome = true) ∧
    PartsOk (fun k => (fs[k]?).bind fun f => (P.info? f.type).map fun i => (f.offset, i.size)) parts ps) ∨
  (∃ (n : Nat) (e : TypeId) (i : TypeInfo), P.underlying t = some (.array n e) ∧ P.info? e = some i ∧ PartsOk (fun k => some (k * i.size, i.size)) parts ps)

def Rs (P : Program) (o : Oper) : ROp → Prop
  | .mv x => (o.op = .move x ∨ o.op = .assign x) ∧ opndOk x = true
  | .pick c a b => o.op = .pick c a b ∧ opndOk c = true ∧ opndOk a = true ∧ opndOk b = true
  | .alloc zero => ∃ t, o.op = .alloc t ∧ o.dst.isSome = true ∧ ∃ sz, ZeroOk P t sz zero
  | .box x => ∃ t, o.op = .box t x ∧ o.dst.isSome = true ∧ opndOk x = true
  | .build zero ps => ∃ t parts sz, o.op = .build t parts ∧ ZeroOk P t sz zero ∧ BuildOk P t parts.toList ps
  | .bslice e sz zero len ps _ => ∃ t parts, o.op = .buildSlice t len parts ∧ o.dst.isSome = true ∧ P.underlying t = some (.slice e) ∧ ZeroOk P e sz zero ∧ parts.toList = ps ∧ 0 < sz ∧ len * sz ≤ 16777216 ∧ ps.all (fun p => opndOk p.2) = true
  | .load agg n x => ∃ t, o.op = .load t x ∧ TyOk P t agg n ∧ opndOk x = true
  | .store n x v => ∃ t agg, o.op = .store t x v ∧ TyOk P t agg n ∧ opndOk x = true ∧ opndOk v = true
  | .nilchk x => o.op = .nilCheck x ∧ opndOk x = true
  | .bin op x y => ∃ t yt, o.op = .binOp op t x y yt ∧ opndOk x = true ∧ opndOk y = true
  | .binb neg x y => ∃ t yt, o.op = .binOp (eqOp neg) t x y yt ∧ P.underlying t = some .bool ∧ opndOk x = true ∧ opndOk y = true
  | .eqs neg x y => ∃ t yt f1 f2, o.op = .binOp (eqOp neg) t x y yt ∧ P.underlying t = some (.struct #[f1, f2]) ∧ f1.name ≠ "_" ∧ f2.name ≠ "_" ∧ f1.offset = 0 ∧ f2.offset = 1 ∧
      P.underlying f1.type = some .string ∧ P.underlying f2.type = some .string ∧ P.stoodInHeld t = false ∧ P.eqGuardType P.depth t = false ∧ opndOk x = true ∧ opndOk y = true
  | .isnil neg x => ∃ t yt e, o.op = .binOp (eqOp neg) t x (.const (.slice none 0 0)) yt ∧ P.underlying t = some (.slice e) ∧ opndOk x = true
  | .un op x => ∃ t, o.op = .unOp op t x ∧ opndOk x = true
  | .cint k x => ∃ s t d, o.op = .convert s t x ∧ P.underlying s = some d ∧ P.underlying t = some (.int k) ∧ opndOk x = true
  | .b2s x => ∃ s t e, o.op = .convert s t x ∧ P.underlying s = some (.slice e) ∧ P.underlying e = some (.int .u8) ∧ P.underlying t = some .string ∧ opndOk x = true
  | .mkslice e sz bytes zero l c => ∃ t i, o.op = .makeSlice t l c ∧ o.dst.isSome = true ∧ P.underlying t = some (.slice e) ∧ ZeroOk P e sz zero ∧ P.info? e = some i ∧ i.bytes = bytes ∧ 0 < sz ∧ opndOk l = true ∧ opndOk c = true
  | .sslice x lo hi => ∃ t, o.op = .slice t x lo hi none ∧ P.underlying t = some .string ∧ opndOk x = true ∧ (optL lo ++ optL hi).all opndOk = true
  | .slc sz x lo hi => ∃ t e i, o.op = .slice t x lo hi none ∧ P.underlying t = some (.slice e) ∧ P.info? e = some i ∧ i.size = sz ∧ opndOk x = true ∧ (optL lo ++ optL hi).all opndOk = true
  | .faddr off x => ∃ t fs k f i, o.op = .fieldAddr t x k ∧ P.underlying t = some (.struct fs) ∧ fs[k]? = some f ∧ f.offset = off ∧ P.info? f.type = some i ∧ i.size ≠ 0 ∧ opndOk x = true
  | .fld agg off n x => ∃ t fs k f, o.op = .field t x k ∧ P.underlying t = some (.struct fs) ∧ fs[k]? = some f ∧ f.offset = off ∧ TyOk P f.type agg n ∧ opndOk x = true
  | .iaddr sz x i => ∃ t e inf, o.op = .indexAddr t x i ∧ P.underlying t = some (.slice e) ∧ P.info? e = some inf ∧ inf.size = sz ∧ opndOk x = true ∧ opndOk i = true
  | .sidx x i => ∃ t, o.op = .index t x i ∧ P.underlying t = some .string ∧ opndOk x = true ∧ opndOk i = true
  | .ext x i => o.op = .extract x i ∧ opndOk x = true
  | .len isStr x => ∃ t, o.op = .call { callee := .builtin .len, args := #[x], argTypes := #[t] } ∧ (if isStr then P.underlying t = some .string else ∃ e, P.underlying t = some (.slice e)) ∧ opndOk x = true
  | .append e sz bytes s x _ => ∃ t i, o.op = .call { callee := .builtin .append, args := #[s, x], argTypes := #[t, t] } ∧ o.dst.isSome = true ∧ P.underlying t = some (.slice e) ∧ P.info? e = some i ∧ i.bytes = bytes ∧
      (∃ z, i.zero = some z ∧ z.cells.size = sz) ∧ i.size = sz ∧ 0 < sz ∧ opndOk s = true ∧ opndOk x = true
  | .mx isMax x y => ∃ ts, o.op = .call { callee := .builtin (if isMax then .max else .min), args := #[x, y], argTypes := ts } ∧ opndOk x = true ∧ opndOk y = true
  | .call f args _ => ∃ ts, o.op = .call { callee := .value f, args := args.toArray, argTypes := ts } ∧ opndOk f = true ∧ args.all opndOk = true
  | .appz e sz bytes zero s x _ => ∃ t t' i k, o.op = .call { callee := .builtin .append, args := #[s, x], argTypes := #[t, t'] } ∧ o.dst.isSome = true ∧ P.underlying t = some (.slice e) ∧ P.underlying t' = some (.int k) ∧ P.info? e = some i ∧ i.bytes = bytes ∧
      ZeroOk P e sz zero ∧ 0 < sz ∧ opndOk s = true ∧ opndOk x = true
  | .cap0 x => ∃ t e, o.op = .call { callee := .builtin .cap, args := #[x], argTypes := #[t] } ∧ P.underlying t = some (.slice e) ∧ opndOk x = true
  | .clr e sz zero x => ∃ t, o.op = .call { callee := .builtin .clear, args := #[x], argTypes := #[t] } ∧ P.underlying t = some (.slice e) ∧ ZeroOk P e sz zero ∧ 0 < sz ∧ opndOk x = true
  | .aaddr n sz x i => ∃ t e inf, o.op = .indexAddr t x i ∧ P.underlying t = some (.array n e) ∧ P.info? e = some inf ∧ inf.size = sz ∧ opndOk x = true ∧ opndOk i = true
  | .aslc n x => ∃ t e inf, o.op = .slice t x none none none ∧ P.underlying t = some (.array n e) ∧ P.info? e = some inf ∧ inf.size = 1 ∧ opndOk x = true
  | .bad => True

/-- Below B nothing has turned but the block O. -/
structure PB (B : Nat) (O : Option Nat) (c : Nat → Nat) (w : World) (c' : Nat → Nat) (w' : World) : Prop where
  os : w'.os = w.os
  tape : w'.tape = w.tape
  output : w'.output = w.output
  size : w.heap.size ≤ w'.heap.size
  block : ∀ b, b < B → O ≠ some b → w'.heap[b]? = w.heap[b]?
  c : ∀ b, b < B → O ≠ some b → c' b = c b

theorem PB.refl (B : Nat) (O : Option Nat) (c : Nat → Nat) (w : World) : PB B O c w c w := ⟨rfl, rfl, rfl, Nat.le_refl _, fun _ _ _ => rfl, fun _ _ _ => rfl⟩
theorem PB.trans {B : Nat} {O : Option Nat} {c c' c'' : Nat → Nat} {w w' w'' : World} (h : PB B O c w c' w') (k : PB B O c' w' c'' w'') : PB B O c w c'' w'' :=
  ⟨k.os.trans h.os, k.tape.trans h.tape, k.output.trans h.output, Nat.le_trans h.size k.size, fun b hb ho => (k.block b hb ho).trans (h.block b hb ho), fun b hb ho => (k.c b hb ho).trans (h.c b hb ho)⟩

section
variable {P : Program} {n B : Nat} {O : Option Nat} {gl : Gl} {ph : Option (Nat × Value)} {g : Gh} {s : St} {a : Act} {w : World} {o : Oper} {K : Act → World → Prop} {Q : Exit → Act → World → Prop}

/-- What is owed behind an operation. -/
def Owed (gl : Gl) (ph : Option (Nat × Value)) (n B : Nat) (O : Option Nat) (g : Gh) (w : World) (s' : St) (K : Act → World → Prop) : Prop :=
  ∀ g' a' w', FR gl ph n B O g' s' a' w' → PB B O g.c w g'.c w' → K a' w'

theorem sim_val (h : FR gl ph n B O g s a w) (hd : ∀ t, o.dst = some t → t < n) {p : PV} {v : Value} (hr : (execOp a.eval o).run P w = .ok (.value v) w) (hv : XR g w s.objs p v)
    (hk : Owed gl ph n B O g w ⟨put s.env o.dst p, s.objs⟩ K) : o.wp P a w K Q :=
  wp_value hr (hk g _ w (h.put o.dst hd hv) (PB.refl _ _ _ _))

theorem XR.sc {g : Gh} {w : World} {ob : Nat → Obj} {v : Value} (h : scalarV v = true) : XR g w ob (.sc v) v := .inr (.inl (.inl (.sc h)))

theorem sbin_scalar {op : BinOp} {x y v : Value} (h : sbin op x y = some v) : scalarV v = true := by
  unfold sbin at h
  split at h
  · split at h
    · split at h <;> (try split at h) <;> first | (cases h; done) | (cases h; rfl) | (simp at h)
    · simp at h
  · split at h <;> (try split at h) <;> first | (cases h; done) | (cases h; rfl) | (simp at h)
  · simp at h

theorem run_sbin (op : BinOp) (t : TypeId) (xo yo : Operand) (x y v : Value) (h : sbin op x y = some v) :
    (do eqGuard op t xo yo x y; binOp op t x y : Sem Value).run P w = .ok v w := by
  unfold sbin at h
  split at h
  · rename_i k a k' b
    split at h
    · rename_i hk
      subst hk
      split at h <;> (try split at h) <;> first | (cases h; done) | (cases h; simp [eqGuard, binOp, Op.intArith, Op.intDiv, Op.intCmp, *]) | (simp at h)
    · simp at h
  · split at h <;> (try split at h) <;> first | (cases h; done) | (cases h; simp [eqGuard, binOp, Op.stringOp, *]; done) | (cases h; simp [eqGuard, binOp, Op.stringOp]; rename_i hh; simp at hh; omega) | (simp at h)
  · simp at h

theorem sim_mv {x : Operand} (h : FR gl ph n B O g s a w) (hd : ∀ t, o.dst = some t → t < n) (hr : Rs P o (.mv x)) (hk : Owed gl ph n B O g w ⟨put s.env o.dst (evalIn s.env x), s.objs⟩ K) : o.wp P a w K Q := by
  obtain ⟨ho, hx⟩ := hr
  refine sim_val h hd (v := a.eval x) ?_ (h.opnd hx) hk
  rcases ho with ho | ho <;> simp only [execOp, ho] <;> rfl

theorem sim_pick {c x y : Operand} {p : PV} (h : FR gl ph n B O g s a w) (hd : ∀ t, o.dst = some t → t < n) (hr : Rs P o (.pick c x y))
    (hp : pop (evalIn s.env) s.objs (o.dst.getD 0) (.pick c x y) = some (p, [])) (hk : Owed gl ph n B O g w ⟨put s.env o.dst p, s.objs⟩ K) : o.wp P a w K Q := by
  obtain ⟨ho, hc, hx, hy⟩ := hr
  have e := h.opnd hc
  simp only [pop] at hp
  split at hp
  · rename_i hev
    rw [hev] at e
    have e1 := e.sc_inv.1
    cases hp
    refine sim_val h hd (v := a.eval x) ?_ (h.opnd hx) hk
    simp only [execOp, ho, e1, asBool, Sem.run_bind, Sem.run_pure, Result.andThen_ok, if_true]
  · rename_i hev
    rw [hev] at e
    have e1 := e.sc_inv.1
    cases hp
    refine sim_val h hd (v := a.eval y) ?_ (h.opnd hy) hk
    simp only [execOp, ho, e1, asBool, Sem.run_bind, Sem.run_pure, Result.andThen_ok, Bool.false_eq_true, if_false]
  · simp at hp

theorem sim_bin {op : BinOp} {x y : Operand} {p : PV} {us : List (Nat × Obj)} (h : FR gl ph n B O g s a w) (hd : ∀ t, o.dst = some t → t < n) (hr : Rs P o (.bin op x y))
    (hp : pop (evalIn s.env) s.objs (o.dst.getD 0) (.bin op x y) = some (p, us)) (hk : Owed gl ph n B O g w ⟨put s.env o.dst p, updAll s.objs us⟩ K) : o.wp P a w K Q := by
  obtain ⟨t, yt, ho, hx, hy⟩ := hr
  have ex := h.opnd hx
  have ey := h.opnd hy
  simp only [pop] at hp
  split at hp
  · rename_i u v hu hv
    rw [hu] at ex
    rw [hv] at ey
    cases hs : sbin op u v with
    | none => simp [hs] at hp
    | some z =>
      simp only [hs, Option.map_some, Option.some.injEq, Prod.mk.injEq] at hp
      obtain ⟨rfl, rfl⟩ := hp
      refine sim_val h hd (v := z) ?_ (.sc (sbin_scalar hs)) hk
      simp only [execOp, ho, ex.sc_inv.1, ey.sc_inv.1]
      have := run_sbin (P := P) (w := w) op t x y u v z hs
      simp only [Sem.run_bind] at this ⊢
      rw [this]; rfl
  · simp at hp

theorem sim_binb {neg : Bool} {x y : Operand} {p : PV} {us : List (Nat × Obj)} (h : FR gl ph n B O g s a w) (hd : ∀ t, o.dst = some t → t < n) (hr : Rs P o (.binb neg x y))
    (hp : pop (evalIn s.env) s.objs (o.dst.getD 0) (.binb neg x y) = some (p, us)) (hk : Owed gl ph n B O g w ⟨put s.env o.dst p, updAll s.objs us⟩ K) : o.wp P a w K Q := by
  obtain ⟨t, yt, ho, ht, hx, hy⟩ := hr
  have ex := h.opnd hx
  have ey := h.opnd hy
  simp only [pop] at hp
  split at hp
  · rename_i u v hu hv
    rw [hu] at ex
    rw [hv] at ey
    cases hp
    refine sim_val h hd (v := .bool (xor neg (u == v))) ?_ (.sc rfl) hk
    cases neg
    · simp only [eqOp, Bool.false_eq_true, if_false] at ho
      simp only [execOp, ho, ex.sc_inv.1, ey.sc_inv.1, eqGuard, Sem.run_bind, Sem.run_pure]
      simp
      rw [run_eql_bool w t u v ht]; rfl
    · simp only [eqOp, if_true] at ho
      simp only [execOp, ho, ex.sc_inv.1, ey.sc_inv.1, eqGuard, Sem.run_bind, Sem.run_pure]
      simp
      rw [run_neq_bool w t u v ht]; rfl
  · simp at hp

theorem sim_un {op : UnOp} {x : Operand} {p : PV} {us : List (Nat × Obj)} (h : FR gl ph n B O g s a w) (hd : ∀ t, o.dst = some t → t < n) (hr : Rs P o (.un op x))
    (hp : pop (evalIn s.env) s.objs (o.dst.getD 0) (.un op x) = some (p, us)) (hk : Owed gl ph n B O g w ⟨put s.env o.dst p, updAll s.objs us⟩ K) : o.wp P a w K Q := by
  obtain ⟨t, ho, hx⟩ := hr
  have ex := h.opnd hx
  simp only [pop] at hp
  split at hp
  · rename_i u hu
    rw [hu] at ex
    cases hs : sun op u with
    | none => simp [hs] at hp
    | some z =>
      simp only [hs, Option.map_some, Option.some.injEq, Prod.mk.injEq] at hp
      obtain ⟨rfl, rfl⟩ := hp
      have hz : scalarV z = true ∧ (Op.unary op u).run P w = .ok z w := by
        unfold sun at hs
        split at hs
        · split at hs
          · cases hs; exact ⟨rfl, by simp [Op.unary]⟩
          · simp at hs
        · split at hs
          · cases hs; exact ⟨rfl, by simp [Op.unary, Op.intArith]⟩
          · simp at hs
        · simp at hs
      refine sim_val h hd (v := z) ?_ (.sc hz.1) hk
      simp only [execOp, ho, ex.sc_inv.1, Sem.run_bind, hz.2, Result.andThen_ok, Sem.run_pure]
  · simp at hp

theorem sim_cint {k : IntKind} {x : Operand} {p : PV} {us : List (Nat × Obj)} (h : FR gl ph n B O g s a w) (hd : ∀ t, o.dst = some t → t < n) (hr : Rs P o (.cint k x))
    (hp : pop (evalIn s.env) s.objs (o.dst.getD 0) (.cint k x) = some (p, us)) (hk : Owed gl ph n B O g w ⟨put s.env o.dst p, updAll s.objs us⟩ K) : o.wp P a w K Q := by
  obtain ⟨t1, t2, d, ho, h1, h2, hx⟩ := hr
  have ex := h.opnd hx
  simp only [pop] at hp
  split at hp
  · rename_i k' m hu
    rw [hu] at ex
    cases hp
    refine sim_val h hd (v := .int k (k.wrap m)) ?_ (.sc rfl) hk
    simp only [execOp, ho, ex.sc_inv.1, convert, Sem.run_bind, run_underlying h1, run_underlying h2, Result.andThen_ok, Conv.intToInt, Sem.run_pure]
  · simp at hp

theorem sim_ext {i : Nat} {x : Operand} {p : PV} {us : List (Nat × Obj)} (h : FR gl ph n B O g s a w) (hd : ∀ t, o.dst = some t → t < n) (hr : Rs P o (.ext x i))
    (hp : pop (evalIn s.env) s.objs (o.dst.getD 0) (.ext x i) = some (p, us)) (hk : Owed gl ph n B O g w ⟨put s.env o.dst p, updAll s.objs us⟩ K) : o.wp P a w K Q := by
  obtain ⟨ho, hx⟩ := hr
  have ex := h.opnd hx
  simp only [pop] at hp
  split at hp
  · rename_i vs hu
    rw [hu] at ex
    cases hq : vs[i]? with
    | none => simp [hq] at hp
    | some q =>
      simp only [hq, Option.map_some, Option.some.injEq, Prod.mk.injEq] at hp
      obtain ⟨rfl, rfl⟩ := hp
      obtain ⟨us, e1, e2, e3⟩ := ex.tup_inv
      have hi : i < us.length := by have := (List.getElem?_eq_some_iff.1 hq).1; omega
      have hu' : us[i]? = some us[i] := List.getElem?_eq_getElem hi
      refine sim_val h hd (v := us[i]) ?_ (.inr (.inl (e3 i q _ hq hu'))) hk
      simp [execOp, ho, e1, Instr.extract, hi]
  · simp at hp

theorem sim_nilchk {x : Operand} {p : PV} {us : List (Nat × Obj)} (h : FR gl ph n B O g s a w) (hd : ∀ t, o.dst = some t → t < n) (hr : Rs P o (.nilchk x))
    (hp : pop (evalIn s.env) s.objs (o.dst.getD 0) (.nilchk x) = some (p, us)) (hk : Owed gl ph n B O g w ⟨put s.env o.dst p, updAll s.objs us⟩ K) : o.wp P a w K Q := by
  obtain ⟨ho, hx⟩ := hr
  have ex := h.opnd hx
  simp only [pop] at hp
  have key : ∀ ad : Addr, a.eval x = .pointer (some ad) → (execOp a.eval o).run P w = .ok (.value (a.eval x)) w := by
    intro ad e; simp only [execOp, ho, e]; rfl
  split at hp
  · rename_i k st off hu
    rw [hu] at ex
    cases hp
    obtain ⟨_, ad, e, _⟩ := ex.ref_inv (by simp [PV.key])
    exact sim_val h hd (key ad e) ex hk
  · rename_i k st i off hu
    rw [hu] at ex
    cases hp
    obtain ⟨_, ad, e, _⟩ := ex.ref_inv (by simp [PV.key])
    exact sim_val h hd (key ad e) ex hk
  · rename_i cs off hu
    rw [hu] at ex
    cases hp
    have e := ex.eptr_inv
    cases he : a.eval x with
    | pointer q =>
      rw [he] at e
      cases e
      exact sim_val h hd (key _ he) ex hk
    | _ => rw [he] at e; cases e
  · simp at hp

theorem sim_len {isStr : Bool} {x : Operand} {p : PV} {us : List (Nat × Obj)} (h : FR gl ph n B O g s a w) (hd : ∀ t, o.dst = some t → t < n) (hr : Rs P o (.len isStr x))
    (hp : pop (evalIn s.env) s.objs (o.dst.getD 0) (.len isStr x) = some (p, us)) (hk : Owed gl ph n B O g w ⟨put s.env o.dst p, updAll s.objs us⟩ K) : o.wp P a w K Q := by
  obtain ⟨t, ho, ht, hx⟩ := hr
  have ex := h.opnd hx
  have key : ∀ (l : Nat), (Builtin.len_ #[t] o.type #[a.eval x]).run P w = .ok (goInt l) w → (execOp a.eval o).run P w = .ok (.value (.int .i64 l)) w := by
    intro l hl
    simp only [execOp, ho, resolve, invoke, builtin, Sem.run_bind, Sem.run_pure, Result.andThen_ok, List.map_toArray, List.map_cons, List.map_nil, hl]; rfl
  simp only [pop] at hp
  split at hp
  · rename_i u hu
    simp only [if_true] at ht
    rw [hu] at ex
    cases hp
    refine sim_val h hd (key _ ?_) (.sc rfl) hk
    rw [ex.sc_inv.1]; exact run_len_string w t _ u ht
  · rename_i hu
    simp only [Bool.false_eq_true, if_false] at ht
    obtain ⟨e, ht⟩ := ht
    rw [hu] at ex
    cases hp
    refine sim_val h hd (key 0 ?_) (.sc rfl) hk
    rw [ex.sc_inv.1]; simp [Builtin.len_, run_underlying ht]
  · rename_i sz es hu
    simp only [Bool.false_eq_true, if_false] at ht
    obtain ⟨e, ht⟩ := ht
    rw [hu] at ex
    cases hp
    have e1 := ex.lst_inv
    refine sim_val h hd (key _ ?_) (.sc rfl) hk
    cases he : a.eval x with
    | slice q l c =>
      rw [he] at e1
      cases e1
      simp [Builtin.len_, run_underlying ht]
    | _ => rw [he] at e1; cases e1
  · rename_i k st off len hu
    simp only [Bool.false_eq_true, if_false] at ht
    obtain ⟨e, ht⟩ := ht
    rw [hu] at ex
    cases hp
    obtain ⟨_, b, o', cap, e1, _⟩ := ex.ref_inv (by simp [PV.key])
    refine sim_val h hd (key _ ?_) (.sc rfl) hk
    rw [e1]; simp [Builtin.len_, run_underlying ht]
  · simp at hp

theorem sim_mx {isMax : Bool} {x y : Operand} {p : PV} {us : List (Nat × Obj)} (h : FR gl ph n B O g s a w) (hd : ∀ t, o.dst = some t → t < n) (hr : Rs P o (.mx isMax x y))
    (hp : pop (evalIn s.env) s.objs (o.dst.getD 0) (.mx isMax x y) = some (p, us)) (hk : Owed gl ph n B O g w ⟨put s.env o.dst p, updAll s.objs us⟩ K) : o.wp P a w K Q := by
  obtain ⟨ts, ho, hx, hy⟩ := hr
  have ex := h.opnd hx
  have ey := h.opnd hy
  simp only [pop] at hp
  split at hp
  · rename_i k u k' v hu hv
    rw [hu] at ex
    rw [hv] at ey
    split at hp
    · rename_i hkk
      cases hp
      refine sim_val h hd (v := .int k (if isMax then (if v > u then v else u) else (if v < u then v else u))) ?_ (.sc rfl) hk
      cases isMax
      · simp only [Bool.false_eq_true, if_false] at ho ⊢
        simp only [execOp, ho, resolve, invoke, builtin, Sem.run_bind, Sem.run_pure, Result.andThen_ok, List.map_toArray, List.map_cons, List.map_nil, ex.sc_inv.1, ey.sc_inv.1, run_min_int2]
      · simp only [if_true] at ho ⊢
        simp only [execOp, ho, resolve, invoke, builtin, Sem.run_bind, Sem.run_pure, Result.andThen_ok, List.map_toArray, List.map_cons, List.map_nil, ex.sc_inv.1, ey.sc_inv.1, run_max_int2]
    · simp at hp
  · simp at hp
end
end Go.Pf

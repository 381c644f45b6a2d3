/- Pure frames, part D: what the machine's operations do, said so that the pure ones can be held against them. -/
import Derived.Test.YtlefgpakmgbgaaaGreatDoorEa
set_option linter.unusedVariables false
set_option linter.unusedSimpArgs false
set_option linter.unusedSectionVars false
section
namespace Go.Hf
open Go.RowKit
section
variable {P : Program} {w : World}
theorem run_newObj (o : Go.Obj) : (newObj o).run P w = .ok w.heap.size (w.alloc o) := rfl
theorem run_typeInfo {t : TypeId} {i : TypeInfo} (h : P.info? t = some i) : (typeInfo t).run P w = .ok i w := by
  simp only [typeInfo, Sem.run_bind, program, Sem.run, Result.andThen_ok, h]; rfl
theorem run_zeroValue {t : TypeId} {i : TypeInfo} {z : Value} (h : P.info? t = some i) (hz : i.zero = some z) : (zeroValue t).run P w = .ok z w := by
  simp only [zeroValue, Sem.run_bind, run_typeInfo h, Result.andThen_ok, hz]; rfl
theorem run_sizeOf {t : TypeId} {i : TypeInfo} (h : P.info? t = some i) : (sizeOf t).run P w = .ok i.size w := by
  simp only [sizeOf, Sem.run_bind, run_typeInfo h, Result.andThen_ok]; rfl
def aggD : TypeDesc → Bool
  | .struct _ => true
  | .array _ _ => true
  | _ => false
theorem run_isAgg {t : TypeId} {d : TypeDesc} (h : P.underlying t = some d) : (isAgg t).run P w = .ok (aggD d) w := by
  simp only [isAgg, Sem.run_bind, run_underlying h, Result.andThen_ok]
  cases d <;> rfl
def TyOk (P : Program) (t : TypeId) (agg : Bool) (n : Nat) : Prop :=
  ∃ i d, P.info? t = some i ∧ i.size = n ∧ P.underlying t = some d ∧ aggD d = agg ∧ (agg = false → n = 1)
theorem add_lit (b o n : Nat) : (⟨b, o, none⟩ : Addr).add n = ⟨b, o + n, none⟩ := by unfold Addr.add; split <;> simp_all
theorem run_loadVar_agg {t : TypeId} {n : Nat} (ht : TyOk P t true n) (b o : Nat) (vs : List Value) (hl : vs.length = n)
    (hc : ∀ (j : Nat) (v : Value), vs[j]? = some v → w.cell? ⟨b, o + j, none⟩ = some v) : (loadVar t ⟨b, o, none⟩).run P w = .ok (.agg vs.toArray) w := by
  obtain ⟨i, d, hi, hs, hu, hd, _⟩ := ht
  have h1 := run_loadCells_list (P := P) w ⟨b, o, none⟩ vs (fun j v hv => by rw [add_lit]; exact hc j v hv)
  simp only [loadVar, Sem.run_bind, run_isAgg hu, hd, Result.andThen_ok, if_true, run_sizeOf hi, hs, ← hl, h1, Sem.run_pure]
theorem run_loadVar_one {t : TypeId} {n : Nat} (ht : TyOk P t false n) (a : Addr) (v : Value) (hc : w.cell? a = some v) : (loadVar t a).run P w = .ok v w := by
  obtain ⟨i, d, hi, hs, hu, hd, _⟩ := ht
  simp only [loadVar, Sem.run_bind, run_isAgg hu, hd, Result.andThen_ok, Bool.false_eq_true, if_false, load, Sem.run, hc]
theorem run_storeVar_at {t : TypeId} {agg : Bool} {n : Nat} (ht : TyOk P t agg n) (g o T : Nat) (cur : Array Value) (v : Value) (hg : w.heap[g]? = some (.cells cur T (0, 0))) (hl : v.cells.size = n)
    (hfit : o + n ≤ cur.size) (h1 : ∀ u ∈ v.cells.toList, u.oneCell' = true) :
    (storeVar t ⟨g, o, none⟩ v).run P w = .ok () (w.setRow g (cur.toList.take o ++ v.cells.toList ++ cur.toList.drop (o + n)).toArray) := by
  obtain ⟨i, d, hi, hs, hu, hd, _⟩ := ht
  have hst := run_storeCells_at P g o T v.cells.toList 0 cur w hg (by simp [hl]; omega) h1
  have hll : v.cells.toList.length = n := by simp [hl]
  simp only [storeVar, Sem.run_bind, run_sizeOf hi, Result.andThen_ok, hs, hl, ne_eq, not_true_eq_false, if_false]
  simp only [Nat.add_zero, hll] at hst
  exact hst
theorem setRow_alike (w : World) (g : Nat) (x : Array Value) : (w.setRow g x).os = w.os ∧ (w.setRow g x).tape = w.tape ∧ (w.setRow g x).output = w.output ∧ (w.setRow g x).heap.size = w.heap.size := by
  simp [World.setRow]
end
section
variable {P : Program} {o : Oper} {a : Act} {w w' : World} {K : Act → World → Prop} {Q : Exit → Act → World → Prop}
theorem wp_value {v : Value} (h : (execOp a.eval o).run P w = .ok (.value v) w') (hk : K (a.put o.dst v) w') : o.wp P a w K Q := by
  simp only [Oper.wp, h, Oper.upon]; exact hk
theorem wp_skip' (h : (execOp a.eval o).run P w = .ok .skip w') (hk : K (a.put o.dst undef) w') : o.wp P a w K Q := by
  simp only [Oper.wp, h, Oper.upon]; exact hk
theorem wp_enter {f : FuncId} {args : Array Value} (h : (execOp a.eval o).run P w = .ok (.enter f args) w')
    (hk : Calls P f args w' fun e w'' => ∃ v, e = .returned v ∧ K (a.put o.dst v) w'') : o.wp P a w K Q := by
  simp only [Oper.wp, h, Oper.upon]
  refine hk.mono ?_
  rintro e w'' ⟨v, rfl, hv⟩
  exact hv
end
section
variable {g : Gh} {w : World} {ob : Nat → Obj}
theorem VR.sc_inv {c : Nat → Nat} {u v : Value} (h : VR c w (.sc u) v) : v = u ∧ scalarV u = true := by cases h with | sc h => exact ⟨rfl, h⟩
theorem XR.sc_inv {u v : Value} (h : XR g w ob (.sc u) v) : v = u ∧ scalarV u = true := by
  rcases h with h | (h | h) | ⟨_, _, h, _⟩ | ⟨_, _, h, _⟩
  · cases h
  · exact h.sc_inv
  · exact h.elim
  · cases h
  · cases h
theorem XR.ref_inv {p : PV} {v : Value} (h : XR g w ob p v) (hp : p.key ≠ []) : RefR g ob p v := by
  rcases h with h | (h | h) | ⟨_, _, h, _⟩ | ⟨_, _, h, _⟩
  · subst h; simp [PV.key, PV.key0] at hp
  · cases h <;> simp [PV.key, PV.key0] at hp
  · exact h
  · subst h; simp [PV.key, PV.key0] at hp
  · subst h; simp [PV.key, PV.key0] at hp
theorem XR.lst_inv {sz : Nat} {es : List (List PV)} {v : Value} (h : XR g w ob (.lst sz es) v) : VR g.c w (.lst sz es) v := by
  rcases h with h | (h | h) | ⟨_, _, h, _⟩ | ⟨_, _, h, _⟩
  · cases h
  · exact h
  · exact h.elim
  · cases h
  · cases h
theorem XR.eptr_inv {cs : List PV} {off : Nat} {v : Value} (h : XR g w ob (.eptr cs off) v) : VR g.c w (.eptr cs off) v := by
  rcases h with h | (h | h) | ⟨_, _, h, _⟩ | ⟨_, _, h, _⟩
  · cases h
  · exact h
  · exact h.elim
  · cases h
  · cases h
theorem XR.clo_inv {f : Nat} {caps : List PV} {v : Value} (h : XR g w ob (.clo f caps) v) : RefR g ob (.clo f caps) v := by
  rcases h with h | (h | h) | ⟨_, _, h, _⟩ | ⟨_, _, h, _⟩
  · cases h
  · cases h
  · exact h
  · cases h
  · cases h
theorem XR.agg_inv {cs : List PV} {v : Value} (h : XR g w ob (.agg cs) v) :
    ∃ vs : List Value, v = .agg vs.toArray ∧ cs.length = vs.length ∧ ∀ (j : Nat) (q : PV) (u : Value), cs[j]? = some q → vs[j]? = some u → q.isCell = true ∧ KR g w ob q u := by
  rcases h with h | (h | h) | ⟨cs', vs, h, h1, h2, h3⟩ | ⟨_, _, h, _⟩
  · cases h
  · cases h with
    | agg hl hci hv => exact ⟨_, rfl, hl, fun j q u hq hu => ⟨hci j q hq, .inl (hv j q u hq hu)⟩⟩
  · exact h.elim
  · cases h; exact ⟨vs, h1, h2, h3⟩
  · cases h
theorem XR.tup_inv {ps : List PV} {v : Value} (h : XR g w ob (.tup ps) v) :
    ∃ vs : List Value, v = .tuple vs.toArray ∧ ps.length = vs.length ∧ ∀ (j : Nat) (q : PV) (u : Value), ps[j]? = some q → vs[j]? = some u → KR g w ob q u ∨ AR g w ob q u := by
  rcases h with h | (h | h) | ⟨_, _, h, _⟩ | ⟨cs', vs, h, h1, h2, h3⟩
  · cases h
  · cases h
  · exact h.elim
  · cases h
  · cases h; exact ⟨vs, h1, h2, h3⟩
theorem scalar_oneCell {v : Value} (h : scalarV v = true) : v.oneCell' = true := by
  cases v <;> simp_all [scalarV, Value.oneCell']
theorem KR.oneCell {q : PV} {u : Value} (hc : q.isCell = true) (h : KR g w ob q u) : u.oneCell' = true := by
  rcases h with h | h
  · cases h with
    | sc h => exact scalar_oneCell h
    | lst => rfl
    | eptr => rfl
    | agg => simp [PV.isCell] at hc
  · cases q with
    | bptr k s off => obtain ⟨_, a, rfl, _⟩ := h; rfl
    | kptr k s i off => obtain ⟨_, a, rfl, _⟩ := h; rfl
    | bld k s off len => obtain ⟨_, b, o, cap, rfl, _⟩ := h; rfl
    | mref k s => obtain ⟨_, b, rfl, _⟩ := h; rfl
    | clo f caps => obtain ⟨_, vs, rfl, _⟩ := h; rfl
    | _ => exact h.elim
theorem oneCell_cells {v : Value} (h : v.oneCell' = true) : v.cells = #[v] := by
  cases v <;> simp_all [Value.oneCell', Value.cells]
theorem XR.cells {p : PV} {v : Value} {cs : List PV} (h : XR g w ob p v) (hp : p.cells = some cs) :
    v.cells.toList.length = cs.length ∧ ∀ (j : Nat) (q : PV), cs[j]? = some q → ∃ u, v.cells.toList[j]? = some u ∧ q.isCell = true ∧ KR g w ob q u := by
  cases p with
  | agg cs' =>
    obtain rfl : cs' = cs := by simpa [PV.cells] using hp
    obtain ⟨vs, rfl, hl, hv⟩ := h.agg_inv
    refine ⟨by simp [Value.cells, hl], fun j q hq => ?_⟩
    have hj : j < vs.length := by have := (List.getElem?_eq_some_iff.1 hq).1; omega
    exact ⟨vs[j], by simp [Value.cells, hj], hv j q _ hq (List.getElem?_eq_getElem hj)⟩
  | undef => simp [PV.cells] at hp
  | tup => simp [PV.cells] at hp
  | sc u =>
    obtain rfl : [PV.sc u] = cs := by simpa [PV.cells] using hp
    obtain ⟨rfl, hs⟩ := h.sc_inv
    rw [oneCell_cells (scalar_oneCell hs)]
    refine ⟨rfl, fun j q hq => ?_⟩
    match j, hq with
    | 0, hq => obtain rfl : PV.sc _ = q := by simpa using hq
               exact ⟨_, rfl, hs, .inl (.sc hs)⟩
  | lst sz es =>
    obtain rfl : [PV.lst sz es] = cs := by simpa [PV.cells] using hp
    have hk : KR g w ob (.lst sz es) v := .inl h.lst_inv
    rw [oneCell_cells (hk.oneCell rfl)]
    refine ⟨rfl, fun j q hq => ?_⟩
    match j, hq with
    | 0, hq => obtain rfl : PV.lst sz es = q := by simpa using hq
               exact ⟨_, rfl, rfl, hk⟩
  | eptr e off =>
    obtain rfl : [PV.eptr e off] = cs := by simpa [PV.cells] using hp
    have hk : KR g w ob (.eptr e off) v := .inl h.eptr_inv
    rw [oneCell_cells (hk.oneCell rfl)]
    refine ⟨rfl, fun j q hq => ?_⟩
    match j, hq with
    | 0, hq => obtain rfl : PV.eptr e off = q := by simpa using hq
               exact ⟨_, rfl, rfl, hk⟩
  | bptr k s off =>
    obtain rfl : [PV.bptr k s off] = cs := by simpa [PV.cells] using hp
    have hk : KR g w ob (.bptr k s off) v := .inr (h.ref_inv (by simp [PV.key, PV.key0]))
    rw [oneCell_cells (hk.oneCell rfl)]
    refine ⟨rfl, fun j q hq => ?_⟩
    match j, hq with
    | 0, hq => obtain rfl : PV.bptr k s off = q := by simpa using hq
               exact ⟨_, rfl, rfl, hk⟩
  | bld k s off len =>
    obtain rfl : [PV.bld k s off len] = cs := by simpa [PV.cells] using hp
    have hk : KR g w ob (.bld k s off len) v := .inr (h.ref_inv (by simp [PV.key, PV.key0]))
    rw [oneCell_cells (hk.oneCell rfl)]
    refine ⟨rfl, fun j q hq => ?_⟩
    match j, hq with
    | 0, hq => obtain rfl : PV.bld k s off len = q := by simpa using hq
               exact ⟨_, rfl, rfl, hk⟩
  | kptr k s i off =>
    obtain rfl : [PV.kptr k s i off] = cs := by simpa [PV.cells] using hp
    have hk : KR g w ob (.kptr k s i off) v := .inr (h.ref_inv (by simp [PV.key, PV.key0]))
    rw [oneCell_cells (hk.oneCell rfl)]
    refine ⟨rfl, fun j q hq => ?_⟩
    match j, hq with
    | 0, hq => obtain rfl : PV.kptr k s i off = q := by simpa using hq
               exact ⟨_, rfl, rfl, hk⟩
  | mref k s =>
    obtain rfl : [PV.mref k s] = cs := by simpa [PV.cells] using hp
    have hk : KR g w ob (.mref k s) v := .inr (h.ref_inv (by simp [PV.key, PV.key0]))
    rw [oneCell_cells (hk.oneCell rfl)]
    refine ⟨rfl, fun j q hq => ?_⟩
    match j, hq with
    | 0, hq => obtain rfl : PV.mref k s = q := by simpa using hq
               exact ⟨_, rfl, rfl, hk⟩
  | clo f caps =>
    obtain rfl : [PV.clo f caps] = cs := by simpa [PV.cells] using hp
    have hk : KR g w ob (.clo f caps) v := .inr h.clo_inv
    rw [oneCell_cells (hk.oneCell rfl)]
    refine ⟨rfl, fun j q hq => ?_⟩
    match j, hq with
    | 0, hq => obtain rfl : PV.clo f caps = q := by simpa using hq
               exact ⟨_, rfl, rfl, hk⟩
end
def constOk : Value → Bool
  | .agg cs => cs.toList.all scalarV
  | v => scalarV v
def opndOk : Operand → Bool
  | .const v => constOk v
  | _ => true
theorem FR.opnd {n B : Nat} {O : Nat → Prop} {gl : Gl} {ph : Gh × (Nat → Obj) × World × List Deferred} {g : Gh} {s : St} {a : Act} {w : World} (h : FR gl ph n B O g s a w) {x : Operand} (hx : opndOk x = true) : XR g w s.objs (evalIn s.env x) (a.eval x) := by
  cases x with
  | tmp t => exact h.env t
  | const v =>
    cases v with
    | agg cs =>
      refine .inr (.inl (.inl ?_))
      have hs : cs.toList.all scalarV = true := hx
      have e : (Value.agg cs) = Value.agg cs.toList.toArray := by simp
      show VR g.c w (PV.agg (cs.toList.map PV.sc)) (Value.agg cs)
      rw [e]
      refine .agg (by simp) (fun j p hj => ?_) (fun j p v hp hv => ?_)
      · simp only [List.getElem?_map, Option.map_eq_some_iff] at hj
        obtain ⟨v, hv, rfl⟩ := hj
        exact List.all_eq_true.1 hs v (List.mem_of_getElem? hv)
      · simp only [List.getElem?_map, Option.map_eq_some_iff] at hp
        obtain ⟨v', hv', rfl⟩ := hp
        rw [hv] at hv'
        cases hv'
        exact .sc (List.all_eq_true.1 hs v (List.mem_of_getElem? hv))
    | _ => exact .inr (.inl (.inl (.sc hx)))
  | global g' => exact .inl rfl
  | func f => exact .inr (.inl (.inl (.sc rfl)))
end Go.Hf
end
section
namespace Go.Hf
open Go.RowKit
def eqOp (neg : Bool) : BinOp := if neg then .neq else .eql
def ZeroOk (P : Program) (t : TypeId) (sz : Nat) (zero : List Value) : Prop :=
  ∃ i z, P.info? t = some i ∧ i.zero = some z ∧ z.cells.toList = zero ∧ i.size = sz ∧ zero.length = sz ∧ zero.all scalarV = true
def PartsOk (place : Nat → Option (Nat × Nat)) : List (Nat × Operand) → List (Nat × Nat × Operand) → Prop
  | [], [] => True
  | (i, x) :: r, (off, n, y) :: q => place i = some (off, n) ∧ x = y ∧ opndOk x = true ∧ PartsOk place r q
  | _, _ => False
def BuildOk (P : Program) (t : TypeId) (parts : List (Nat × Operand)) (ps : List (Nat × Nat × Operand)) : Prop :=
  (∃ fs : Array Field, P.underlying t = some (.struct fs) ∧ (∀ (k : Nat) (f : Field), fs[k]? = some f → (P.info? f.type).isSome = true) ∧
    PartsOk (fun k => (fs[k]?).bind fun f => (P.info? f.type).map fun i => (f.offset, i.size)) parts ps) ∨
  (∃ (n : Nat) (e : TypeId) (i : TypeInfo), P.underlying t = some (.array n e) ∧ P.info? e = some i ∧ PartsOk (fun k => some (k * i.size, i.size)) parts ps)
def keyD : Nat → TypeDesc → Bool
  | 0, .int _ => true
  | 1, .string => true
  | 2, .bool => true
  | _, _ => false
def Rs (P : Program) (o : Oper) : ROp → Prop
  | .mv x => (o.op = .move x ∨ o.op = .assign x) ∧ opndOk x = true
  | .pick c a b => o.op = .pick c a b ∧ opndOk c = true ∧ opndOk a = true ∧ opndOk b = true
  | .alloc t zero => o.op = .alloc t ∧ t < 65536 ∧ o.dst.isSome = true ∧ ∃ sz, ZeroOk P t sz zero
  | .box t x => o.op = .box t x ∧ t < 65536 ∧ o.dst.isSome = true ∧ opndOk x = true
  | .build zero ps => ∃ t parts sz, o.op = .build t parts ∧ ZeroOk P t sz zero ∧ BuildOk P t parts.toList ps
  | .bslice e sz zero len ps _ => ∃ t parts, o.op = .buildSlice t len parts ∧ o.dst.isSome = true ∧ P.underlying t = some (.slice e) ∧ ZeroOk P e sz zero ∧ parts.toList = ps ∧ 0 < sz ∧ len * sz ≤ 16777216 ∧ ps.all (fun p => opndOk p.2) = true
  | .load agg n x => ∃ t, o.op = .load t x ∧ TyOk P t agg n ∧ opndOk x = true
  | .store n x v => ∃ t agg, o.op = .store t x v ∧ TyOk P t agg n ∧ opndOk x = true ∧ opndOk v = true
  | .nilchk x => o.op = .nilCheck x ∧ opndOk x = true
  | .bin op x y => ∃ t yt, o.op = .binOp op t x y yt ∧ opndOk x = true ∧ opndOk y = true
  | .binb neg x y => ∃ t yt, o.op = .binOp (eqOp neg) t x y yt ∧ P.underlying t = some .bool ∧ opndOk x = true ∧ opndOk y = true
  | .eqs neg x y => ∃ t yt f1 f2, o.op = .binOp (eqOp neg) t x y yt ∧ P.underlying t = some (.struct #[f1, f2]) ∧ f1.name ≠ "_" ∧ f2.name ≠ "_" ∧ f1.offset = 0 ∧ f2.offset = 1 ∧
      P.underlying f1.type = some .string ∧ P.underlying f2.type = some .string ∧ P.stoodInHeld t = false ∧ P.eqGuardType P.depth t = false ∧ opndOk x = true ∧ opndOk y = true
  | .isnil neg x => ∃ t yt e, o.op = .binOp (eqOp neg) t x (.const (.slice none 0 0)) yt ∧ P.underlying t = some (.slice e) ∧ opndOk x = true
  | .un op x => ∃ t, o.op = .unOp op t x ∧ opndOk x = true
  | .cint k x => ∃ s t d, o.op = .convert s t x ∧ P.underlying s = some d ∧ P.underlying t = some (.int k) ∧ opndOk x = true
  | .b2s x => ∃ s t e, o.op = .convert s t x ∧ P.underlying s = some (.slice e) ∧ P.underlying e = some (.int .u8) ∧ P.underlying t = some .string ∧ opndOk x = true
  | .mkslice e sz bytes zero l c => ∃ t i, o.op = .makeSlice t l c ∧ o.dst.isSome = true ∧ P.underlying t = some (.slice e) ∧ ZeroOk P e sz zero ∧ P.info? e = some i ∧ i.bytes = bytes ∧ 0 < sz ∧ opndOk l = true ∧ opndOk c = true
  | .sslice x lo hi => ∃ t, o.op = .slice t x lo hi none ∧ P.underlying t = some .string ∧ opndOk x = true ∧ (optL lo ++ optL hi).all opndOk = true
  | .slc sz x lo hi => ∃ t e i, o.op = .slice t x lo hi none ∧ P.underlying t = some (.slice e) ∧ P.info? e = some i ∧ i.size = sz ∧ opndOk x = true ∧ (optL lo ++ optL hi).all opndOk = true
  | .faddr off x => ∃ t fs k f i, o.op = .fieldAddr t x k ∧ P.underlying t = some (.struct fs) ∧ fs[k]? = some f ∧ f.offset = off ∧ P.info? f.type = some i ∧ i.size ≠ 0 ∧ opndOk x = true
  | .fld agg off n x => ∃ t fs k f, o.op = .field t x k ∧ P.underlying t = some (.struct fs) ∧ fs[k]? = some f ∧ f.offset = off ∧ TyOk P f.type agg n ∧ opndOk x = true
  | .iaddr sz x i => ∃ t e inf, o.op = .indexAddr t x i ∧ P.underlying t = some (.slice e) ∧ P.info? e = some inf ∧ inf.size = sz ∧ opndOk x = true ∧ opndOk i = true
  | .sidx x i => ∃ t, o.op = .index t x i ∧ P.underlying t = some .string ∧ opndOk x = true ∧ opndOk i = true
  | .ext x i => o.op = .extract x i ∧ opndOk x = true
  | .len isStr x => ∃ t, o.op = .call { callee := .builtin .len, args := #[x], argTypes := #[t] } ∧ (if isStr then P.underlying t = some .string else ∃ e, P.underlying t = some (.slice e)) ∧ opndOk x = true
  | .append e sz bytes s x _ => ∃ t i, o.op = .call { callee := .builtin .append, args := #[s, x], argTypes := #[t, t] } ∧ o.dst.isSome = true ∧ P.underlying t = some (.slice e) ∧ P.info? e = some i ∧ i.bytes = bytes ∧
      (∃ z, i.zero = some z ∧ z.cells.size = sz) ∧ i.size = sz ∧ 0 < sz ∧ opndOk s = true ∧ opndOk x = true
  | .mx isMax x y => ∃ ts, o.op = .call { callee := .builtin (if isMax then .max else .min), args := #[x, y], argTypes := ts } ∧ opndOk x = true ∧ opndOk y = true
  | .call f args => ∃ ts, o.op = .call { callee := .value f, args := args.toArray, argTypes := ts } ∧ opndOk f = true ∧ args.all opndOk = true
  | .hcall f args _ => ∃ ts, o.op = .call { callee := .value f, args := args.toArray, argTypes := ts } ∧ opndOk f = true ∧ args.all opndOk = true
  | .sh op x y => ∃ t yt, o.op = .binOp op t x y yt ∧ opndOk x = true ∧ opndOk y = true
  | .bits op x y => ∃ t yt, o.op = .binOp op t x y yt ∧ opndOk x = true ∧ opndOk y = true
  | .mkfun f caps => o.op = .makeFunc (.func f) #[] caps.toArray ∧ caps.all opndOk = true
  | .mkmap => ∃ t, o.op = .makeMap t none ∧ o.dst.isSome = true
  | .mput kd m k v => ∃ t kt et d, (o.op = .mapUpdate t m k v ∨ o.op = .insert t m k v) ∧ P.underlying t = some (.map kt et) ∧ P.underlying kt = some d ∧ keyD kd d = true ∧ opndOk m = true ∧ opndOk k = true ∧ opndOk v = true
  | .mget kd ok zero m k => ∃ t kt et d i, o.op = .lookup t m k ok ∧ P.underlying t = some (.map kt et) ∧ P.underlying kt = some d ∧ keyD kd d = true ∧ P.info? et = some i ∧ i.zero = some zero ∧ scalarV zero = true ∧ opndOk m = true ∧ opndOk k = true
  | .apps e bytes s x _ => ∃ t t' i z, o.op = .call { callee := .builtin .append, args := #[s, x], argTypes := #[t, t'] } ∧ o.dst.isSome = true ∧ P.underlying t = some (.slice e) ∧ P.underlying t' = some .string ∧ P.info? e = some i ∧ i.bytes = bytes ∧
      i.zero = some z ∧ z.cells.size = 1 ∧ i.size = 1 ∧ opndOk s = true ∧ opndOk x = true
  | .appz e sz bytes zero s x _ => ∃ t t' i k, o.op = .call { callee := .builtin .append, args := #[s, x], argTypes := #[t, t'] } ∧ o.dst.isSome = true ∧ P.underlying t = some (.slice e) ∧ P.underlying t' = some (.int k) ∧ P.info? e = some i ∧ i.bytes = bytes ∧
      ZeroOk P e sz zero ∧ 0 < sz ∧ opndOk s = true ∧ opndOk x = true
  | .cap0 x => ∃ t e, o.op = .call { callee := .builtin .cap, args := #[x], argTypes := #[t] } ∧ P.underlying t = some (.slice e) ∧ opndOk x = true
  | .clr e sz zero x => ∃ t, o.op = .call { callee := .builtin .clear, args := #[x], argTypes := #[t] } ∧ P.underlying t = some (.slice e) ∧ ZeroOk P e sz zero ∧ 0 < sz ∧ opndOk x = true
  | .aaddr n sz x i => ∃ t e inf, o.op = .indexAddr t x i ∧ P.underlying t = some (.array n e) ∧ P.info? e = some inf ∧ inf.size = sz ∧ opndOk x = true ∧ opndOk i = true
  | .aslc n x => ∃ t e inf, o.op = .slice t x none none none ∧ P.underlying t = some (.array n e) ∧ P.info? e = some inf ∧ inf.size = 1 ∧ opndOk x = true
  | .bad => True
structure PB (B : Nat) (O : Nat → Prop) (c : Nat → Nat) (w : World) (c' : Nat → Nat) (w' : World) : Prop where
  os : w'.os = w.os
  tape : w'.tape = w.tape
  output : w'.output = w.output
  size : w.heap.size ≤ w'.heap.size
  block : ∀ b, b < B → ¬ O b → w'.heap[b]? = w.heap[b]?
  c : ∀ b, b < B → ¬ O b → c' b = c b
theorem PB.refl (B : Nat) (O : Nat → Prop) (c : Nat → Nat) (w : World) : PB B O c w c w := ⟨rfl, rfl, rfl, Nat.le_refl _, fun _ _ _ => rfl, fun _ _ _ => rfl⟩
theorem PB.trans {B : Nat} {O : Nat → Prop} {c c' c'' : Nat → Nat} {w w' w'' : World} (h : PB B O c w c' w') (k : PB B O c' w' c'' w'') : PB B O c w c'' w'' :=
  ⟨k.os.trans h.os, k.tape.trans h.tape, k.output.trans h.output, Nat.le_trans h.size k.size, fun b hb ho => (k.block b hb ho).trans (h.block b hb ho), fun b hb ho => (k.c b hb ho).trans (h.c b hb ho)⟩
section
variable {P : Program} {n B bs : Nat} {O : Nat → Prop} {gl : Gl} {ph : Gh × (Nat → Obj) × World × List Deferred} {g : Gh} {s : St} {a : Act} {w : World} {o : Oper} {K : Act → World → Prop} {Q : Exit → Act → World → Prop}
def Owed (gl : Gl) (ph : Gh × (Nat → Obj) × World × List Deferred) (n B : Nat) (O : Nat → Prop) (g : Gh) (w : World) (s' : St) (K : Act → World → Prop) : Prop :=
  ∀ g' a' w', FR gl ph n B O g' s' a' w' → PB B O g.c w g'.c w' → K a' w'
theorem sim_val (h : FR gl ph n B O g s a w) (hd : ∀ t, o.dst = some t → t < n) {p : PV} {v : Value} (hr : (execOp a.eval o).run P w = .ok (.value v) w) (hv : XR g w s.objs p v)
    (hk : Owed gl ph n B O g w ⟨put s.env o.dst p, s.objs⟩ K) : o.wp P a w K Q :=
  wp_value hr (hk g _ w (h.put o.dst hd hv) (PB.refl _ _ _ _))
theorem XR.sc {g : Gh} {w : World} {ob : Nat → Obj} {v : Value} (h : scalarV v = true) : XR g w ob (.sc v) v := .inr (.inl (.inl (.sc h)))
theorem sbin_scalar {op : BinOp} {x y v : Value} (h : sbin op x y = some v) : scalarV v = true := by
  unfold sbin at h
  split at h
  · split at h
    · split at h <;> (try split at h) <;> first | (cases h; done) | (cases h; rfl) | (simp at h)
    · simp at h
  · split at h <;> (try split at h) <;> first | (cases h; done) | (cases h; rfl) | (simp at h)
  · simp at h
theorem run_sbin (op : BinOp) (t : TypeId) (xo yo : Operand) (x y v : Value) (h : sbin op x y = some v) :
    (do eqGuard op t xo yo x y; binOp op t x y : Sem Value).run P w = .ok v w := by
  unfold sbin at h
  split at h
  · rename_i k a k' b
    split at h
    · rename_i hk
      subst hk
      split at h <;> (try split at h) <;> first | (cases h; done) | (cases h; simp [eqGuard, binOp, Op.intArith, Op.intDiv, Op.intCmp, *]) | (simp at h)
    · simp at h
  · split at h <;> (try split at h) <;> first | (cases h; done) | (cases h; simp [eqGuard, binOp, Op.stringOp, *]; done) | (cases h; simp [eqGuard, binOp, Op.stringOp]; rename_i hh; simp at hh; omega) | (simp at h)
  · simp at h
theorem sim_mv {x : Operand} (h : FR gl ph n B O g s a w) (hd : ∀ t, o.dst = some t → t < n) (hr : Rs P o (.mv x)) (hk : Owed gl ph n B O g w ⟨put s.env o.dst (evalIn s.env x), s.objs⟩ K) : o.wp P a w K Q := by
  obtain ⟨ho, hx⟩ := hr
  refine sim_val h hd (v := a.eval x) ?_ (h.opnd hx) hk
  rcases ho with ho | ho <;> simp only [execOp, ho] <;> rfl
theorem sim_pick {c x y : Operand} {p : PV} (h : FR gl ph n B O g s a w) (hd : ∀ t, o.dst = some t → t < n) (hr : Rs P o (.pick c x y))
    (hp : pop (evalIn s.env) s.objs (bs + o.dst.getD 0) (.pick c x y) = some (p, [])) (hk : Owed gl ph n B O g w ⟨put s.env o.dst p, s.objs⟩ K) : o.wp P a w K Q := by
  obtain ⟨ho, hc, hx, hy⟩ := hr
  have e := h.opnd hc
  simp only [pop] at hp
  split at hp
  · rename_i hev
    rw [hev] at e
    have e1 := e.sc_inv.1
    cases hp
    refine sim_val h hd (v := a.eval x) ?_ (h.opnd hx) hk
    simp only [execOp, ho, e1, asBool, Sem.run_bind, Sem.run_pure, Result.andThen_ok, if_true]
  · rename_i hev
    rw [hev] at e
    have e1 := e.sc_inv.1
    cases hp
    refine sim_val h hd (v := a.eval y) ?_ (h.opnd hy) hk
    simp only [execOp, ho, e1, asBool, Sem.run_bind, Sem.run_pure, Result.andThen_ok, Bool.false_eq_true, if_false]
  · simp at hp
theorem sim_bin {op : BinOp} {x y : Operand} {p : PV} {us : List (Nat × Obj)} (h : FR gl ph n B O g s a w) (hd : ∀ t, o.dst = some t → t < n) (hr : Rs P o (.bin op x y))
    (hp : pop (evalIn s.env) s.objs (bs + o.dst.getD 0) (.bin op x y) = some (p, us)) (hk : Owed gl ph n B O g w ⟨put s.env o.dst p, updAll s.objs us⟩ K) : o.wp P a w K Q := by
  obtain ⟨t, yt, ho, hx, hy⟩ := hr
  have ex := h.opnd hx
  have ey := h.opnd hy
  simp only [pop] at hp
  split at hp
  · rename_i u v hu hv
    rw [hu] at ex
    rw [hv] at ey
    cases hs : sbin op u v with
    | none => simp [hs] at hp
    | some z =>
      simp only [hs, Option.map_some, Option.some.injEq, Prod.mk.injEq] at hp
      obtain ⟨rfl, rfl⟩ := hp
      refine sim_val h hd (v := z) ?_ (.sc (sbin_scalar hs)) hk
      simp only [execOp, ho, ex.sc_inv.1, ey.sc_inv.1]
      have := run_sbin (P := P) (w := w) op t x y u v z hs
      simp only [Sem.run_bind] at this ⊢
      rw [this]; rfl
  · simp at hp
theorem sim_sh {op : BinOp} {x y : Operand} {p : PV} {us : List (Nat × Obj)} (h : FR gl ph n B O g s a w) (hd : ∀ t, o.dst = some t → t < n) (hr : Rs P o (.sh op x y))
    (hp : pop (evalIn s.env) s.objs (bs + o.dst.getD 0) (.sh op x y) = some (p, us)) (hk : Owed gl ph n B O g w ⟨put s.env o.dst p, updAll s.objs us⟩ K) : o.wp P a w K Q := by
  obtain ⟨t, yt, ho, hx, hy⟩ := hr
  have ex := h.opnd hx
  have ey := h.opnd hy
  simp only [pop] at hp
  split at hp
  · rename_i u v hu hv
    rw [hu] at ex
    rw [hv] at ey
    cases hs : sshift op u v with
    | none => simp [hs] at hp
    | some z =>
      simp only [hs, Option.map_some, Option.some.injEq, Prod.mk.injEq] at hp
      obtain ⟨rfl, rfl⟩ := hp
      have hz : scalarV z = true ∧ (do eqGuard op t x y u v; binOp op t u v : Sem Value).run P w = .ok z w := by
        unfold sshift at hs
        split at hs
        · split at hs
          · simp at hs
          · split at hs
            · cases hs; exact ⟨rfl, by simp [eqGuard, binOp, Op.shift, *]⟩
            · cases hs; exact ⟨rfl, by simp [eqGuard, binOp, Op.shift, *]⟩
            · simp at hs
        · simp at hs
      refine sim_val h hd (v := z) ?_ (.sc hz.1) hk
      simp only [execOp, ho, ex.sc_inv.1, ey.sc_inv.1]
      have := hz.2
      simp only [Sem.run_bind] at this ⊢
      rw [this]; rfl
  · simp at hp
theorem sim_bits {op : BinOp} {x y : Operand} {p : PV} {us : List (Nat × Obj)} (h : FR gl ph n B O g s a w) (hd : ∀ t, o.dst = some t → t < n) (hr : Rs P o (.bits op x y))
    (hp : pop (evalIn s.env) s.objs (bs + o.dst.getD 0) (.bits op x y) = some (p, us)) (hk : Owed gl ph n B O g w ⟨put s.env o.dst p, updAll s.objs us⟩ K) : o.wp P a w K Q := by
  obtain ⟨t, yt, ho, hx, hy⟩ := hr
  have ex := h.opnd hx
  have ey := h.opnd hy
  simp only [pop] at hp
  split at hp
  · rename_i u v hu hv
    rw [hu] at ex
    rw [hv] at ey
    cases hs : sbits op u v with
    | none => simp [hs] at hp
    | some z =>
      simp only [hs, Option.map_some, Option.some.injEq, Prod.mk.injEq] at hp
      obtain ⟨rfl, rfl⟩ := hp
      have hz : scalarV z = true ∧ (do eqGuard op t x y u v; binOp op t u v : Sem Value).run P w = .ok z w := by
        unfold sbits at hs
        split at hs
        · split at hs
          · rename_i hkk
            subst hkk
            split at hs <;> first | (cases hs; exact ⟨rfl, by simp [eqGuard, binOp, Op.intBits]⟩) | (simp at hs)
          · simp at hs
        · simp at hs
      refine sim_val h hd (v := z) ?_ (.sc hz.1) hk
      simp only [execOp, ho, ex.sc_inv.1, ey.sc_inv.1]
      have := hz.2
      simp only [Sem.run_bind] at this ⊢
      rw [this]; rfl
  · simp at hp
theorem sim_binb {neg : Bool} {x y : Operand} {p : PV} {us : List (Nat × Obj)} (h : FR gl ph n B O g s a w) (hd : ∀ t, o.dst = some t → t < n) (hr : Rs P o (.binb neg x y))
    (hp : pop (evalIn s.env) s.objs (bs + o.dst.getD 0) (.binb neg x y) = some (p, us)) (hk : Owed gl ph n B O g w ⟨put s.env o.dst p, updAll s.objs us⟩ K) : o.wp P a w K Q := by
  obtain ⟨t, yt, ho, ht, hx, hy⟩ := hr
  have ex := h.opnd hx
  have ey := h.opnd hy
  simp only [pop] at hp
  split at hp
  · rename_i u v hu hv
    rw [hu] at ex
    rw [hv] at ey
    cases hp
    refine sim_val h hd (v := .bool (xor neg (u == v))) ?_ (.sc rfl) hk
    cases neg
    · simp only [eqOp, Bool.false_eq_true, if_false] at ho
      simp only [execOp, ho, ex.sc_inv.1, ey.sc_inv.1, eqGuard, Sem.run_bind, Sem.run_pure]
      simp
      rw [run_eql_bool w t u v ht]; rfl
    · simp only [eqOp, if_true] at ho
      simp only [execOp, ho, ex.sc_inv.1, ey.sc_inv.1, eqGuard, Sem.run_bind, Sem.run_pure]
      simp
      rw [run_neq_bool w t u v ht]; rfl
  · simp at hp
theorem sim_un {op : UnOp} {x : Operand} {p : PV} {us : List (Nat × Obj)} (h : FR gl ph n B O g s a w) (hd : ∀ t, o.dst = some t → t < n) (hr : Rs P o (.un op x))
    (hp : pop (evalIn s.env) s.objs (bs + o.dst.getD 0) (.un op x) = some (p, us)) (hk : Owed gl ph n B O g w ⟨put s.env o.dst p, updAll s.objs us⟩ K) : o.wp P a w K Q := by
  obtain ⟨t, ho, hx⟩ := hr
  have ex := h.opnd hx
  simp only [pop] at hp
  split at hp
  · rename_i u hu
    rw [hu] at ex
    cases hs : sun op u with
    | none => simp [hs] at hp
    | some z =>
      simp only [hs, Option.map_some, Option.some.injEq, Prod.mk.injEq] at hp
      obtain ⟨rfl, rfl⟩ := hp
      have hz : scalarV z = true ∧ (Op.unary op u).run P w = .ok z w := by
        unfold sun at hs
        split at hs
        · split at hs
          · cases hs; exact ⟨rfl, by simp [Op.unary]⟩
          · simp at hs
        · split at hs
          · cases hs; exact ⟨rfl, by simp [Op.unary, Op.intArith]⟩
          · simp at hs
        · simp at hs
      refine sim_val h hd (v := z) ?_ (.sc hz.1) hk
      simp only [execOp, ho, ex.sc_inv.1, Sem.run_bind, hz.2, Result.andThen_ok, Sem.run_pure]
  · simp at hp
theorem sim_cint {k : IntKind} {x : Operand} {p : PV} {us : List (Nat × Obj)} (h : FR gl ph n B O g s a w) (hd : ∀ t, o.dst = some t → t < n) (hr : Rs P o (.cint k x))
    (hp : pop (evalIn s.env) s.objs (bs + o.dst.getD 0) (.cint k x) = some (p, us)) (hk : Owed gl ph n B O g w ⟨put s.env o.dst p, updAll s.objs us⟩ K) : o.wp P a w K Q := by
  obtain ⟨t1, t2, d, ho, h1, h2, hx⟩ := hr
  have ex := h.opnd hx
  simp only [pop] at hp
  split at hp
  · rename_i k' m hu
    rw [hu] at ex
    cases hp
    refine sim_val h hd (v := .int k (k.wrap m)) ?_ (.sc rfl) hk
    simp only [execOp, ho, ex.sc_inv.1, convert, Sem.run_bind, run_underlying h1, run_underlying h2, Result.andThen_ok, Conv.intToInt, Sem.run_pure]
  · simp at hp
theorem sim_ext {i : Nat} {x : Operand} {p : PV} {us : List (Nat × Obj)} (h : FR gl ph n B O g s a w) (hd : ∀ t, o.dst = some t → t < n) (hr : Rs P o (.ext x i))
    (hp : pop (evalIn s.env) s.objs (bs + o.dst.getD 0) (.ext x i) = some (p, us)) (hk : Owed gl ph n B O g w ⟨put s.env o.dst p, updAll s.objs us⟩ K) : o.wp P a w K Q := by
  obtain ⟨ho, hx⟩ := hr
  have ex := h.opnd hx
  simp only [pop] at hp
  split at hp
  · rename_i vs hu
    rw [hu] at ex
    cases hq : vs[i]? with
    | none => simp [hq] at hp
    | some q =>
      simp only [hq, Option.map_some, Option.some.injEq, Prod.mk.injEq] at hp
      obtain ⟨rfl, rfl⟩ := hp
      obtain ⟨us, e1, e2, e3⟩ := ex.tup_inv
      have hi : i < us.length := by have := (List.getElem?_eq_some_iff.1 hq).1; omega
      have hu' : us[i]? = some us[i] := List.getElem?_eq_getElem hi
      refine sim_val h hd (v := us[i]) ?_ ((e3 i q _ hq hu').elim (fun r => .inr (.inl r)) (fun r => .inr (.inr (.inl r)))) hk
      simp [execOp, ho, e1, Instr.extract, hi]
  · simp at hp
theorem sim_nilchk {x : Operand} {p : PV} {us : List (Nat × Obj)} (h : FR gl ph n B O g s a w) (hd : ∀ t, o.dst = some t → t < n) (hr : Rs P o (.nilchk x))
    (hp : pop (evalIn s.env) s.objs (bs + o.dst.getD 0) (.nilchk x) = some (p, us)) (hk : Owed gl ph n B O g w ⟨put s.env o.dst p, updAll s.objs us⟩ K) : o.wp P a w K Q := by
  obtain ⟨ho, hx⟩ := hr
  have ex := h.opnd hx
  simp only [pop] at hp
  have key : ∀ ad : Addr, a.eval x = .pointer (some ad) → (execOp a.eval o).run P w = .ok (.value (a.eval x)) w := by
    intro ad e; simp only [execOp, ho, e]; rfl
  split at hp
  · rename_i k st off hu
    rw [hu] at ex
    cases hp
    obtain ⟨_, ad, e, _⟩ := ex.ref_inv (by simp [PV.key, PV.key0])
    exact sim_val h hd (key ad e) ex hk
  · rename_i k st i off hu
    rw [hu] at ex
    cases hp
    obtain ⟨_, ad, e, _⟩ := ex.ref_inv (by simp [PV.key, PV.key0])
    exact sim_val h hd (key ad e) ex hk
  · rename_i cs off hu
    rw [hu] at ex
    cases hp
    have e := ex.eptr_inv
    cases he : a.eval x with
    | pointer q =>
      rw [he] at e
      cases e
      exact sim_val h hd (key _ he) ex hk
    | _ => rw [he] at e; cases e
  · simp at hp
theorem sim_len {isStr : Bool} {x : Operand} {p : PV} {us : List (Nat × Obj)} (h : FR gl ph n B O g s a w) (hd : ∀ t, o.dst = some t → t < n) (hr : Rs P o (.len isStr x))
    (hp : pop (evalIn s.env) s.objs (bs + o.dst.getD 0) (.len isStr x) = some (p, us)) (hk : Owed gl ph n B O g w ⟨put s.env o.dst p, updAll s.objs us⟩ K) : o.wp P a w K Q := by
  obtain ⟨t, ho, ht, hx⟩ := hr
  have ex := h.opnd hx
  have key : ∀ (l : Nat), (Builtin.len_ #[t] o.type #[a.eval x]).run P w = .ok (goInt l) w → (execOp a.eval o).run P w = .ok (.value (.int .i64 l)) w := by
    intro l hl
    simp only [execOp, ho, resolve, invoke, builtin, Sem.run_bind, Sem.run_pure, Result.andThen_ok, List.map_toArray, List.map_cons, List.map_nil, hl]; rfl
  simp only [pop] at hp
  split at hp
  · rename_i u hu
    simp only [if_true] at ht
    rw [hu] at ex
    cases hp
    refine sim_val h hd (key _ ?_) (.sc rfl) hk
    rw [ex.sc_inv.1]; exact run_len_string w t _ u ht
  · rename_i hu
    simp only [Bool.false_eq_true, if_false] at ht
    obtain ⟨e, ht⟩ := ht
    rw [hu] at ex
    cases hp
    refine sim_val h hd (key 0 ?_) (.sc rfl) hk
    rw [ex.sc_inv.1]; simp [Builtin.len_, run_underlying ht]
  · rename_i sz es hu
    simp only [Bool.false_eq_true, if_false] at ht
    obtain ⟨e, ht⟩ := ht
    rw [hu] at ex
    cases hp
    have e1 := ex.lst_inv
    refine sim_val h hd (key _ ?_) (.sc rfl) hk
    cases he : a.eval x with
    | slice q l c =>
      rw [he] at e1
      cases e1
      simp [Builtin.len_, run_underlying ht]
    | _ => rw [he] at e1; cases e1
  · rename_i k st off len hu
    simp only [Bool.false_eq_true, if_false] at ht
    obtain ⟨e, ht⟩ := ht
    rw [hu] at ex
    cases hp
    obtain ⟨_, b, o', cap, e1, _⟩ := ex.ref_inv (by simp [PV.key, PV.key0])
    refine sim_val h hd (key _ ?_) (.sc rfl) hk
    rw [e1]; simp [Builtin.len_, run_underlying ht]
  · simp at hp
theorem sim_mx {isMax : Bool} {x y : Operand} {p : PV} {us : List (Nat × Obj)} (h : FR gl ph n B O g s a w) (hd : ∀ t, o.dst = some t → t < n) (hr : Rs P o (.mx isMax x y))
    (hp : pop (evalIn s.env) s.objs (bs + o.dst.getD 0) (.mx isMax x y) = some (p, us)) (hk : Owed gl ph n B O g w ⟨put s.env o.dst p, updAll s.objs us⟩ K) : o.wp P a w K Q := by
  obtain ⟨ts, ho, hx, hy⟩ := hr
  have ex := h.opnd hx
  have ey := h.opnd hy
  simp only [pop] at hp
  split at hp
  · rename_i k u k' v hu hv
    rw [hu] at ex
    rw [hv] at ey
    split at hp
    · rename_i hkk
      cases hp
      refine sim_val h hd (v := .int k (if isMax then (if v > u then v else u) else (if v < u then v else u))) ?_ (.sc rfl) hk
      cases isMax
      · simp only [Bool.false_eq_true, if_false] at ho ⊢
        simp only [execOp, ho, resolve, invoke, builtin, Sem.run_bind, Sem.run_pure, Result.andThen_ok, List.map_toArray, List.map_cons, List.map_nil, ex.sc_inv.1, ey.sc_inv.1, run_min_int2]
      · simp only [if_true] at ho ⊢
        simp only [execOp, ho, resolve, invoke, builtin, Sem.run_bind, Sem.run_pure, Result.andThen_ok, List.map_toArray, List.map_cons, List.map_nil, ex.sc_inv.1, ey.sc_inv.1, run_max_int2]
    · simp at hp
  · simp at hp
end
end Go.Hf
end

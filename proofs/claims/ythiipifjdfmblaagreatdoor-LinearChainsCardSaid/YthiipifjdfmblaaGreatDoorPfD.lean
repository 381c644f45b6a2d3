/- Pure frames, part C: how a pure frame stands for a frame of the machine and its memory ('FR'), and how that passes from one state to a later one. -/
import Derived.Test.YthiipifjdfmblaaGreatDoorPfB
set_option linter.unusedVariables false
set_option linter.unusedSimpArgs false
namespace Go.Pf
open Go.RowKit

/-- What is known of the memory beside it: how much of each block stays; each object's block and capacity. -/
structure Gh where
  c : Nat → Nat
  blk : Nat → Nat
  cap : Nat → Nat

def RefR (g : Gh) (ob : Nat → Obj) : PV → Value → Prop
  | .bptr k s off, v => s ≤ (ob k).stamp ∧ ∃ a, v = .pointer (some a) ∧ ∀ cs, ob k = .box s cs → a = ⟨g.blk k, off, none⟩
  | .kptr k s i off, v => s ≤ (ob k).stamp ∧ ∃ a, v = .pointer (some a) ∧ ∀ e sz es raw, ob k = .bld s e sz es raw → a = ⟨g.blk k, i * sz + off, none⟩
  | .bld k s off len, v => s ≤ (ob k).stamp ∧ ∃ b o cap, v = .slice (some ⟨b, o, none⟩) len cap ∧ len ≤ cap ∧ cap ≤ maxLen ∧
      ∀ e sz es raw, ob k = .bld s e sz es raw → off + len ≤ es.length ∧ b = g.blk k ∧ (0 < len ∨ off = 0 → o = off * sz) ∧ (off = 0 → cap = g.cap k)
  | _, _ => False

def KR (g : Gh) (w : World) (ob : Nat → Obj) (p : PV) (v : Value) : Prop := VR g.c w p v ∨ RefR g ob p v

def XR (g : Gh) (w : World) (ob : Nat → Obj) (p : PV) (v : Value) : Prop :=
  p = .undef ∨ KR g w ob p v ∨
  (∃ (cs : List PV) (vs : List Value), p = .agg cs ∧ v = .agg vs.toArray ∧ cs.length = vs.length ∧ ∀ (j : Nat) (q : PV) (u : Value), cs[j]? = some q → vs[j]? = some u → q.isCell = true ∧ KR g w ob q u) ∨
  (∃ (ps : List PV) (vs : List Value), p = .tup ps ∧ v = .tuple vs.toArray ∧ ps.length = vs.length ∧ ∀ (j : Nat) (q : PV) (u : Value), ps[j]? = some q → vs[j]? = some u → KR g w ob q u)

def Obj.live : Obj → Prop
  | .no _ => False
  | _ => True

def ObjR (g : Gh) (w : World) (ob : Nat → Obj) (k : Nat) : Obj → Prop
  | .no _ => True
  | .box _ cs => ∃ (arr : Array Value) (T : Nat), w.heap[g.blk k]? = some (.cells arr T (0, 0)) ∧ arr.size = cs.length ∧ g.c (g.blk k) = 0 ∧
      ∀ (j : Nat) (q : PV), cs[j]? = some q → ∃ u, arr[j]? = some u ∧ q.isCell = true ∧ KR g w ob q u
  | .bld _ e sz es raw => ∃ arr : Array Value, w.heap[g.blk k]? = some (.cells arr e (0, 0)) ∧ arr.size = g.cap k * sz ∧ es.length ≤ g.cap k ∧ g.cap k ≤ maxLen ∧
      (∀ (i : Nat) (cs : List PV), es[i]? = some cs → cs.length = sz) ∧
      (∀ (i j : Nat) (cs : List PV) (p : PV), es[i]? = some cs → cs[j]? = some p → ∃ u, arr[i * sz + j]? = some u ∧ p.isCell = true ∧ VR g.c w p u) ∧
      (raw = true → g.c (g.blk k) = 0) ∧ g.c (g.blk k) ≤ es.length * sz

structure FR (gl : Gl) (ph : Option (Nat × Value)) (n B : Nat) (O : Option Nat) (g : Gh) (s : St) (a : Act) (w : World) : Prop where
  size : a.tmps.size = n
  defers : a.defers = []
  base : B ≤ w.heap.size
  env : ∀ i, XR g w s.objs (s.env i) (a.tmps.getD i undef)
  obj : ∀ k, ObjR g w s.objs k (s.objs k)
  inj : ∀ k k', (s.objs k).live → (s.objs k').live → g.blk k = g.blk k' → k = k'
  fresh : ∀ k, (s.objs k).live → (B ≤ g.blk k ∨ O = some (g.blk k)) ∧ g.blk k < w.heap.size
  home : ∀ l v, ph = some (l, v) → RefR g s.objs (.bld 0 0 0 l) v
  glob : gl.p g.c w

/-- The objects pass on: a name that was good stays good, or is stale. -/
def ObStep (g : Gh) (ob : Nat → Obj) (g' : Gh) (ob' : Nat → Obj) : Prop :=
  ∀ k, (ob k).stamp ≤ (ob' k).stamp ∧
    (∀ cs, ob' k = .box (ob k).stamp cs → (∃ cs0, ob k = .box (ob k).stamp cs0) ∧ g'.blk k = g.blk k) ∧
    (∀ e sz es raw, ob' k = .bld (ob k).stamp e sz es raw → (∃ es0 raw0, ob k = .bld (ob k).stamp e sz es0 raw0 ∧ es0.length ≤ es.length) ∧ g'.blk k = g.blk k ∧ g'.cap k = g.cap k)

theorem RefR.step {g g' : Gh} {ob ob' : Nat → Obj} (h : ObStep g ob g' ob') {p : PV} {v : Value} (r : RefR g ob p v) : RefR g' ob' p v := by
  cases p with
  | bptr k s off =>
    obtain ⟨hs, a, rfl, ha⟩ := r
    obtain ⟨h1, h2, _⟩ := h k
    refine ⟨Nat.le_trans hs h1, a, rfl, fun cs hc => ?_⟩
    have e1 : (ob' k).stamp = s := by rw [hc]; rfl
    have e2 : s = (ob k).stamp := by omega
    obtain ⟨⟨cs0, hc0⟩, hb⟩ := h2 cs (by rw [← e2]; exact hc)
    rw [hb]; exact ha cs0 (by rw [e2]; exact hc0)
  | kptr k s i off =>
    obtain ⟨hs, a, rfl, ha⟩ := r
    obtain ⟨h1, _, h2⟩ := h k
    refine ⟨Nat.le_trans hs h1, a, rfl, fun e sz es raw hc => ?_⟩
    have e1 : (ob' k).stamp = s := by rw [hc]; rfl
    have e2 : s = (ob k).stamp := by omega
    obtain ⟨⟨es0, raw0, hc0, _⟩, hb, _⟩ := h2 e sz es raw (by rw [← e2]; exact hc)
    rw [hb]; exact ha e sz es0 raw0 (by rw [e2]; exact hc0)
  | bld k s off len =>
    obtain ⟨hs, b, o, cap, rfl, hl, hm, ha⟩ := r
    obtain ⟨h1, _, h2⟩ := h k
    refine ⟨Nat.le_trans hs h1, b, o, cap, rfl, hl, hm, fun e sz es raw hc => ?_⟩
    have e1 : (ob' k).stamp = s := by rw [hc]; rfl
    have e2 : s = (ob k).stamp := by omega
    obtain ⟨⟨es0, raw0, hc0, hle⟩, hb, hcp⟩ := h2 e sz es raw (by rw [← e2]; exact hc)
    obtain ⟨r1, r2, r3, r4⟩ := ha e sz es0 raw0 (by rw [e2]; exact hc0)
    exact ⟨by omega, by rw [hb]; exact r2, r3, by rw [hcp]; exact r4⟩
  | _ => exact r.elim

theorem KR.step {g g' : Gh} {w w' : World} {ob ob' : Nat → Obj} (hE : Ext g.c w g'.c w') (h : ObStep g ob g' ob') {p : PV} {v : Value} (r : KR g w ob p v) : KR g' w' ob' p v :=
  r.imp (VR.mono hE) (RefR.step h)

theorem XR.step {g g' : Gh} {w w' : World} {ob ob' : Nat → Obj} (hE : Ext g.c w g'.c w') (h : ObStep g ob g' ob') {p : PV} {v : Value} (r : XR g w ob p v) : XR g' w' ob' p v := by
  rcases r with r | r | ⟨cs, vs, r1, r2, r3, r4⟩ | ⟨cs, vs, r1, r2, r3, r4⟩
  · exact .inl r
  · exact .inr (.inl (r.step hE h))
  · exact .inr (.inr (.inl ⟨cs, vs, r1, r2, r3, fun j q u hq hu => ⟨(r4 j q u hq hu).1, (r4 j q u hq hu).2.step hE h⟩⟩))
  · exact .inr (.inr (.inr ⟨cs, vs, r1, r2, r3, fun j q u hq hu => (r4 j q u hq hu).step hE h⟩))

theorem ObStep.refl (g : Gh) (ob : Nat → Obj) : ObStep g ob g ob :=
  fun _ => ⟨Nat.le_refl _, fun cs h => ⟨⟨cs, h⟩, rfl⟩, fun _ _ es raw h => ⟨⟨es, raw, h, Nat.le_refl _⟩, rfl, rfl⟩⟩

theorem ObStep.trans {g g' g'' : Gh} {ob ob' ob'' : Nat → Obj} (h : ObStep g ob g' ob') (h' : ObStep g' ob' g'' ob'') : ObStep g ob g'' ob'' := by
  intro k
  obtain ⟨a1, a2, a3⟩ := h k
  obtain ⟨b1, b2, b3⟩ := h' k
  refine ⟨Nat.le_trans a1 b1, fun cs hc => ?_, fun e sz es raw hc => ?_⟩
  · have e1 : (ob'' k).stamp = (ob k).stamp := by rw [hc]; rfl
    have e2 : (ob' k).stamp = (ob k).stamp := by omega
    obtain ⟨⟨c0, hc0⟩, hb⟩ := b2 cs (by rw [e2]; exact hc)
    obtain ⟨hx, hb'⟩ := a2 c0 (by rw [← e2]; exact hc0)
    exact ⟨hx, hb.trans hb'⟩
  · have e1 : (ob'' k).stamp = (ob k).stamp := by rw [hc]; rfl
    have e2 : (ob' k).stamp = (ob k).stamp := by omega
    obtain ⟨⟨c0, r0, hc0, hl⟩, hb, hcp⟩ := b3 e sz es raw (by rw [e2]; exact hc)
    obtain ⟨⟨c1, r1, hc1, hl1⟩, hb', hcp'⟩ := a3 e sz c0 r0 (by rw [← e2]; exact hc0)
    exact ⟨⟨c1, r1, hc1, by omega⟩, hb.trans hb', hcp.trans hcp'⟩

/-- An object that has not turned. -/
theorem ObjR.keep {g g' : Gh} {w w' : World} {ob ob' : Nat → Obj} {k : Nat} {o : Obj} (hE : Ext g.c w g'.c w') (h : ObStep g ob g' ob')
    (hb : o.live → g'.blk k = g.blk k ∧ g'.cap k = g.cap k ∧ g'.c (g.blk k) = g.c (g.blk k) ∧ w'.heap[g.blk k]? = w.heap[g.blk k]?) (r : ObjR g w ob k o) : ObjR g' w' ob' k o := by
  cases o with
  | no s => trivial
  | box s cs =>
    obtain ⟨h1, h2, h3, h4⟩ := hb trivial
    obtain ⟨arr, T, r1, r2, r3, r4⟩ := r
    refine ⟨arr, T, ?_, r2, ?_, fun j q hq => ?_⟩
    · rw [h1, h4]; exact r1
    · rw [h1, h3]; exact r3
    · obtain ⟨u, hu, hc, hk⟩ := r4 j q hq
      exact ⟨u, hu, hc, hk.step hE h⟩
  | bld s e sz es raw =>
    obtain ⟨h1, h2, h3, h4⟩ := hb trivial
    obtain ⟨arr, r1, r2, r3, r4, r5, r6, r7, r8⟩ := r
    refine ⟨arr, ?_, ?_, ?_, ?_, r5, fun i j cs p hi hj => ?_, ?_, ?_⟩
    · rw [h1, h4]; exact r1
    · rw [h2]; exact r2
    · rw [h2]; exact r3
    · rw [h2]; exact r4
    · obtain ⟨u, hu, hc, hk⟩ := r6 i j cs p hi hj
      exact ⟨u, hu, hc, hk.mono hE⟩
    · rw [h1, h3]; exact r7
    · rw [h1, h3]; exact r8

/-- The frame passes on, if those objects that turned ('ch') stand again. -/
theorem FR.pass {n B : Nat} {O : Option Nat} {gl : Gl} {ph : Option (Nat × Value)} {g g' : Gh} {s : St} {a : Act} {w w' : World} (h : FR gl ph n B O g s a w) (ob' : Nat → Obj) (ch : Nat → Prop) (hE : Ext g.c w g'.c w') (hS : ObStep g s.objs g' ob')
    (hsame : ∀ k, ¬ ch k → ob' k = s.objs k)
    (hk : ∀ k, ¬ ch k → (s.objs k).live → g'.blk k = g.blk k ∧ g'.cap k = g.cap k ∧ g'.c (g.blk k) = g.c (g.blk k) ∧ w'.heap[g.blk k]? = w.heap[g.blk k]?)
    (hn : ∀ k, ch k → (ob' k).live → ObjR g' w' ob' k (ob' k) ∧ (B ≤ g'.blk k ∨ O = some (g'.blk k)) ∧ g'.blk k < w'.heap.size ∧ ∀ k', k' ≠ k → (ob' k').live → g'.blk k' ≠ g'.blk k) :
    FR gl ph n B O g' ⟨s.env, ob'⟩ a w' := by
  refine ⟨h.size, h.defers, Nat.le_trans h.base hE.size, fun i => (h.env i).step hE hS, fun k => ?_, fun k k' hl hl' he => ?_, fun k hl => ?_, fun l v hv => (h.home l v hv).step hS, gl.mono hE h.glob⟩
  · rcases Classical.em (ch k) with e | e
    · rcases Classical.em (ob' k).live with hl | hl
      · exact (hn k e hl).1
      · show ObjR g' w' ob' k (ob' k)
        cases ho : ob' k <;> simp_all [Obj.live, ObjR]
    · show ObjR g' w' ob' k (ob' k)
      rw [hsame k e]; exact ObjR.keep hE hS (hk k e) (h.obj k)
  · by_cases hkk : k = k'
    · exact hkk
    rcases Classical.em (ch k) with e | e
    · exact absurd he.symm ((hn k e hl).2.2.2 k' (fun x => hkk x.symm) hl')
    · rcases Classical.em (ch k') with e' | e'
      · exact absurd he ((hn k' e' hl').2.2.2 k hkk hl)
      · have hl1 : (s.objs k).live := by rw [← hsame k e]; exact hl
        have hl2 : (s.objs k').live := by rw [← hsame k' e']; exact hl'
        have he' : g'.blk k = g'.blk k' := he
        rw [(hk k e hl1).1, (hk k' e' hl2).1] at he'
        exact h.inj k k' hl1 hl2 he'
  · rcases Classical.em (ch k) with e | e
    · exact ⟨(hn k e hl).2.1, (hn k e hl).2.2.1⟩
    · have hl1 : (s.objs k).live := by rw [← hsame k e]; exact hl
      show (B ≤ g'.blk k ∨ O = some (g'.blk k)) ∧ g'.blk k < w'.heap.size
      rw [(hk k e hl1).1]
      exact ⟨(h.fresh k hl1).1, Nat.lt_of_lt_of_le (h.fresh k hl1).2 hE.size⟩

/-- A slot is written. -/
theorem FR.put {n B : Nat} {O : Option Nat} {gl : Gl} {ph : Option (Nat × Value)} {g : Gh} {s : St} {a : Act} {w : World} (h : FR gl ph n B O g s a w) (d : Option Nat) (hd : ∀ t, d = some t → t < n) {p : PV} {v : Value} (hv : XR g w s.objs p v) :
    FR gl ph n B O g ⟨put s.env d p, s.objs⟩ (a.put d v) w := by
  cases d with
  | none => exact ⟨h.size, h.defers, h.base, h.env, h.obj, h.inj, h.fresh, h.home, h.glob⟩
  | some t =>
    have ht := hd t rfl
    refine ⟨by simp [Act.put, h.size], by simp [Act.put, h.defers], h.base, fun i => ?_, h.obj, h.inj, h.fresh, h.home, h.glob⟩
    simp only [Pf.put, Act.put, upd]
    by_cases e : i = t
    · subst e
      simp [Array.getD_eq_getD_getElem?, h.size, ht]; exact hv
    · have := h.env i
      simp only [e, if_false]
      rw [Array.getD_eq_getD_getElem?, Array.getElem?_setIfInBounds, if_neg (fun x => e x.symm), ← Array.getD_eq_getD_getElem?]
      exact this

end Go.Pf
/- Pure frames, part D: what the machine's operations do, said so that the pure ones can be held against them. -/
namespace Go.Pf
open Go.RowKit

section
variable {P : Program} {w : World}

theorem run_newObj (o : Go.Obj) : (newObj o).run P w = .ok w.heap.size (w.alloc o) := rfl
theorem run_typeInfo {t : TypeId} {i : TypeInfo} (h : P.info? t = some i) : (typeInfo t).run P w = .ok i w := by
  simp only [typeInfo, Sem.run_bind, program, Sem.run, Result.andThen_ok, h]; rfl
theorem run_zeroValue {t : TypeId} {i : TypeInfo} {z : Value} (h : P.info? t = some i) (hz : i.zero = some z) : (zeroValue t).run P w = .ok z w := by
  simp only [zeroValue, Sem.run_bind, run_typeInfo h, Result.andThen_ok, hz]; rfl
theorem run_sizeOf {t : TypeId} {i : TypeInfo} (h : P.info? t = some i) : (sizeOf t).run P w = .ok i.size w := by
  simp only [sizeOf, Sem.run_bind, run_typeInfo h, Result.andThen_ok]; rfl

def aggD : TypeDesc → Bool
  | .struct _ => true
  | .array _ _ => true
  | _ => false

theorem run_isAgg {t : TypeId} {d : TypeDesc} (h : P.underlying t = some d) : (isAgg t).run P w = .ok (aggD d) w := by
  simp only [isAgg, Sem.run_bind, run_underlying h, Result.andThen_ok]
  cases d <;> rfl

/-- A type: is it a struct or an array, how many cells has it? -/
def TyOk (P : Program) (t : TypeId) (agg : Bool) (n : Nat) : Prop :=
  ∃ i d, P.info? t = some i ∧ i.size = n ∧ P.underlying t = some d ∧ aggD d = agg ∧ (agg = false → n = 1)

theorem add_lit (b o n : Nat) : (⟨b, o, none⟩ : Addr).add n = ⟨b, o + n, none⟩ := by unfold Addr.add; split <;> simp_all

theorem run_loadVar_agg {t : TypeId} {n : Nat} (ht : TyOk P t true n) (b o : Nat) (vs : List Value) (hl : vs.length = n)
    (hc : ∀ (j : Nat) (v : Value), vs[j]? = some v → w.cell? ⟨b, o + j, none⟩ = some v) : (loadVar t ⟨b, o, none⟩).run P w = .ok (.agg vs.toArray) w := by
  obtain ⟨i, d, hi, hs, hu, hd, _⟩ := ht
  have h1 := run_loadCells_list (P := P) w ⟨b, o, none⟩ vs (fun j v hv => by rw [add_lit]; exact hc j v hv)
  simp only [loadVar, Sem.run_bind, run_isAgg hu, hd, Result.andThen_ok, if_true, run_sizeOf hi, hs, ← hl, h1, Sem.run_pure]

theorem run_loadVar_one {t : TypeId} {n : Nat} (ht : TyOk P t false n) (a : Addr) (v : Value) (hc : w.cell? a = some v) : (loadVar t a).run P w = .ok v w := by
  obtain ⟨i, d, hi, hs, hu, hd, _⟩ := ht
  simp only [loadVar, Sem.run_bind, run_isAgg hu, hd, Result.andThen_ok, Bool.false_eq_true, if_false, load, Sem.run, hc]

theorem run_storeVar_at {t : TypeId} {agg : Bool} {n : Nat} (ht : TyOk P t agg n) (g o T : Nat) (cur : Array Value) (v : Value) (hg : w.heap[g]? = some (.cells cur T (0, 0))) (hl : v.cells.size = n)
    (hfit : o + n ≤ cur.size) (h1 : ∀ u ∈ v.cells.toList, u.oneCell' = true) :
    (storeVar t ⟨g, o, none⟩ v).run P w = .ok () (w.setRow g (cur.toList.take o ++ v.cells.toList ++ cur.toList.drop (o + n)).toArray) := by
  obtain ⟨i, d, hi, hs, hu, hd, _⟩ := ht
  have hst := run_storeCells_at P g o T v.cells.toList 0 cur w hg (by simp [hl]; omega) h1
  have hll : v.cells.toList.length = n := by simp [hl]
  simp only [storeVar, Sem.run_bind, run_sizeOf hi, Result.andThen_ok, hs, hl, ne_eq, not_true_eq_false, if_false]
  simp only [Nat.add_zero, hll] at hst
  exact hst

theorem setRow_alike (w : World) (g : Nat) (x : Array Value) : (w.setRow g x).os = w.os ∧ (w.setRow g x).tape = w.tape ∧ (w.setRow g x).output = w.output ∧ (w.setRow g x).heap.size = w.heap.size := by
  simp [World.setRow]
end

section
variable {P : Program} {o : Oper} {a : Act} {w w' : World} {K : Act → World → Prop} {Q : Exit → Act → World → Prop}
theorem wp_value {v : Value} (h : (execOp a.eval o).run P w = .ok (.value v) w') (hk : K (a.put o.dst v) w') : o.wp P a w K Q := by
  simp only [Oper.wp, h, Oper.upon]; exact hk
theorem wp_skip' (h : (execOp a.eval o).run P w = .ok .skip w') (hk : K (a.put o.dst undef) w') : o.wp P a w K Q := by
  simp only [Oper.wp, h, Oper.upon]; exact hk
theorem wp_enter {f : FuncId} {args : Array Value} (h : (execOp a.eval o).run P w = .ok (.enter f args) w')
    (hk : Calls P f args w' fun e w'' => ∃ v, e = .returned v ∧ K (a.put o.dst v) w'') : o.wp P a w K Q := by
  simp only [Oper.wp, h, Oper.upon]
  refine hk.mono ?_
  rintro e w'' ⟨v, rfl, hv⟩
  exact hv
end

/- Inversions: what a value is, of which a pure one is known to stand for it. -/
section
variable {g : Gh} {w : World} {ob : Nat → Obj}
theorem VR.sc_inv {c : Nat → Nat} {u v : Value} (h : VR c w (.sc u) v) : v = u ∧ scalarV u = true := by cases h with | sc h => exact ⟨rfl, h⟩
theorem XR.sc_inv {u v : Value} (h : XR g w ob (.sc u) v) : v = u ∧ scalarV u = true := by
  rcases h with h | (h | h) | ⟨_, _, h, _⟩ | ⟨_, _, h, _⟩
  · cases h
  · exact h.sc_inv
  · exact h.elim
  · cases h
  · cases h
theorem XR.ref_inv {p : PV} {v : Value} (h : XR g w ob p v) (hp : p.key ≠ []) : RefR g ob p v := by
  rcases h with h | (h | h) | ⟨_, _, h, _⟩ | ⟨_, _, h, _⟩
  · subst h; simp [PV.key] at hp
  · cases h <;> simp [PV.key] at hp
  · exact h
  · subst h; simp [PV.key] at hp
  · subst h; simp [PV.key] at hp
theorem XR.lst_inv {sz : Nat} {es : List (List PV)} {v : Value} (h : XR g w ob (.lst sz es) v) : VR g.c w (.lst sz es) v := by
  rcases h with h | (h | h) | ⟨_, _, h, _⟩ | ⟨_, _, h, _⟩
  · cases h
  · exact h
  · exact h.elim
  · cases h
  · cases h
theorem XR.eptr_inv {cs : List PV} {off : Nat} {v : Value} (h : XR g w ob (.eptr cs off) v) : VR g.c w (.eptr cs off) v := by
  rcases h with h | (h | h) | ⟨_, _, h, _⟩ | ⟨_, _, h, _⟩
  · cases h
  · exact h
  · exact h.elim
  · cases h
  · cases h
theorem XR.agg_inv {cs : List PV} {v : Value} (h : XR g w ob (.agg cs) v) :
    ∃ vs : List Value, v = .agg vs.toArray ∧ cs.length = vs.length ∧ ∀ (j : Nat) (q : PV) (u : Value), cs[j]? = some q → vs[j]? = some u → q.isCell = true ∧ KR g w ob q u := by
  rcases h with h | (h | h) | ⟨cs', vs, h, h1, h2, h3⟩ | ⟨_, _, h, _⟩
  · cases h
  · cases h with
    | agg hl hci hv => exact ⟨_, rfl, hl, fun j q u hq hu => ⟨hci j q hq, .inl (hv j q u hq hu)⟩⟩
  · exact h.elim
  · cases h; exact ⟨vs, h1, h2, h3⟩
  · cases h
theorem XR.tup_inv {ps : List PV} {v : Value} (h : XR g w ob (.tup ps) v) :
    ∃ vs : List Value, v = .tuple vs.toArray ∧ ps.length = vs.length ∧ ∀ (j : Nat) (q : PV) (u : Value), ps[j]? = some q → vs[j]? = some u → KR g w ob q u := by
  rcases h with h | (h | h) | ⟨_, _, h, _⟩ | ⟨cs', vs, h, h1, h2, h3⟩
  · cases h
  · cases h
  · exact h.elim
  · cases h
  · cases h; exact ⟨vs, h1, h2, h3⟩

theorem scalar_oneCell {v : Value} (h : scalarV v = true) : v.oneCell' = true := by
  cases v <;> simp_all [scalarV, Value.oneCell']

theorem KR.oneCell {q : PV} {u : Value} (hc : q.isCell = true) (h : KR g w ob q u) : u.oneCell' = true := by
  rcases h with h | h
  · cases h with
    | sc h => exact scalar_oneCell h
    | lst => rfl
    | eptr => rfl
    | agg => simp [PV.isCell] at hc
  · cases q with
    | bptr k s off => obtain ⟨_, a, rfl, _⟩ := h; rfl
    | kptr k s i off => obtain ⟨_, a, rfl, _⟩ := h; rfl
    | bld k s off len => obtain ⟨_, b, o, cap, rfl, _⟩ := h; rfl
    | _ => exact h.elim

theorem oneCell_cells {v : Value} (h : v.oneCell' = true) : v.cells = #[v] := by
  cases v <;> simp_all [Value.oneCell', Value.cells]

/-- The cells of a value. -/
theorem XR.cells {p : PV} {v : Value} {cs : List PV} (h : XR g w ob p v) (hp : p.cells = some cs) :
    v.cells.toList.length = cs.length ∧ ∀ (j : Nat) (q : PV), cs[j]? = some q → ∃ u, v.cells.toList[j]? = some u ∧ q.isCell = true ∧ KR g w ob q u := by
  cases p with
  | agg cs' =>
    obtain rfl : cs' = cs := by simpa [PV.cells] using hp
    obtain ⟨vs, rfl, hl, hv⟩ := h.agg_inv
    refine ⟨by simp [Value.cells, hl], fun j q hq => ?_⟩
    have hj : j < vs.length := by have := (List.getElem?_eq_some_iff.1 hq).1; omega
    exact ⟨vs[j], by simp [Value.cells, hj], hv j q _ hq (List.getElem?_eq_getElem hj)⟩
  | undef => simp [PV.cells] at hp
  | tup => simp [PV.cells] at hp
  | own => simp [PV.cells] at hp
  | sc u =>
    obtain rfl : [PV.sc u] = cs := by simpa [PV.cells] using hp
    obtain ⟨rfl, hs⟩ := h.sc_inv
    rw [oneCell_cells (scalar_oneCell hs)]
    refine ⟨rfl, fun j q hq => ?_⟩
    match j, hq with
    | 0, hq => obtain rfl : PV.sc _ = q := by simpa using hq
               exact ⟨_, rfl, hs, .inl (.sc hs)⟩
  | lst sz es =>
    obtain rfl : [PV.lst sz es] = cs := by simpa [PV.cells] using hp
    have hk : KR g w ob (.lst sz es) v := .inl h.lst_inv
    rw [oneCell_cells (hk.oneCell rfl)]
    refine ⟨rfl, fun j q hq => ?_⟩
    match j, hq with
    | 0, hq => obtain rfl : PV.lst sz es = q := by simpa using hq
               exact ⟨_, rfl, rfl, hk⟩
  | eptr e off =>
    obtain rfl : [PV.eptr e off] = cs := by simpa [PV.cells] using hp
    have hk : KR g w ob (.eptr e off) v := .inl h.eptr_inv
    rw [oneCell_cells (hk.oneCell rfl)]
    refine ⟨rfl, fun j q hq => ?_⟩
    match j, hq with
    | 0, hq => obtain rfl : PV.eptr e off = q := by simpa using hq
               exact ⟨_, rfl, rfl, hk⟩
  | bptr k s off =>
    obtain rfl : [PV.bptr k s off] = cs := by simpa [PV.cells] using hp
    have hk : KR g w ob (.bptr k s off) v := .inr (h.ref_inv (by simp [PV.key]))
    rw [oneCell_cells (hk.oneCell rfl)]
    refine ⟨rfl, fun j q hq => ?_⟩
    match j, hq with
    | 0, hq => obtain rfl : PV.bptr k s off = q := by simpa using hq
               exact ⟨_, rfl, rfl, hk⟩
  | bld k s off len =>
    obtain rfl : [PV.bld k s off len] = cs := by simpa [PV.cells] using hp
    have hk : KR g w ob (.bld k s off len) v := .inr (h.ref_inv (by simp [PV.key]))
    rw [oneCell_cells (hk.oneCell rfl)]
    refine ⟨rfl, fun j q hq => ?_⟩
    match j, hq with
    | 0, hq => obtain rfl : PV.bld k s off len = q := by simpa using hq
               exact ⟨_, rfl, rfl, hk⟩
  | kptr k s i off =>
    obtain rfl : [PV.kptr k s i off] = cs := by simpa [PV.cells] using hp
    have hk : KR g w ob (.kptr k s i off) v := .inr (h.ref_inv (by simp [PV.key]))
    rw [oneCell_cells (hk.oneCell rfl)]
    refine ⟨rfl, fun j q hq => ?_⟩
    match j, hq with
    | 0, hq => obtain rfl : PV.kptr k s i off = q := by simpa using hq
               exact ⟨_, rfl, rfl, hk⟩
end

/- Operands. -/
def constOk : Value → Bool
  | .agg cs => cs.toList.all scalarV
  | v => scalarV v
def opndOk : Operand → Bool
  | .const v => constOk v
  | _ => true

theorem FR.opnd {n B : Nat} {O : Option Nat} {gl : Gl} {ph : Option (Nat × Value)} {g : Gh} {s : St} {a : Act} {w : World} (h : FR gl ph n B O g s a w) {x : Operand} (hx : opndOk x = true) : XR g w s.objs (evalIn s.env x) (a.eval x) := by
  cases x with
  | tmp t => exact h.env t
  | const v =>
    cases v with
    | agg cs =>
      refine .inr (.inl (.inl ?_))
      have hs : cs.toList.all scalarV = true := hx
      have e : (Value.agg cs) = Value.agg cs.toList.toArray := by simp
      show VR g.c w (PV.agg (cs.toList.map PV.sc)) (Value.agg cs)
      rw [e]
      refine .agg (by simp) (fun j p hj => ?_) (fun j p v hp hv => ?_)
      · simp only [List.getElem?_map, Option.map_eq_some_iff] at hj
        obtain ⟨v, hv, rfl⟩ := hj
        exact List.all_eq_true.1 hs v (List.mem_of_getElem? hv)
      · simp only [List.getElem?_map, Option.map_eq_some_iff] at hp
        obtain ⟨v', hv', rfl⟩ := hp
        rw [hv] at hv'
        cases hv'
        exact .sc (List.all_eq_true.1 hs v (List.mem_of_getElem? hv))
    | _ => exact .inr (.inl (.inl (.sc hx)))
  | global g' => exact .inl rfl
  | func f => exact .inr (.inl (.inl (.sc rfl)))

end Go.Pf

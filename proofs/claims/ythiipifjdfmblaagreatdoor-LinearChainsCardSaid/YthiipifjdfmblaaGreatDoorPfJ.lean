/- Pure frames, part I: composite values; bytes to a string; sharing a local slice; new slices. -/
import Derived.Test.YthiipifjdfmblaaGreatDoorPfH
set_option linter.unusedVariables false
set_option linter.unusedSimpArgs false
namespace Go.Pf
open Go.RowKit

def setFrom (arr : Array Value) (off : Nat) : List Value → Array Value
  | [] => arr
  | v :: vs => setFrom (arr.setIfInBounds off v) (off + 1) vs

theorem foldl_setFrom (off : Nat) : ∀ (vs : List Value) (m : Nat) (arr : Array Value), (vs.zipIdx m).foldl (fun (cs : Array Value) (x : Value × Nat) => cs.setIfInBounds (off + x.2) x.1) arr = setFrom arr (off + m) vs
  | [], _, _ => rfl
  | v :: vs, m, arr => by
    simp only [List.zipIdx_cons, List.foldl_cons, setFrom]
    exact foldl_setFrom off vs (m + 1) _

theorem setFrom_size : ∀ (vs : List Value) (off : Nat) (arr : Array Value), (setFrom arr off vs).size = arr.size
  | [], _, _ => rfl
  | v :: vs, off, arr => by simp only [setFrom]; rw [setFrom_size vs]; simp

theorem setFrom_get : ∀ (vs : List Value) (off : Nat) (arr : Array Value) (k : Nat), off + vs.length ≤ arr.size →
    (setFrom arr off vs)[k]? = if k < off then arr[k]? else if k < off + vs.length then vs[k - off]? else arr[k]?
  | [], off, arr, k, _ => by simp [setFrom]; omega
  | v :: vs, off, arr, k, h => by
    simp only [setFrom]
    rw [setFrom_get vs (off + 1) _ k (by simp at h ⊢; omega)]
    simp only [List.length_cons] at h ⊢
    rw [Array.getElem?_setIfInBounds]
    by_cases h1 : k < off
    · rw [if_pos (by omega), if_neg (by omega), if_pos h1]
    · by_cases h2 : k = off
      · subst h2
        rw [if_pos (by omega), if_pos rfl, if_pos (by omega), if_neg h1, if_pos (by omega)]
        simp
      · rw [if_neg (by omega : ¬ k < off + 1), if_neg (by omega : ¬ off = k), if_neg h1]
        by_cases h3 : k < off + 1 + vs.length
        · rw [if_pos h3, if_pos (by omega)]
          rw [show k - off = (k - (off + 1)) + 1 by omega, List.getElem?_cons_succ]
        · rw [if_neg h3, if_neg (by omega)]

section
variable {P : Program} {n B : Nat} {O : Option Nat} {gl : Gl} {ph : Option (Nat × Value)} {g : Gh} {s : St} {a : Act} {w w' : World} {o : Oper} {K : Act → World → Prop} {Q : Exit → Act → World → Prop}

/-- A row of cells stands for a list of pure ones. -/
def CRel (R : PV → Value → Prop) (cs : List PV) (arr : Array Value) : Prop :=
  arr.size = cs.length ∧ ∀ (j : Nat) (q : PV), cs[j]? = some q → ∃ u, arr[j]? = some u ∧ q.isCell = true ∧ R q u

theorem CRel.zero {R : PV → Value → Prop} (hR : ∀ v, scalarV v = true → R (.sc v) v) {zero : List Value} (hall : zero.all scalarV = true) : CRel R (zero.map PV.sc) zero.toArray := by
  refine ⟨by simp, fun j q hq => ?_⟩
  simp only [List.getElem?_map, Option.map_eq_some_iff] at hq
  obtain ⟨v, hv, rfl⟩ := hq
  have hs : scalarV v = true := List.all_eq_true.1 hall v (List.mem_of_getElem? hv)
  exact ⟨v, by simpa using hv, hs, hR v hs⟩

theorem CRel.put {R : PV → Value → Prop} {cs new : List PV} {arr : Array Value} {vs : List Value} {off : Nat} (h : CRel R cs arr) (hl : vs.length = new.length) (hfit : off + new.length ≤ cs.length)
    (hn : ∀ (j : Nat) (q : PV), new[j]? = some q → ∃ u, vs[j]? = some u ∧ q.isCell = true ∧ R q u) : CRel R (putCells cs off new) (setFrom arr off vs) := by
  refine ⟨by rw [setFrom_size, h.1]; simp [putCells]; omega, fun j q hq => ?_⟩
  simp only [putCells] at hq
  rw [splice_get cs new off j hfit] at hq
  rw [setFrom_get vs off arr j (by rw [h.1, hl]; exact hfit), hl]
  by_cases c1 : j < off
  · rw [if_pos c1] at hq ⊢; exact h.2 j q hq
  · rw [if_neg c1] at hq ⊢
    by_cases c2 : j < off + new.length
    · rw [if_pos c2] at hq ⊢; exact hn _ q hq
    · rw [if_neg c2] at hq ⊢; exact h.2 j q hq

theorem fill_cons (place : Nat → Option (Nat × Nat)) (arr : Array Value) (i off m : Nat) (v : Value) (rest : List (Nat × Value)) (hp : place i = some (off, m)) (hm : v.cells.size = m) (hf : off + m ≤ arr.size) :
    Instr.fill place arr ((i, v) :: rest) = Instr.fill place (setFrom arr off v.cells.toList) rest := by
  simp only [Instr.fill, hp, hm]
  have h2 : v.cells.zipIdx.foldl (fun (cs : Array Value) (x : Value × Nat) => cs.setIfInBounds (off + x.2) x.1) arr = setFrom arr off v.cells.toList := by
    have := foldl_setFrom off v.cells.toList 0 arr
    simp only [Nat.add_zero] at this
    rw [← this, ← Array.foldl_toList, Array.toList_zipIdx]
  have h3 : ¬ (off + m > arr.size) := by omega
  simp only [ne_eq, not_true_eq_false, decide_false, Bool.false_or, h3, Bool.false_eq_true, if_false]
  rw [← h2]

theorem FR.fill (h : FR gl ph n B O g s a w) (place : Nat → Option (Nat × Nat)) : ∀ (parts : List (Nat × Operand)) (ps : List (Nat × Nat × Operand)) (cs cs' : List PV) (arr : Array Value),
    PartsOk place parts ps → fillParts (evalIn s.env) cs ps = some cs' → CRel (KR g w s.objs) cs arr →
    ∃ arr', Instr.fill place arr (parts.map fun p => (p.1, a.eval p.2)) = some arr' ∧ CRel (KR g w s.objs) cs' arr'
  | [], [], cs, cs', arr, _, hf, hc => by
    simp only [fillParts, Option.some.injEq] at hf
    subst hf
    exact ⟨arr, rfl, hc⟩
  | [], _ :: _, _, _, _, hp, _, _ => hp.elim
  | (_, _) :: _, [], _, _, _, hp, _, _ => hp.elim
  | (i, x) :: r, (off, m, y) :: q, cs, cs', arr, hp, hf, hc => by
    obtain ⟨h1, rfl, h3, h4⟩ := hp
    simp only [fillParts] at hf
    split at hf
    · rename_i new hnew
      split at hf
      · rename_i hcond
        obtain ⟨hl, hfit⟩ := hcond
        obtain ⟨hn1, hn2⟩ := (h.opnd h3).cells hnew
        have hc' := hc.put (vs := (a.eval x).cells.toList) (off := off) hn1 (by omega) hn2
        obtain ⟨arr', ha, hb⟩ := FR.fill h place r q _ cs' _ h4 hf hc'
        refine ⟨arr', ?_, hb⟩
        simp only [List.map_cons]
        rw [fill_cons place arr i off m (a.eval x) _ h1 (by simpa [hl] using hn1) (by rw [hc.1]; exact hfit)]
        exact ha
      · simp at hf
    · simp at hf

theorem run_mapM_list {α β : Type} (f : α → Sem β) (r : α → β) : ∀ l : List α, (∀ x ∈ l, (f x).run P w = .ok (r x) w) → (l.mapM f).run P w = .ok (l.map r) w
  | [], _ => by simp
  | x :: xs, h => by
    simp only [List.mapM_cons, Sem.run_bind, h x (by simp), Result.andThen_ok, run_mapM_list f r xs (fun y hy => h y (by simp [hy])), Sem.run_pure, List.map_cons]

theorem run_mapM_array {α β : Type} (f : α → Sem β) (r : α → β) (l : Array α) (h : ∀ x ∈ l.toList, (f x).run P w = .ok (r x) w) : (l.mapM f).run P w = .ok (l.map r) w := by
  have h1 := run_mapM_list (P := P) (w := w) f r l.toList h
  rw [Array.mapM_eq_mapM_toList]
  have h2 : (List.toArray <$> l.toList.mapM f : Sem (Array β)).run P w = ((l.toList.mapM f).run P w).andThen fun x w' => .ok x.toArray w' := by
    rw [map_eq_pure_bind, Sem.run_bind]; rfl
  rw [h2, h1]
  simp only [Result.andThen_ok, Result.ok.injEq, and_true]
  apply Array.ext'
  simp

theorem sim_build {zero : List Value} {ps : List (Nat × Nat × Operand)} {p : PV} {us : List (Nat × Obj)} (h : FR gl ph n B O g s a w) (hd : ∀ t, o.dst = some t → t < n) (hr : Rs P o (.build zero ps))
    (hp : pop (evalIn s.env) s.objs (o.dst.getD 0) (.build zero ps) = some (p, us)) (hk : Owed gl ph n B O g w ⟨put s.env o.dst p, updAll s.objs us⟩ K) : o.wp P a w K Q := by
  obtain ⟨t, parts, sz, ho, ⟨i, z, hi, hz, hzc, _, _, hall⟩, hb⟩ := hr
  simp only [pop, Option.map_eq_some_iff, Prod.mk.injEq] at hp
  obtain ⟨cs, hf, rfl, rfl⟩ := hp
  have hz0 : CRel (KR g w s.objs) (zero.map PV.sc) z.cells := by
    have := CRel.zero (R := KR g w s.objs) (fun v hv => .inl (.sc hv)) hall
    rw [← hzc] at this ⊢
    simpa using this
  have fin : ∀ arr : Array Value, CRel (KR g w s.objs) cs arr → XR g w s.objs (.agg cs) (.agg arr) := by
    intro arr hc
    have e : Value.agg arr = Value.agg arr.toList.toArray := by simp
    rw [e]
    refine .inr (.inr (.inl ⟨cs, arr.toList, rfl, rfl, by simp [hc.1], fun j q u hq hu => ?_⟩))
    obtain ⟨u', h1, h2, h3⟩ := hc.2 j q hq
    have : u' = u := by
      rw [Array.getElem?_toList] at hu
      rw [h1] at hu
      exact Option.some.inj hu
    subst this
    exact ⟨h2, h3⟩
  have hpl : (parts.map fun (x : Nat × Operand) => (x.1, a.eval x.2)).toList = parts.toList.map fun p => (p.1, a.eval p.2) := by simp
  rcases hb with ⟨fs, hu, hinf, hpo⟩ | ⟨m, e, ie, hu, hie, hpo⟩
  · obtain ⟨arr', ha, hc⟩ := h.fill _ parts.toList ps _ cs _ hpo hf hz0
    refine sim_val h hd (v := .agg arr') ?_ (fin arr' hc) hk
    have hm : (fs.mapM fun f => (do pure (f.offset, ← sizeOf f.type) : Sem (Nat × Nat))).run P w = .ok (fs.map fun f => (f.offset, ((P.info? f.type).map (·.size)).getD 0)) w := by
      refine run_mapM_array _ _ fs (fun f hf' => ?_)
      obtain ⟨k, hk'⟩ := List.mem_iff_getElem?.1 hf'
      obtain ⟨inf, hinf'⟩ := Option.isSome_iff_exists.1 (hinf k f (by simpa using hk'))
      simp only [Sem.run_bind, run_sizeOf hinf', Result.andThen_ok, Sem.run_pure, hinf', Option.map_some, Option.getD_some]
    have hplace : (fun k : Nat => (fs.map fun (f : Field) => (f.offset, ((P.info? f.type).map (·.size)).getD 0))[k]?) = fun k => (fs[k]?).bind fun (f : Field) => (P.info? f.type).map fun i => (f.offset, i.size) := by
      funext k
      simp only [Array.getElem?_map]
      cases hfk : fs[k]? with
      | none => rfl
      | some f =>
        obtain ⟨inf, hinf'⟩ := Option.isSome_iff_exists.1 (hinf k f hfk)
        simp [hinf']
    simp only [execOp, ho, Instr.build, Sem.run_bind, run_zeroValue hi hz, Result.andThen_ok, run_underlying hu, hm, hpl]
    simp only [hplace, ha, Sem.run_pure, Result.andThen_ok]
  · obtain ⟨arr', ha, hc⟩ := h.fill _ parts.toList ps _ cs _ hpo hf hz0
    refine sim_val h hd (v := .agg arr') ?_ (fin arr' hc) hk
    simp only [execOp, ho, Instr.build, Sem.run_bind, run_zeroValue hi hz, Result.andThen_ok, run_underlying hu, run_sizeOf hie, hpl, ha, Sem.run_pure]
end
end Go.Pf
/- Pure frames, part J: new slices (make, append), bytes to a string. -/
namespace Go.Pf
open Go.RowKit

section
variable {P : Program} {n B : Nat} {O : Option Nat} {gl : Gl} {ph : Option (Nat × Value)} {g : Gh} {s : St} {a : Act} {w w' : World} {o : Oper} {K : Act → World → Prop} {Q : Exit → Act → World → Prop}

/-- A row of cells begins with the cells of these elements. -/
def ERel (R : PV → Value → Prop) (sz : Nat) (es : List (List PV)) (arr : Array Value) : Prop :=
  (∀ (i : Nat) (cs : List PV), es[i]? = some cs → cs.length = sz) ∧
  ∀ (i j : Nat) (cs : List PV) (p : PV), es[i]? = some cs → cs[j]? = some p → ∃ u, arr[i * sz + j]? = some u ∧ p.isCell = true ∧ R p u

theorem FR.newBld (h : FR gl ph n B O g s a w) (d cap e sz : Nat) (es : List (List PV)) (raw : Bool) (arr : Array Value) (hw : w'.heap = w.heap.push (.cells arr e (0, 0))) (hsz : arr.size = cap * sz) (hl : es.length ≤ cap) (hm : cap ≤ maxLen)
    (hE : ERel (VR g.c w) sz es arr) : FR gl ph n B O (g.new w d cap) ⟨s.env, upd s.objs d (.bld ((s.objs d).stamp + 1) e sz es raw)⟩ a w' := by
  refine h.new d cap (.bld ((s.objs d).stamp + 1) e sz es raw) rfl hw ⟨arr, ?_, ?_, ?_, ?_, hE.1, fun i j cs p hi hj => ?_, fun _ => ?_, ?_⟩
  · simp only [Gh.new, upd_same]; exact heap_push_new hw
  · simp only [Gh.new, upd_same]; exact hsz
  · simp only [Gh.new, upd_same]; exact hl
  · simp only [Gh.new, upd_same]; exact hm
  · obtain ⟨u, h1, h2, h3⟩ := hE.2 i j cs p hi hj
    exact ⟨u, h1, h2, h3.mono (Ext.push g hw)⟩
  · simp [Gh.new, upd]
  · simp [Gh.new, upd]

theorem sim_newBld (h : FR gl ph n B O g s a w) (hd : ∀ t, o.dst = some t → t < n) (k cap e sz : Nat) (es : List (List PV)) (raw : Bool) (arr : Array Value)
    (hrun : (execOp a.eval o).run P w = .ok (.value (.slice (some ⟨w.heap.size, 0, none⟩) es.length cap)) w') (hw : w'.heap = w.heap.push (.cells arr e (0, 0))) (ho : w'.os = w.os) (ht : w'.tape = w.tape) (hu : w'.output = w.output)
    (hsz : arr.size = cap * sz) (hl : es.length ≤ cap) (hm : cap ≤ maxLen) (hE : ERel (VR g.c w) sz es arr)
    (hk : Owed gl ph n B O g w ⟨put s.env o.dst (.bld k ((s.objs k).stamp + 1) 0 es.length), upd s.objs k (.bld ((s.objs k).stamp + 1) e sz es raw)⟩ K) : o.wp P a w K Q := by
  have hF := h.newBld k cap e sz es raw arr hw hsz hl hm hE
  refine wp_value hrun (hk _ _ _ (hF.put o.dst hd (.inr (.inl (.inr ⟨by simp [upd, Obj.stamp], _, _, _, rfl, hl, hm, fun e' sz' es' raw' hob => ?_⟩)))) (PB.push h hw ho ht hu))
  have hob' : upd s.objs k (.bld ((s.objs k).stamp + 1) e sz es raw) k = .bld ((s.objs k).stamp + 1) e' sz' es' raw' := hob
  rw [upd_same] at hob'
  cases hob'
  simp [Gh.new, upd]

theorem madeCells_get (z : Array Value) (m k : Nat) (hk : k < m) : (madeCells z m)[k]? = some (z[k % z.size]!) := by
  simp [madeCells, hk]

theorem sim_mkslice {e sz bytes : Nat} {zero : List Value} {l c : Operand} {p : PV} {us : List (Nat × Obj)} (h : FR gl ph n B O g s a w) (hd : ∀ t, o.dst = some t → t < n) (hr : Rs P o (.mkslice e sz bytes zero l c))
    (hp : pop (evalIn s.env) s.objs (o.dst.getD 0) (.mkslice e sz bytes zero l c) = some (p, us)) (hk : Owed gl ph n B O g w ⟨put s.env o.dst p, updAll s.objs us⟩ K) : o.wp P a w K Q := by
  obtain ⟨t, i', ho, _, ht, ⟨i, z, hi, hz, hzc, hisz, hzl, hall⟩, hi', hby, hsz0, hl, hc⟩ := hr
  have hii : i' = i := by rw [hi] at hi'; exact (Option.some.inj hi').symm
  subst hii
  have el := h.opnd hl
  have ec := h.opnd hc
  simp only [pop] at hp
  split at hp
  · rename_i x y hx hy
    rw [hx] at el
    rw [hy] at ec
    split at hp
    · rename_i hcond
      obtain ⟨h0, h1, h2, h3⟩ := hcond
      cases hp
      have hrun := run_make (P := P) w t e i' z ht hi hz .i64 .i64 x y h0 h1 (by rw [hby, Int.mul_comm]; omega) (by omega)
      have hzs : z.cells.size = sz := by rw [← hzl, ← hzc]; simp
      have hes : (List.replicate x.toNat (zero.map PV.sc)).length = x.toNat := by simp
      refine sim_newBld h hd (o.dst.getD 0) y.toNat e sz (List.replicate x.toNat (zero.map PV.sc)) true (madeCells z.cells (y.toNat * i'.size)) (w' := w.alloc (.cells (madeCells z.cells (y.toNat * i'.size)) e)) ?_ rfl rfl rfl rfl
        (by rw [size_madeCells, hisz]) (by simp; omega) (by simp only [maxLen]; omega) ⟨fun k cs hk' => ?_, fun k j cs q hk' hj => ?_⟩ ?_
      · rw [hes]
        simp only [execOp, ho, el.sc_inv.1, ec.sc_inv.1, Sem.run_bind, hrun, Result.andThen_ok, Sem.run_pure]
      · have := List.mem_of_getElem? hk'
        simp at this
        rw [this.2]; simpa using hzl
      · have hmem := List.mem_of_getElem? hk'
        simp at hmem
        obtain ⟨_, rfl⟩ := hmem
        have hkl : k < x.toNat := by have := (List.getElem?_eq_some_iff.1 hk').1; simpa using this
        simp only [List.getElem?_map, Option.map_eq_some_iff] at hj
        obtain ⟨v, hv, rfl⟩ := hj
        have hjl : j < sz := by have := (List.getElem?_eq_some_iff.1 hv).1; omega
        have hs : scalarV v = true := List.all_eq_true.1 hall v (List.mem_of_getElem? hv)
        have hlt : k * sz + j < y.toNat * i'.size := by
          rw [hisz]
          have := Nat.mul_le_mul_right sz (show k + 1 ≤ y.toNat by omega)
          rw [Nat.add_mul, Nat.one_mul] at this
          omega
        refine ⟨v, ?_, hs, .sc hs⟩
        rw [madeCells_get _ _ _ hlt, hzs, Nat.mul_comm, Nat.mul_add_mod, Nat.mod_eq_of_lt hjl]
        have : z.cells[j]? = some v := by rw [← hzc] at hv; simpa using hv
        simp [getElem!_def, this]
      · simpa [updAll] using hk
    · simp at hp
  · simp at hp

/-- The elements of a slice, where they lie. -/
theorem FR.slice_elems (h : FR gl ph n B O g s a w) {p : PV} {v : Value} (hx : XR g w s.objs p v) {sz : Nat} {es : List (List PV)} (he : elems s.objs sz p = some es) :
    (v = .slice none 0 0 ∧ es = []) ∨ ∃ b o' cap, v = .slice (some ⟨b, o', none⟩) es.length cap ∧ (∀ (i : Nat) (cs : List PV), es[i]? = some cs → cs.length = sz) ∧
      ∀ (i j : Nat) (cs : List PV) (q : PV), es[i]? = some cs → cs[j]? = some q → ∃ u, w.cell? ⟨b, o' + (i * sz + j), none⟩ = some u ∧ q.isCell = true ∧ VR g.c w q u := by
  unfold elems at he
  split at he
  · cases he; exact .inl ⟨hx.sc_inv.1, rfl⟩
  · split at he
    · rename_i hs
      subst hs
      cases he
      cases hx.lst_inv with
      | lst vals hcap hm hb hc hsz hcell hci hv =>
        exact .inr ⟨_, _, _, rfl, hsz, fun i j cs q hi hj => ⟨_, hcell i j cs q hi hj, hci i j cs q hi hj, hv i j cs q hi hj⟩⟩
    · simp at he
  · rename_i k st off len
    split at he
    · rename_i s' e' sz' es' raw hob
      split at he
      · rename_i hc
        obtain ⟨rfl, rfl, hle⟩ := hc
        cases he
        obtain ⟨_, b, o', cap, rfl, h1, h2, h3⟩ := hx.ref_inv (by simp [PV.key])
        obtain ⟨f1, f2, f3, f4⟩ := h3 _ _ _ _ hob
        have hO := h.obj k
        rw [hob] at hO
        obtain ⟨arr, r1, r2, r3, r4, r5, r6, r7, r8⟩ := hO
        have hlen : ((es'.drop off).take len).length = len := by simp; omega
        have hget : ∀ (i : Nat) (cs : List PV), ((es'.drop off).take len)[i]? = some cs → es'[off + i]? = some cs ∧ i < len := by
          intro i cs hi
          rw [List.getElem?_take] at hi
          split at hi
          · rename_i hlt; rw [List.getElem?_drop] at hi; exact ⟨hi, hlt⟩
          · cases hi
        refine .inr ⟨b, o', cap, by rw [hlen], fun i cs hi => r5 _ _ (hget i cs hi).1, fun i j cs q hi hj => ?_⟩
        obtain ⟨u, q1, q2, q3⟩ := r6 (off + i) j cs q (hget i cs hi).1 hj
        have hpos := (hget i cs hi).2
        have ho' := f3 (.inl (by omega))
        refine ⟨u, ?_, q2, q3⟩
        rw [f2, ho', cell_of_heap r1, ← q1]
        congr 1
        rw [Nat.add_mul]; omega
      · simp at he
    · simp at he
  · simp at he

theorem flat_idx {i sz j : Nat} (h : j < sz) : (i * sz + j) / sz = i ∧ (i * sz + j) % sz = j := by
  have hp : 0 < sz := by omega
  constructor
  · rw [Nat.mul_comm, Nat.mul_add_div hp, Nat.div_eq_of_lt h]; rfl
  · rw [Nat.mul_comm, Nat.mul_add_mod, Nat.mod_eq_of_lt h]

/-- The cells of a slice's elements, as a list. -/
theorem cells_list {b o' sz : Nat} {es : List (List PV)} {R : PV → Value → Prop} (hs : ∀ (i : Nat) (cs : List PV), es[i]? = some cs → cs.length = sz)
    (hc : ∀ (i j : Nat) (cs : List PV) (q : PV), es[i]? = some cs → cs[j]? = some q → ∃ u, w.cell? ⟨b, o' + (i * sz + j), none⟩ = some u ∧ q.isCell = true ∧ R q u) :
    ∃ news : List Value, news.length = es.length * sz ∧ (∀ (j : Nat) (u : Value), news[j]? = some u → w.cell? ⟨b, o' + j, none⟩ = some u) ∧
      ∀ (i j : Nat) (cs : List PV) (q : PV), es[i]? = some cs → cs[j]? = some q → ∃ u, news[i * sz + j]? = some u ∧ q.isCell = true ∧ R q u := by
  have hsome : ∀ k, k < es.length * sz → ∃ u, w.cell? ⟨b, o' + k, none⟩ = some u := by
    intro k hk
    have hp : 0 < sz := by rcases Nat.eq_zero_or_pos sz with h0 | h0; · subst h0; simp at hk
                           · exact h0
    have hi : k / sz < es.length := by rw [Nat.div_lt_iff_lt_mul hp]; exact hk
    have hj : k % sz < sz := Nat.mod_lt _ hp
    have hcs := List.getElem?_eq_getElem hi
    have hl := hs _ _ hcs
    obtain ⟨u, h1, _⟩ := hc (k / sz) (k % sz) _ _ hcs (List.getElem?_eq_getElem (by omega))
    exact ⟨u, by rw [← h1]; congr 2; rw [Nat.mul_comm, Nat.div_add_mod]⟩
  refine ⟨(List.range (es.length * sz)).map fun k => (w.cell? ⟨b, o' + k, none⟩).getD undef, by simp, fun j u hu => ?_, fun i j cs q hi hj => ?_⟩
  · simp only [List.getElem?_map, Option.map_eq_some_iff] at hu
    obtain ⟨k, hk, rfl⟩ := hu
    have hlt : j < es.length * sz := by have := (List.getElem?_eq_some_iff.1 hk).1; simpa using this
    have : k = j := by rw [List.getElem?_range hlt] at hk; exact (Option.some.inj hk).symm
    subst this
    obtain ⟨u, h1⟩ := hsome k hlt
    simp [h1]
  · obtain ⟨u, h1, h2, h3⟩ := hc i j cs q hi hj
    have hil : i < es.length := (List.getElem?_eq_some_iff.1 hi).1
    have hjl : j < sz := by have := (List.getElem?_eq_some_iff.1 hj).1; have := hs i cs hi; omega
    have hlt : i * sz + j < es.length * sz := by
      have := Nat.mul_le_mul_right sz (show i + 1 ≤ es.length from hil)
      rw [Nat.add_mul, Nat.one_mul] at this
      omega
    refine ⟨u, ?_, h2, h3⟩
    simp [List.getElem?_range hlt, h1]
end
end Go.Pf

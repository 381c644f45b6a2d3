/- Pure frames, part I: composite values; bytes to a string; sharing a local slice; new slices. -/
import Derived.Test.YtlefgpakmgbgaaaGreatDoorEc
import Derived.Lib.AppendStr
set_option linter.unusedVariables false
set_option linter.unusedSimpArgs false
set_option linter.unusedSectionVars false
section
namespace Go.Hf
open Go.RowKit
def setFrom (arr : Array Value) (off : Nat) : List Value → Array Value
  | [] => arr
  | v :: vs => setFrom (arr.setIfInBounds off v) (off + 1) vs
theorem foldl_setFrom (off : Nat) : ∀ (vs : List Value) (m : Nat) (arr : Array Value), (vs.zipIdx m).foldl (fun (cs : Array Value) (x : Value × Nat) => cs.setIfInBounds (off + x.2) x.1) arr = setFrom arr (off + m) vs
  | [], _, _ => rfl
  | v :: vs, m, arr => by
    simp only [List.zipIdx_cons, List.foldl_cons, setFrom]
    exact foldl_setFrom off vs (m + 1) _
theorem setFrom_size : ∀ (vs : List Value) (off : Nat) (arr : Array Value), (setFrom arr off vs).size = arr.size
  | [], _, _ => rfl
  | v :: vs, off, arr => by simp only [setFrom]; rw [setFrom_size vs]; simp
theorem setFrom_get : ∀ (vs : List Value) (off : Nat) (arr : Array Value) (k : Nat), off + vs.length ≤ arr.size →
    (setFrom arr off vs)[k]? = if k < off then arr[k]? else if k < off + vs.length then vs[k - off]? else arr[k]?
  | [], off, arr, k, _ => by simp [setFrom]; omega
  | v :: vs, off, arr, k, h => by
    simp only [setFrom]
    rw [setFrom_get vs (off + 1) _ k (by simp at h ⊢; omega)]
    simp only [List.length_cons] at h ⊢
    rw [Array.getElem?_setIfInBounds]
    by_cases h1 : k < off
    · rw [if_pos (by omega), if_neg (by omega), if_pos h1]
    · by_cases h2 : k = off
      · subst h2
        rw [if_pos (by omega), if_pos rfl, if_pos (by omega), if_neg h1, if_pos (by omega)]
        simp
      · rw [if_neg (by omega : ¬ k < off + 1), if_neg (by omega : ¬ off = k), if_neg h1]
        by_cases h3 : k < off + 1 + vs.length
        · rw [if_pos h3, if_pos (by omega)]
          rw [show k - off = (k - (off + 1)) + 1 by omega, List.getElem?_cons_succ]
        · rw [if_neg h3, if_neg (by omega)]
section
variable {P : Program} {n B bs : Nat} {O : Nat → Prop} {gl : Gl} {ph : Gh × (Nat → Obj) × World × List Deferred} {g : Gh} {s : St} {a : Act} {w w' : World} {o : Oper} {K : Act → World → Prop} {Q : Exit → Act → World → Prop}
def CRel (R : PV → Value → Prop) (cs : List PV) (arr : Array Value) : Prop :=
  arr.size = cs.length ∧ ∀ (j : Nat) (q : PV), cs[j]? = some q → ∃ u, arr[j]? = some u ∧ q.isCell = true ∧ R q u
theorem CRel.zero {R : PV → Value → Prop} (hR : ∀ v, scalarV v = true → R (.sc v) v) {zero : List Value} (hall : zero.all scalarV = true) : CRel R (zero.map PV.sc) zero.toArray := by
  refine ⟨by simp, fun j q hq => ?_⟩
  simp only [List.getElem?_map, Option.map_eq_some_iff] at hq
  obtain ⟨v, hv, rfl⟩ := hq
  have hs : scalarV v = true := List.all_eq_true.1 hall v (List.mem_of_getElem? hv)
  exact ⟨v, by simpa using hv, hs, hR v hs⟩
theorem CRel.put {R : PV → Value → Prop} {cs new : List PV} {arr : Array Value} {vs : List Value} {off : Nat} (h : CRel R cs arr) (hl : vs.length = new.length) (hfit : off + new.length ≤ cs.length)
    (hn : ∀ (j : Nat) (q : PV), new[j]? = some q → ∃ u, vs[j]? = some u ∧ q.isCell = true ∧ R q u) : CRel R (putCells cs off new) (setFrom arr off vs) := by
  refine ⟨by rw [setFrom_size, h.1]; simp [putCells]; omega, fun j q hq => ?_⟩
  simp only [putCells] at hq
  rw [splice_get cs new off j hfit] at hq
  rw [setFrom_get vs off arr j (by rw [h.1, hl]; exact hfit), hl]
  by_cases c1 : j < off
  · rw [if_pos c1] at hq ⊢; exact h.2 j q hq
  · rw [if_neg c1] at hq ⊢
    by_cases c2 : j < off + new.length
    · rw [if_pos c2] at hq ⊢; exact hn _ q hq
    · rw [if_neg c2] at hq ⊢; exact h.2 j q hq
theorem fill_cons (place : Nat → Option (Nat × Nat)) (arr : Array Value) (i off m : Nat) (v : Value) (rest : List (Nat × Value)) (hp : place i = some (off, m)) (hm : v.cells.size = m) (hf : off + m ≤ arr.size) :
    Instr.fill place arr ((i, v) :: rest) = Instr.fill place (setFrom arr off v.cells.toList) rest := by
  simp only [Instr.fill, hp, hm]
  have h2 : v.cells.zipIdx.foldl (fun (cs : Array Value) (x : Value × Nat) => cs.setIfInBounds (off + x.2) x.1) arr = setFrom arr off v.cells.toList := by
    have := foldl_setFrom off v.cells.toList 0 arr
    simp only [Nat.add_zero] at this
    rw [← this, ← Array.foldl_toList, Array.toList_zipIdx]
  have h3 : ¬ (off + m > arr.size) := by omega
  simp only [ne_eq, not_true_eq_false, decide_false, Bool.false_or, h3, Bool.false_eq_true, if_false]
  rw [← h2]
theorem FR.fill (h : FR gl ph n B O g s a w) (place : Nat → Option (Nat × Nat)) : ∀ (parts : List (Nat × Operand)) (ps : List (Nat × Nat × Operand)) (cs cs' : List PV) (arr : Array Value),
    PartsOk place parts ps → fillParts (evalIn s.env) cs ps = some cs' → CRel (KR g w s.objs) cs arr →
    ∃ arr', Instr.fill place arr (parts.map fun p => (p.1, a.eval p.2)) = some arr' ∧ CRel (KR g w s.objs) cs' arr'
  | [], [], cs, cs', arr, _, hf, hc => by
    simp only [fillParts, Option.some.injEq] at hf
    subst hf
    exact ⟨arr, rfl, hc⟩
  | [], _ :: _, _, _, _, hp, _, _ => hp.elim
  | (_, _) :: _, [], _, _, _, hp, _, _ => hp.elim
  | (i, x) :: r, (off, m, y) :: q, cs, cs', arr, hp, hf, hc => by
    obtain ⟨h1, rfl, h3, h4⟩ := hp
    simp only [fillParts] at hf
    split at hf
    · rename_i new hnew
      split at hf
      · rename_i hcond
        obtain ⟨hl, hfit⟩ := hcond
        obtain ⟨hn1, hn2⟩ := (h.opnd h3).cells hnew
        have hc' := hc.put (vs := (a.eval x).cells.toList) (off := off) hn1 (by omega) hn2
        obtain ⟨arr', ha, hb⟩ := FR.fill h place r q _ cs' _ h4 hf hc'
        refine ⟨arr', ?_, hb⟩
        simp only [List.map_cons]
        rw [fill_cons place arr i off m (a.eval x) _ h1 (by simpa [hl] using hn1) (by rw [hc.1]; exact hfit)]
        exact ha
      · simp at hf
    · simp at hf
theorem run_mapM_list {α β : Type} (f : α → Sem β) (r : α → β) : ∀ l : List α, (∀ x ∈ l, (f x).run P w = .ok (r x) w) → (l.mapM f).run P w = .ok (l.map r) w
  | [], _ => by simp
  | x :: xs, h => by
    simp only [List.mapM_cons, Sem.run_bind, h x (by simp), Result.andThen_ok, run_mapM_list f r xs (fun y hy => h y (by simp [hy])), Sem.run_pure, List.map_cons]
theorem run_mapM_array {α β : Type} (f : α → Sem β) (r : α → β) (l : Array α) (h : ∀ x ∈ l.toList, (f x).run P w = .ok (r x) w) : (l.mapM f).run P w = .ok (l.map r) w := by
  have h1 := run_mapM_list (P := P) (w := w) f r l.toList h
  rw [Array.mapM_eq_mapM_toList]
  have h2 : (Functor.map List.toArray (l.toList.mapM f) : Sem (Array β)).run P w = ((l.toList.mapM f).run P w).andThen fun x w' => .ok x.toArray w' := by
    rw [map_eq_pure_bind, Sem.run_bind]; rfl
  rw [h2, h1]
  simp only [Result.andThen_ok, Result.ok.injEq, and_true]
  apply Array.ext'
  simp
theorem sim_build {zero : List Value} {ps : List (Nat × Nat × Operand)} {p : PV} {us : List (Nat × Obj)} (h : FR gl ph n B O g s a w) (hd : ∀ t, o.dst = some t → t < n) (hr : Rs P o (.build zero ps))
    (hp : pop (evalIn s.env) s.objs (bs + o.dst.getD 0) (.build zero ps) = some (p, us)) (hk : Owed gl ph n B O g w ⟨put s.env o.dst p, updAll s.objs us⟩ K) : o.wp P a w K Q := by
  obtain ⟨t, parts, sz, ho, ⟨i, z, hi, hz, hzc, _, _, hall⟩, hb⟩ := hr
  simp only [pop, Option.map_eq_some_iff, Prod.mk.injEq] at hp
  obtain ⟨cs, hf, rfl, rfl⟩ := hp
  have hz0 : CRel (KR g w s.objs) (zero.map PV.sc) z.cells := by
    have := CRel.zero (R := KR g w s.objs) (fun v hv => .inl (.sc hv)) hall
    rw [← hzc] at this ⊢
    simpa using this
  have fin : ∀ arr : Array Value, CRel (KR g w s.objs) cs arr → XR g w s.objs (.agg cs) (.agg arr) := by
    intro arr hc
    have e : Value.agg arr = Value.agg arr.toList.toArray := by simp
    rw [e]
    refine .inr (.inr (.inl ⟨cs, arr.toList, rfl, rfl, by simp [hc.1], fun j q u hq hu => ?_⟩))
    obtain ⟨u', h1, h2, h3⟩ := hc.2 j q hq
    have : u' = u := by
      rw [Array.getElem?_toList] at hu
      rw [h1] at hu
      exact Option.some.inj hu
    subst this
    exact ⟨h2, h3⟩
  have hpl : (parts.map fun (x : Nat × Operand) => (x.1, a.eval x.2)).toList = parts.toList.map fun p => (p.1, a.eval p.2) := by simp
  rcases hb with ⟨fs, hu, hinf, hpo⟩ | ⟨m, e, ie, hu, hie, hpo⟩
  · obtain ⟨arr', ha, hc⟩ := h.fill _ parts.toList ps _ cs _ hpo hf hz0
    refine sim_val h hd (v := .agg arr') ?_ (fin arr' hc) hk
    have hm : (fs.mapM fun f => (do pure (f.offset, ← sizeOf f.type) : Sem (Nat × Nat))).run P w = .ok (fs.map fun f => (f.offset, ((P.info? f.type).map (·.size)).getD 0)) w := by
      refine run_mapM_array _ _ fs (fun f hf' => ?_)
      obtain ⟨k, hk'⟩ := List.mem_iff_getElem?.1 hf'
      obtain ⟨inf, hinf'⟩ := Option.isSome_iff_exists.1 (hinf k f (by simpa using hk'))
      simp only [Sem.run_bind, run_sizeOf hinf', Result.andThen_ok, Sem.run_pure, hinf', Option.map_some, Option.getD_some]
    have hplace : (fun k : Nat => (fs.map fun (f : Field) => (f.offset, ((P.info? f.type).map (·.size)).getD 0))[k]?) = fun k => (fs[k]?).bind fun (f : Field) => (P.info? f.type).map fun i => (f.offset, i.size) := by
      funext k
      simp only [Array.getElem?_map]
      cases hfk : fs[k]? with
      | none => rfl
      | some f =>
        obtain ⟨inf, hinf'⟩ := Option.isSome_iff_exists.1 (hinf k f hfk)
        simp [hinf']
    simp only [execOp, ho, Instr.build, Sem.run_bind, run_zeroValue hi hz, Result.andThen_ok, run_underlying hu, hm, hpl]
    simp only [hplace, ha, Sem.run_pure, Result.andThen_ok]
  · obtain ⟨arr', ha, hc⟩ := h.fill _ parts.toList ps _ cs _ hpo hf hz0
    refine sim_val h hd (v := .agg arr') ?_ (fin arr' hc) hk
    simp only [execOp, ho, Instr.build, Sem.run_bind, run_zeroValue hi hz, Result.andThen_ok, run_underlying hu, run_sizeOf hie, hpl, ha, Sem.run_pure]
end
end Go.Hf
end
section
namespace Go.Hf
open Go.RowKit
section
variable {P : Program} {n B bs : Nat} {O : Nat → Prop} {gl : Gl} {ph : Gh × (Nat → Obj) × World × List Deferred} {g : Gh} {s : St} {a : Act} {w w' : World} {o : Oper} {K : Act → World → Prop} {Q : Exit → Act → World → Prop}
def ERel (R : PV → Value → Prop) (sz : Nat) (es : List (List PV)) (arr : Array Value) : Prop :=
  (∀ (i : Nat) (cs : List PV), es[i]? = some cs → cs.length = sz) ∧
  ∀ (i j : Nat) (cs : List PV) (p : PV), es[i]? = some cs → cs[j]? = some p → ∃ u, arr[i * sz + j]? = some u ∧ p.isCell = true ∧ R p u
theorem FR.newBld (h : FR gl ph n B O g s a w) (d cap e sz : Nat) (es : List (List PV)) (raw : Bool) (arr : Array Value) (hw : w'.heap = w.heap.push (.cells arr e (0, 0))) (hsz : arr.size = cap * sz) (hl : es.length ≤ cap) (hm : cap ≤ maxLen)
    (hE : ERel (VR g.c w) sz es arr) : FR gl ph n B O (g.new w d cap) ⟨s.env, upd s.objs d (.bld ((s.objs d).stamp + 1) e sz es raw)⟩ a w' := by
  refine h.new d cap (.bld ((s.objs d).stamp + 1) e sz es raw) (Nat.lt_succ_self _) hw ⟨arr, ?_, ?_, ?_, ?_, hE.1, fun i j cs p hi hj => ?_, fun _ => ?_, ?_⟩
  · simp only [Gh.new, upd_same]; exact heap_push_new hw
  · simp only [Gh.new, upd_same]; exact hsz
  · simp only [Gh.new, upd_same]; exact hl
  · simp only [Gh.new, upd_same]; exact hm
  · obtain ⟨u, h1, h2, h3⟩ := hE.2 i j cs p hi hj
    exact ⟨u, h1, h2, h3.mono (Ext.push g hw)⟩
  · simp [Gh.new, upd]
  · simp [Gh.new, upd]
theorem sim_newBld (h : FR gl ph n B O g s a w) (hd : ∀ t, o.dst = some t → t < n) (k cap e sz : Nat) (es : List (List PV)) (raw : Bool) (arr : Array Value)
    (hrun : (execOp a.eval o).run P w = .ok (.value (.slice (some ⟨w.heap.size, 0, none⟩) es.length cap)) w') (hw : w'.heap = w.heap.push (.cells arr e (0, 0))) (ho : w'.os = w.os) (ht : w'.tape = w.tape) (hu : w'.output = w.output)
    (hsz : arr.size = cap * sz) (hl : es.length ≤ cap) (hm : cap ≤ maxLen) (hE : ERel (VR g.c w) sz es arr)
    (hk : Owed gl ph n B O g w ⟨put s.env o.dst (.bld k ((s.objs k).stamp + 1) 0 es.length), upd s.objs k (.bld ((s.objs k).stamp + 1) e sz es raw)⟩ K) : o.wp P a w K Q := by
  have hF := h.newBld k cap e sz es raw arr hw hsz hl hm hE
  refine wp_value hrun (hk _ _ _ (hF.put o.dst hd (.inr (.inl (.inr ⟨by simp [upd, Obj.stamp], _, _, _, rfl, hl, hm, fun e' sz' es' raw' hob => ?_⟩)))) (PB.push h hw ho ht hu))
  have hob' : upd s.objs k (.bld ((s.objs k).stamp + 1) e sz es raw) k = .bld ((s.objs k).stamp + 1) e' sz' es' raw' := hob
  rw [upd_same] at hob'
  cases hob'
  simp [Gh.new, upd]
theorem madeCells_get (z : Array Value) (m k : Nat) (hk : k < m) : (madeCells z m)[k]? = some (z[k % z.size]!) := by
  simp [madeCells, hk]
theorem sim_mkslice {e sz bytes : Nat} {zero : List Value} {l c : Operand} {p : PV} {us : List (Nat × Obj)} (h : FR gl ph n B O g s a w) (hd : ∀ t, o.dst = some t → t < n) (hr : Rs P o (.mkslice e sz bytes zero l c))
    (hp : pop (evalIn s.env) s.objs (bs + o.dst.getD 0) (.mkslice e sz bytes zero l c) = some (p, us)) (hk : Owed gl ph n B O g w ⟨put s.env o.dst p, updAll s.objs us⟩ K) : o.wp P a w K Q := by
  obtain ⟨t, i', ho, _, ht, ⟨i, z, hi, hz, hzc, hisz, hzl, hall⟩, hi', hby, hsz0, hl, hc⟩ := hr
  have hii : i' = i := by rw [hi] at hi'; exact (Option.some.inj hi').symm
  subst hii
  have el := h.opnd hl
  have ec := h.opnd hc
  simp only [pop] at hp
  split at hp
  · rename_i x y hx hy
    rw [hx] at el
    rw [hy] at ec
    split at hp
    · rename_i hcond
      obtain ⟨h0, h1, h2, h3⟩ := hcond
      cases hp
      have hrun := run_make (P := P) w t e i' z ht hi hz .i64 .i64 x y h0 h1 (by rw [hby, Int.mul_comm]; omega) (by omega)
      have hzs : z.cells.size = sz := by rw [← hzl, ← hzc]; simp
      have hes : (List.replicate x.toNat (zero.map PV.sc)).length = x.toNat := by simp
      refine sim_newBld h hd (bs + o.dst.getD 0) y.toNat e sz (List.replicate x.toNat (zero.map PV.sc)) true (madeCells z.cells (y.toNat * i'.size)) (w' := w.alloc (.cells (madeCells z.cells (y.toNat * i'.size)) e)) ?_ rfl rfl rfl rfl
        (by rw [size_madeCells, hisz]) (by simp; omega) (by simp only [maxLen]; omega) ⟨fun k cs hk' => ?_, fun k j cs q hk' hj => ?_⟩ ?_
      · rw [hes]
        simp only [execOp, ho, el.sc_inv.1, ec.sc_inv.1, Sem.run_bind, hrun, Result.andThen_ok, Sem.run_pure]
      · have := List.mem_of_getElem? hk'
        simp at this
        rw [this.2]; simpa using hzl
      · have hmem := List.mem_of_getElem? hk'
        simp at hmem
        obtain ⟨_, rfl⟩ := hmem
        have hkl : k < x.toNat := by have := (List.getElem?_eq_some_iff.1 hk').1; simpa using this
        simp only [List.getElem?_map, Option.map_eq_some_iff] at hj
        obtain ⟨v, hv, rfl⟩ := hj
        have hjl : j < sz := by have := (List.getElem?_eq_some_iff.1 hv).1; omega
        have hs : scalarV v = true := List.all_eq_true.1 hall v (List.mem_of_getElem? hv)
        have hlt : k * sz + j < y.toNat * i'.size := by
          rw [hisz]
          have := Nat.mul_le_mul_right sz (show k + 1 ≤ y.toNat by omega)
          rw [Nat.add_mul, Nat.one_mul] at this
          omega
        refine ⟨v, ?_, hs, .sc hs⟩
        rw [madeCells_get _ _ _ hlt, hzs, Nat.mul_comm, Nat.mul_add_mod, Nat.mod_eq_of_lt hjl]
        have : z.cells[j]? = some v := by rw [← hzc] at hv; simpa using hv
        simp [getElem!_def, this]
      · simpa [updAll] using hk
    · simp at hp
  · simp at hp
theorem FR.slice_elems (h : FR gl ph n B O g s a w) {p : PV} {v : Value} (hx : XR g w s.objs p v) {sz : Nat} {es : List (List PV)} (he : elems s.objs sz p = some es) :
    (v = .slice none 0 0 ∧ es = []) ∨ ∃ b o' cap, v = .slice (some ⟨b, o', none⟩) es.length cap ∧ (∀ (i : Nat) (cs : List PV), es[i]? = some cs → cs.length = sz) ∧
      ∀ (i j : Nat) (cs : List PV) (q : PV), es[i]? = some cs → cs[j]? = some q → ∃ u, w.cell? ⟨b, o' + (i * sz + j), none⟩ = some u ∧ q.isCell = true ∧ VR g.c w q u := by
  unfold elems at he
  split at he
  · cases he; exact .inl ⟨hx.sc_inv.1, rfl⟩
  · split at he
    · rename_i hs
      subst hs
      cases he
      cases hx.lst_inv with
      | lst vals hcap hm hb hc hsz hcell hci hv =>
        exact .inr ⟨_, _, _, rfl, hsz, fun i j cs q hi hj => ⟨_, hcell i j cs q hi hj, hci i j cs q hi hj, hv i j cs q hi hj⟩⟩
    · simp at he
  · rename_i k st off len
    split at he
    · rename_i s' e' sz' es' raw hob
      split at he
      · rename_i hc
        obtain ⟨rfl, rfl, hle⟩ := hc
        cases he
        obtain ⟨_, b, o', cap, rfl, h1, h2, h3⟩ := hx.ref_inv (by simp [PV.key, PV.key0])
        obtain ⟨f1, f2, f3, f4⟩ := h3 _ _ _ _ hob
        have hO := h.obj k
        rw [hob] at hO
        obtain ⟨arr, r1, r2, r3, r4, r5, r6, r7, r8⟩ := hO
        have hlen : ((es'.drop off).take len).length = len := by simp; omega
        have hget : ∀ (i : Nat) (cs : List PV), ((es'.drop off).take len)[i]? = some cs → es'[off + i]? = some cs ∧ i < len := by
          intro i cs hi
          rw [List.getElem?_take] at hi
          split at hi
          · rename_i hlt; rw [List.getElem?_drop] at hi; exact ⟨hi, hlt⟩
          · cases hi
        refine .inr ⟨b, o', cap, by rw [hlen], fun i cs hi => r5 _ _ (hget i cs hi).1, fun i j cs q hi hj => ?_⟩
        obtain ⟨u, q1, q2, q3⟩ := r6 (off + i) j cs q (hget i cs hi).1 hj
        have hpos := (hget i cs hi).2
        have ho' := f3 (.inl (by omega))
        refine ⟨u, ?_, q2, q3⟩
        rw [f2, ho', cell_of_heap r1, ← q1]
        congr 1
        rw [Nat.add_mul]; omega
      · simp at he
    · simp at he
  · simp at he
theorem flat_idx {i sz j : Nat} (h : j < sz) : (i * sz + j) / sz = i ∧ (i * sz + j) % sz = j := by
  have hp : 0 < sz := by omega
  constructor
  · rw [Nat.mul_comm, Nat.mul_add_div hp, Nat.div_eq_of_lt h]; rfl
  · rw [Nat.mul_comm, Nat.mul_add_mod, Nat.mod_eq_of_lt h]
theorem cells_list {b o' sz : Nat} {es : List (List PV)} {R : PV → Value → Prop} (hs : ∀ (i : Nat) (cs : List PV), es[i]? = some cs → cs.length = sz)
    (hc : ∀ (i j : Nat) (cs : List PV) (q : PV), es[i]? = some cs → cs[j]? = some q → ∃ u, w.cell? ⟨b, o' + (i * sz + j), none⟩ = some u ∧ q.isCell = true ∧ R q u) :
    ∃ news : List Value, news.length = es.length * sz ∧ (∀ (j : Nat) (u : Value), news[j]? = some u → w.cell? ⟨b, o' + j, none⟩ = some u) ∧
      ∀ (i j : Nat) (cs : List PV) (q : PV), es[i]? = some cs → cs[j]? = some q → ∃ u, news[i * sz + j]? = some u ∧ q.isCell = true ∧ R q u := by
  have hsome : ∀ k, k < es.length * sz → ∃ u, w.cell? ⟨b, o' + k, none⟩ = some u := by
    intro k hk
    have hp : 0 < sz := by rcases Nat.eq_zero_or_pos sz with h0 | h0; · subst h0; simp at hk
                           · exact h0
    have hi : k / sz < es.length := by rw [Nat.div_lt_iff_lt_mul hp]; exact hk
    have hj : k % sz < sz := Nat.mod_lt _ hp
    have hcs := List.getElem?_eq_getElem hi
    have hl := hs _ _ hcs
    obtain ⟨u, h1, _⟩ := hc (k / sz) (k % sz) _ _ hcs (List.getElem?_eq_getElem (by omega))
    exact ⟨u, by rw [← h1]; congr 2; rw [Nat.mul_comm, Nat.div_add_mod]⟩
  refine ⟨(List.range (es.length * sz)).map fun k => (w.cell? ⟨b, o' + k, none⟩).getD undef, by simp, fun j u hu => ?_, fun i j cs q hi hj => ?_⟩
  · simp only [List.getElem?_map, Option.map_eq_some_iff] at hu
    obtain ⟨k, hk, rfl⟩ := hu
    have hlt : j < es.length * sz := by have := (List.getElem?_eq_some_iff.1 hk).1; simpa using this
    have : k = j := by rw [List.getElem?_range hlt] at hk; exact (Option.some.inj hk).symm
    subst this
    obtain ⟨u, h1⟩ := hsome k hlt
    simp [h1]
  · obtain ⟨u, h1, h2, h3⟩ := hc i j cs q hi hj
    have hil : i < es.length := (List.getElem?_eq_some_iff.1 hi).1
    have hjl : j < sz := by have := (List.getElem?_eq_some_iff.1 hj).1; have := hs i cs hi; omega
    have hlt : i * sz + j < es.length * sz := by
      have := Nat.mul_le_mul_right sz (show i + 1 ≤ es.length from hil)
      rw [Nat.add_mul, Nat.one_mul] at this
      omega
    refine ⟨u, ?_, h2, h3⟩
    simp [List.getElem?_range hlt, h1]
end
end Go.Hf
end
section
namespace Go.Hf
open Go.RowKit
section
variable {P : Program} {n B bs : Nat} {O : Nat → Prop} {gl : Gl} {ph : Gh × (Nat → Obj) × World × List Deferred} {g : Gh} {s : St} {a : Act} {w w' : World} {o : Oper} {K : Act → World → Prop} {Q : Exit → Act → World → Prop}
theorem FR.extend (h : FR gl ph n B O g s a w) (k : Nat) (x : Obj) (arr : Array Value) (hl : (s.objs k).live) (hE : Ext g.c w g.c (w.setRow (g.blk k) arr))
    (hS : ObStep g s.objs g (upd s.objs k x)) (hobj : ObjR g (w.setRow (g.blk k) arr) (upd s.objs k x) k x) :
    FR gl ph n B O g ⟨s.env, upd s.objs k x⟩ a (w.setRow (g.blk k) arr) ∧ PB B O g.c w g.c (w.setRow (g.blk k) arr) := by
  obtain ⟨a1, a2, a3, a4⟩ := setRow_alike w (g.blk k) arr
  have hother : ∀ b, b ≠ g.blk k → (w.setRow (g.blk k) arr).heap[b]? = w.heap[b]? := fun b hb => setRow_other w (g.blk k) b arr (fun e => hb (by simpa using e))
  refine ⟨h.pass (upd s.objs k x) (· = k) hE hS (fun k' hk' => upd_ne _ _ hk') (fun k' hkk hl' => ?_) (fun k' hkk hl' => ?_), ⟨a1, a2, a3, by omega, fun b hb hO => hother b ?_, fun _ _ _ => rfl⟩⟩
  · exact ⟨rfl, rfl, rfl, hother _ (fun e => hkk (h.inj k' k hl' hl e))⟩
  · subst hkk
    refine ⟨by rw [upd_same]; exact hobj, (h.fresh k' hl).1, by rw [a4]; exact (h.fresh k' hl).2, fun k2 hk2 hl2 => ?_⟩
    rw [upd_ne _ _ hk2] at hl2
    exact fun e => hk2 (h.inj k2 k' hl2 hl e)
  · intro e
    subst e
    rcases (h.fresh k hl).1 with h1 | h1
    · omega
    · exact hO h1
theorem ObStep.bump {ob : Nat → Obj} (g : Gh) (k : Nat) (x : Obj) (hx : x.stamp = (ob k).stamp + 1) : ObStep g ob g (upd ob k x) := by
  intro k'
  by_cases hk : k' = k
  · subst hk
    rw [upd_same]
    refine ⟨by omega, fun cs hc => ?_, fun e sz es raw hc => ?_, fun es hc => ?_⟩
    · rw [hc] at hx; simp [Obj.stamp] at hx
    · rw [hc] at hx; simp [Obj.stamp] at hx
    · rw [hc] at hx; simp [Obj.stamp] at hx
  · rw [upd_ne _ _ hk]
    exact ⟨Nat.le_refl _, fun cs hc => ⟨⟨cs, hc⟩, rfl⟩, fun _ _ es raw hc => ⟨⟨es, raw, hc, Nat.le_refl _⟩, rfl, rfl⟩, fun es hc => ⟨⟨es, hc⟩, rfl⟩⟩
theorem ERel.append {R : PV → Value → Prop} {sz len : Nat} {es ys : List (List PV)} {xs news : List Value} {tl : List Value} (h1 : ∀ (i : Nat) (cs : List PV), es[i]? = some cs → cs.length = sz) (hl : len ≤ es.length) (hx : xs.length = len * sz)
    (h2 : ∀ (i j : Nat) (cs : List PV) (p : PV), i < len → es[i]? = some cs → cs[j]? = some p → ∃ u, xs[i * sz + j]? = some u ∧ p.isCell = true ∧ R p u)
    (h3 : ∀ (i : Nat) (cs : List PV), ys[i]? = some cs → cs.length = sz)
    (h4 : ∀ (i j : Nat) (cs : List PV) (p : PV), ys[i]? = some cs → cs[j]? = some p → ∃ u, news[i * sz + j]? = some u ∧ p.isCell = true ∧ R p u) :
    ERel R sz (es.take len ++ ys) (xs ++ news ++ tl).toArray := by
  have hlen : (es.take len).length = len := by simp; omega
  refine ⟨fun i cs hi => ?_, fun i j cs p hi hj => ?_⟩
  · rw [List.getElem?_append] at hi
    split at hi
    · rw [List.getElem?_take] at hi
      split at hi
      · exact h1 i cs hi
      · cases hi
    · exact h3 _ cs hi
  · rw [List.getElem?_append] at hi
    rw [List.getElem?_toArray, List.append_assoc]
    split at hi
    · rename_i hil
      rw [hlen] at hil
      rw [List.getElem?_take, if_pos hil] at hi
      obtain ⟨u, q1, q2, q3⟩ := h2 i j cs p hil hi hj
      refine ⟨u, ?_, q2, q3⟩
      rw [List.getElem?_append_left ((List.getElem?_eq_some_iff.1 q1).1)]
      exact q1
    · rename_i hil
      rw [hlen] at hil hi
      obtain ⟨u, q1, q2, q3⟩ := h4 (i - len) j cs p hi hj
      refine ⟨u, ?_, q2, q3⟩
      have e1 : i * sz + j = len * sz + ((i - len) * sz + j) := by
        rw [← Nat.add_assoc, ← Nat.add_mul]; congr 2; omega
      rw [e1, List.getElem?_append_right (by omega), hx, Nat.add_sub_cancel_left, List.getElem?_append_left ((List.getElem?_eq_some_iff.1 q1).1)]
      exact q1
theorem VR.oneCell {c : Nat → Nat} {q : PV} {u : Value} (hc : q.isCell = true) (h : VR c w q u) : u.oneCell' = true :=
  KR.oneCell (g := ⟨c, fun _ => 0, fun _ => 0⟩) (ob := fun _ => .no 0) hc (.inl h)
theorem FR.news (h : FR gl ph n B O g s a w) {x : Operand} (hx : opndOk x = true) {sz : Nat} {ys : List (List PV)} (hys : elems s.objs sz (evalIn s.env x) = some ys) :
    (a.eval x = .slice none 0 0 ∧ ys = []) ∨ ∃ (ad : Addr) (cap : Nat) (news : List Value), a.eval x = .slice (some ad) ys.length cap ∧ news.length = ys.length * sz ∧
      (∀ (j : Nat) (u : Value), news[j]? = some u → w.cell? (ad.add j) = some u) ∧ (∀ u : Value, u ∈ news → u.oneCell' = true) ∧ (∀ (i : Nat) (cs : List PV), ys[i]? = some cs → cs.length = sz) ∧
      ∀ (i j : Nat) (cs : List PV) (q : PV), ys[i]? = some cs → cs[j]? = some q → ∃ u, news[i * sz + j]? = some u ∧ q.isCell = true ∧ VR g.c w q u := by
  rcases h.slice_elems (h.opnd hx) hys with h1 | ⟨b, o', cap, h1, h2, h3⟩
  · exact .inl h1
  · obtain ⟨news, q1, q2, q3⟩ := cells_list (R := VR g.c w) h2 h3
    refine .inr ⟨⟨b, o', none⟩, cap, news, h1, q1, fun j u hu => by rw [add_lit]; exact q2 j u hu, fun u hu => ?_, h2, q3⟩
    obtain ⟨k, hk⟩ := List.mem_iff_getElem?.1 hu
    have hlt : k < ys.length * sz := by have := (List.getElem?_eq_some_iff.1 hk).1; omega
    have hp : 0 < sz := by rcases Nat.eq_zero_or_pos sz with h0 | h0
                           · subst h0; simp at hlt
                           · exact h0
    have hi : k / sz < ys.length := by rw [Nat.div_lt_iff_lt_mul hp]; exact hlt
    have hj : k % sz < sz := Nat.mod_lt _ hp
    have hcs := List.getElem?_eq_getElem hi
    have hl := h2 _ _ hcs
    obtain ⟨u', a1, a2, a3⟩ := q3 (k / sz) (k % sz) _ _ hcs (List.getElem?_eq_getElem (by omega))
    have e1 : k / sz * sz + k % sz = k := by rw [Nat.mul_comm, Nat.div_add_mod]
    rw [e1, hk] at a1
    cases a1
    exact a3.oneCell a2
theorem zeroCells_size (z : Array Value) (m : Nat) : (Builtin.zeroCells z m).size = m * z.size := size_zeroCells z m
theorem sim_append {e sz bytes : Nat} {sl x : Operand} {raw : Bool} {p : PV} {us : List (Nat × Obj)} (h : FR gl ph n B O g s a w) (hd : ∀ t, o.dst = some t → t < n) (hr : Rs P o (.append e sz bytes sl x raw))
    (hp : pop (evalIn s.env) s.objs (bs + o.dst.getD 0) (.append e sz bytes sl x raw) = some (p, us)) (hk : Owed gl ph n B O g w ⟨put s.env o.dst p, updAll s.objs us⟩ K) : o.wp P a w K Q := by
  obtain ⟨t, i, ho, hds, ht, hi, hby, ⟨z, hz, hzs⟩, hisz, hsz0, hsl, hx⟩ := hr
  have es1 := h.opnd hsl
  have key : ∀ (v : Value) (w1 : World), (Builtin.append_ #[t, t] o.type #[a.eval sl, a.eval x]).run P w = .ok v w1 → (execOp a.eval o).run P w = .ok (.value v) w1 := by
    intro v w1 hv
    simp only [execOp, ho, resolve, invoke, builtin, Sem.run_bind, Sem.run_pure, Result.andThen_ok, List.map_toArray, List.map_cons, List.map_nil, hv]
  have hgr : ∀ (need old : Nat), need ≤ 1099511627776 → need ≤ grownCap w need old e ∧ grownCap w need old e ≤ maxLen := fun need old hn =>
    ⟨grownCap_ge w need old e, grownCap_le_maxLen w need old e (by simp only [maxLen]; omega)⟩
  simp only [pop] at hp
  split at hp
  · rename_i ys hsn hys
    rw [hsn] at es1
    have e1 := es1.sc_inv.1
    split at hp
    · rename_i hcond
      obtain ⟨hb1, hb2⟩ := hcond
      split at hp
      · rename_i h0
        cases hp
        have hys0 : ys = [] := List.eq_nil_of_length_eq_zero h0
        subst hys0
        refine sim_val h hd (v := .slice none 0 0) (key _ _ ?_) (.sc rfl) hk
        rcases h.news hx hys with ⟨h1, _⟩ | ⟨ad, cap, news, h1, _⟩
        · rw [e1, h1]
          simp [Builtin.append_, run_underlying ht, sizeOf, typeInfo, hi, Builtin.lenOf, Builtin.firstCells]
        · rw [e1, h1]
          simp [Builtin.append_, run_underlying ht, sizeOf, typeInfo, hi, Builtin.lenOf, Builtin.firstCells, loadCells, loadCellsFrom]
      · rename_i h0
        cases hp
        rcases h.news hx hys with ⟨_, h1⟩ | ⟨ad, cap, news, h1, h2, h3, h4, h5, h6⟩
        · subst h1; simp at h0
        · have hrun := run_append_nil (P := P) w t o.type e i z ht hi hz ad ys.length cap news (by rw [hisz]; exact h2) h3 (by omega) (by omega) (by rw [hby]; omega)
          obtain ⟨g1, g2⟩ := hgr ys.length 0 hb2
          rw [← e1, ← h1] at hrun
          refine sim_newBld h hd (bs + o.dst.getD 0) (grownCap w ys.length 0 e) e sz ys raw _ (key _ _ hrun) rfl rfl rfl rfl ?_ g1 g2 ?_ (by simpa [updAll] using hk)
          · rw [Array.size_append, zeroCells_size, List.size_toArray, h2, hzs, ← Nat.add_mul]; congr 1; omega
          · have := ERel.append (R := VR g.c w) (sz := sz) (len := 0) (es := []) (ys := ys) (xs := []) (news := news) (tl := (Builtin.zeroCells z.cells (grownCap w ys.length 0 e - ys.length)).toList) (by simp) (by simp) (by simp) (by simp) h5 h6
            have e : (news.toArray ++ Builtin.zeroCells z.cells (grownCap w ys.length 0 e - ys.length)) = (([] : List Value) ++ news ++ (Builtin.zeroCells z.cells (grownCap w ys.length 0 e - ys.length)).toList).toArray := by apply Array.ext'; simp
            rw [e]
            exact this
    · simp at hp
  · rename_i k st len ys hsn hys
    rw [hsn] at es1
    obtain ⟨hst, b, o', cap, e1, hlc, hcm, e4⟩ := es1.ref_inv (by simp [PV.key, PV.key0])
    split at hp
    · rename_i st' e' sz' es r hob
      split at hp
      · rename_i hcond
        obtain ⟨rfl, rfl, rfl, hlen, hb1, hb2⟩ := hcond
        cases hp
        obtain ⟨f1, f2, f3, f4⟩ := e4 _ _ _ _ hob
        have ho' : o' = 0 := by rw [f3 (.inr rfl)]; simp
        have hcap : cap = g.cap k := f4 rfl
        subst f2
        subst ho'
        subst hcap
        have hO := h.obj k
        rw [hob] at hO
        obtain ⟨arr, r1, r2, r3, r4, r5, r6, r7, r8⟩ := hO
        have hlive : (s.objs k).live := by rw [hob]; trivial
        have hle : len ≤ es.length := by rcases hlen with hl | ⟨_, hl⟩ <;> omega
        have hstamp : (s.objs k).stamp = st := by rw [hob]; rfl
        let xs : List Value := arr.toList.take (len * sz')
        have hlsz : len * sz' ≤ arr.size := by rw [r2]; exact Nat.mul_le_mul_right _ hlc
        have hxs : xs.length = len * sz' := by simp [xs]; omega
        have hxsget : ∀ (i' j : Nat) (cs : List PV) (q : PV), i' < len → es[i']? = some cs → cs[j]? = some q → ∃ u, xs[i' * sz' + j]? = some u ∧ q.isCell = true ∧ VR g.c w q u := by
          intro i' j cs q hil hi' hj
          obtain ⟨u, q1, q2, q3⟩ := r6 i' j cs q hi' hj
          refine ⟨u, ?_, q2, q3⟩
          have hjl : j < sz' := by have := (List.getElem?_eq_some_iff.1 hj).1; have := r5 i' cs hi'; omega
          have := Nat.mul_le_mul_right sz' (show i' + 1 ≤ len from hil)
          rw [Nat.add_mul, Nat.one_mul] at this
          simp only [xs]
          rw [List.getElem?_take, if_pos (by omega)]
          simpa using q1
        have hcle : g.c (g.blk k) ≤ len * sz' := by
          rcases hlen with hl | ⟨hr', _⟩
          · rw [hl]; exact r8
          · rw [r7 hr']; omega
        have inplace : ∀ (news : List Value), news.length = ys.length * sz' → len + ys.length ≤ g.cap k → (∀ (i : Nat) (cs : List PV), ys[i]? = some cs → cs.length = sz') →
            (∀ (i j : Nat) (cs : List PV) (q : PV), ys[i]? = some cs → cs[j]? = some q → ∃ u, news[i * sz' + j]? = some u ∧ q.isCell = true ∧ VR g.c w q u) →
            (execOp a.eval o).run P w = .ok (.value (.slice (some ⟨g.blk k, 0, none⟩) (len + ys.length) (g.cap k))) (w.setRow (g.blk k) (arr.toList.take (len * sz') ++ news ++ arr.toList.drop (len * sz' + news.length)).toArray) → o.wp P a w K Q := by
          intro news h2 hroom h5 h6 hrun
          have hE : Ext g.c w g.c (w.setRow (g.blk k) (arr.toList.take (len * sz') ++ news ++ arr.toList.drop (len * sz' + news.length)).toArray) := by
            obtain ⟨a1, a2, a3, a4⟩ := setRow_alike w (g.blk k) (arr.toList.take (len * sz') ++ news ++ arr.toList.drop (len * sz' + news.length)).toArray
            refine ⟨by omega, fun _ _ => Nat.le_refl _, fun b' i' hb hi' => ?_⟩
            by_cases hbk : b' = g.blk k
            · subst hbk
              rw [cell_of_heap (setRow_heap w (g.blk k) arr _ e' (0, 0) r1), cell_of_heap r1, List.getElem?_toArray, List.append_assoc, List.getElem?_append_left (by simp; omega), List.getElem?_take, if_pos (by omega)]
              simp
            · simp only [World.cell?, setRow_other w (g.blk k) b' _ (fun e => hbk (by simpa using e))]
          have hS := ObStep.bump (ob := s.objs) g k (.bld (st + 1) e' sz' (es.take len ++ ys) r) (by rw [hstamp]; rfl)
          have hfit : len * sz' + ys.length * sz' ≤ arr.size := by rw [r2, ← Nat.add_mul]; exact Nat.mul_le_mul_right _ hroom
          have hER := ERel.append (R := VR g.c w) (tl := arr.toList.drop (len * sz' + news.length)) r5 hle hxs hxsget h5 h6
          have hW := h.extend k (.bld (st + 1) e' sz' (es.take len ++ ys) r) _ hlive hE hS (by
            refine ⟨_, setRow_heap w (g.blk k) arr _ e' (0, 0) r1, ?_, ?_, r4, hER.1, fun i' j cs q hi' hj => ?_, r7, ?_⟩
            · simp; rw [h2]; omega
            · simp; omega
            · obtain ⟨u, q1, q2, q3⟩ := hER.2 i' j cs q hi' hj
              exact ⟨u, q1, q2, q3.mono hE⟩
            · have : (es.take len ++ ys).length = len + ys.length := by simp; omega
              rw [this, Nat.add_mul]; omega)
          refine wp_value hrun (hk g _ _ (hW.1.put o.dst hd (.inr (.inl (.inr ⟨by simp [upd, Obj.stamp], _, _, _, rfl, hroom, hcm, fun e'' sz'' es'' raw'' hob' => ?_⟩)))) hW.2)
          have hob2 : upd s.objs k (.bld (st + 1) e' sz' (es.take len ++ ys) r) k = .bld (st + 1) e'' sz'' es'' raw'' := hob'
          rw [upd_same] at hob2
          cases hob2
          refine ⟨by simp; omega, rfl, by simp, fun _ => rfl⟩
        rcases h.news hx hys with ⟨h1, h0⟩ | ⟨ad, c, news, h1, h2, h3, h4, h5, h6⟩
        · subst h0
          refine inplace [] (by simp) (by simpa using hlc) (by simp) (by simp) (key _ _ ?_)
          rw [e1, h1]
          simp [Builtin.append_, run_underlying ht, sizeOf, typeInfo, hi, Builtin.lenOf, Builtin.firstCells, hlc, storeCells]
          rw [setRow_self w (g.blk k) arr e' (0, 0) r1]
        · by_cases hroom : len + ys.length ≤ g.cap k
          · have hrun := run_append_room (P := P) w t o.type e' i ht hi (g.blk k) len (g.cap k) arr r1 ad ys.length c news (by rw [hisz]; exact h2) h3 h4 hroom (by rw [hisz, h2, r2, ← Nat.add_mul]; exact Nat.mul_le_mul_right _ hroom)
            rw [hisz, ← e1, ← h1] at hrun
            exact inplace news h2 hroom h5 h6 (key _ _ hrun)
          · have hrun := run_append_grow (P := P) w t o.type e' i z ht hi hz ⟨g.blk k, 0, none⟩ len (g.cap k) xs (by rw [hisz]; exact hxs)
              (fun j v hv => by
                rw [add_lit, Nat.zero_add, cell_of_heap r1]
                simp only [xs] at hv
                rw [List.getElem?_take] at hv
                split at hv
                · simpa using hv
                · cases hv) ad ys.length c news (by rw [hisz]; exact h2) h3 (by omega) (by omega) (growslice_fits (by omega) (by rw [hby]; omega))
            rw [← e1, ← h1] at hrun
            obtain ⟨g1, g2⟩ := hgr (len + ys.length) (g.cap k) hb2
            have hl2 : (es.take len ++ ys).length = len + ys.length := by simp; omega
            have hk2 : Owed gl ph n B O g w ⟨put s.env o.dst (.bld k ((s.objs k).stamp + 1) 0 (es.take len ++ ys).length), upd s.objs k (.bld ((s.objs k).stamp + 1) e' sz' (es.take len ++ ys) r)⟩ K := by
              rw [hstamp, hl2]; simpa [updAll] using hk
            refine sim_newBld (w' := w.drew.alloc (.cells (xs.toArray ++ news.toArray ++ Builtin.zeroCells z.cells (grownCap w (len + ys.length) (g.cap k) e' - (len + ys.length))) e')) h hd k (grownCap w (len + ys.length) (g.cap k) e') e' sz' (es.take len ++ ys) r _ (by rw [hl2]; exact key _ _ hrun) rfl rfl rfl rfl ?_ (by omega) g2 ?_ hk2
            · rw [Array.size_append, Array.size_append, zeroCells_size, List.size_toArray, List.size_toArray, hxs, h2, hzs, ← Nat.add_mul, ← Nat.add_mul]; congr 1; omega
            · have := ERel.append (R := VR g.c w) (tl := (Builtin.zeroCells z.cells (grownCap w (len + ys.length) (g.cap k) e' - (len + ys.length))).toList) r5 hle hxs hxsget h5 h6
              have e : (xs.toArray ++ news.toArray ++ Builtin.zeroCells z.cells (grownCap w (len + ys.length) (g.cap k) e' - (len + ys.length))) = (xs ++ news ++ (Builtin.zeroCells z.cells (grownCap w (len + ys.length) (g.cap k) e' - (len + ys.length))).toList).toArray := by apply Array.ext'; simp
              rw [e]
              exact this
      · simp at hp
    · simp at hp
  · simp at hp
end
end Go.Hf
end
section
namespace Go.Hf
open Go.RowKit
section
variable {P : Program} {n B bs : Nat} {O : Nat → Prop} {gl : Gl} {ph : Gh × (Nat → Obj) × World × List Deferred} {g : Gh} {s : St} {a : Act} {w w' : World} {o : Oper} {K : Act → World → Prop} {Q : Exit → Act → World → Prop}
theorem strEls_length (b : ByteArray) : (strEls b).length = b.size := by
  simp [strEls]
theorem strEls_rel {c : Nat → Nat} {w : World} (b : ByteArray) : (∀ (i : Nat) (cs : List PV), (strEls b)[i]? = some cs → cs.length = 1) ∧
    ∀ (i j : Nat) (cs : List PV) (q : PV), (strEls b)[i]? = some cs → cs[j]? = some q → ∃ u, (Lib.strCells b)[i * 1 + j]? = some u ∧ q.isCell = true ∧ VR c w q u := by
  have key : ∀ (i : Nat) (cs : List PV), (strEls b)[i]? = some cs → ∃ y, b.data.toList[i]? = some y ∧ cs = [.sc (.int .u8 y.toNat)] := by
    intro i cs hi
    simp only [strEls, List.getElem?_map, Option.map_eq_some_iff] at hi
    obtain ⟨y, h1, h2⟩ := hi
    exact ⟨y, h1, h2.symm⟩
  refine ⟨fun i cs hi => ?_, fun i j cs q hi hj => ?_⟩
  · obtain ⟨y, _, rfl⟩ := key i cs hi; rfl
  · obtain ⟨y, h1, rfl⟩ := key i cs hi
    cases j with
    | zero =>
      simp at hj
      subst hj
      refine ⟨.int .u8 y.toNat, ?_, rfl, .sc rfl⟩
      rw [Nat.mul_one, Nat.add_zero, Lib.strCells, List.getElem?_map, h1]; rfl
    | succ j => simp at hj
theorem run_append_nil_string (w : World) (t u ty e : TypeId) (i : TypeInfo) (z : Value) (ht : P.underlying t = some (.slice e)) (hu : P.underlying u = some .string) (hi : P.info? e = some i) (hz : i.zero = some z)
    (b : ByteArray) (h0 : 0 < b.size) (h63 : (b.size : Int) ≤ 9223372036854775807) (h48 : b.size * i.bytes ≤ 281474976710656) :
    (Builtin.append_ #[t, u] ty #[.slice none 0 0, .string b]).run P w =
      .ok (.slice (some ⟨w.heap.size, 0, none⟩) b.size (grownCap w b.size 0 e)) (w.drew.alloc (.cells ((Lib.strCells b).toArray ++ Builtin.zeroCells z.cells (grownCap w b.size 0 e - b.size)) e)) := by
  have hn : b.size ≠ 0 := by omega
  have h63' : ¬ (9223372036854775807 < (b.size : Int)) := by omega
  have h48' : ¬ (281474976710656 < Builtin.nextslicecap b.size 0 * i.bytes) := by rw [nextslicecap_zero h0]; omega
  have hf := Lib.run_firstCells_string (P := P) w.drew i.size b
  simp [Builtin.append_, run_underlying ht, run_underlying hu, sizeOf, typeInfo, zeroValue, hi, hz, Builtin.lenOf, hn, h63', h48', Question.forced, run_firstCells_none, hf, newRow, grownCap]
theorem sim_apps {e bytes : Nat} {sl x : Operand} {raw : Bool} {p : PV} {us : List (Nat × Obj)} (h : FR gl ph n B O g s a w) (hd : ∀ t, o.dst = some t → t < n) (hr : Rs P o (.apps e bytes sl x raw))
    (hp : pop (evalIn s.env) s.objs (bs + o.dst.getD 0) (.apps e bytes sl x raw) = some (p, us)) (hk : Owed gl ph n B O g w ⟨put s.env o.dst p, updAll s.objs us⟩ K) : o.wp P a w K Q := by
  obtain ⟨t, t', i, z, ho, hds, ht, ht', hi, hby, hz, hzs, hisz, hsl, hx⟩ := hr
  have es1 := h.opnd hsl
  have key : ∀ (v : Value) (w1 : World), (Builtin.append_ #[t, t'] o.type #[a.eval sl, a.eval x]).run P w = .ok v w1 → (execOp a.eval o).run P w = .ok (.value v) w1 := by
    intro v w1 hv
    simp only [execOp, ho, resolve, invoke, builtin, Sem.run_bind, Sem.run_pure, Result.andThen_ok, List.map_toArray, List.map_cons, List.map_nil, hv]
  have hgr : ∀ (need old : Nat), need ≤ 1099511627776 → need ≤ grownCap w need old e ∧ grownCap w need old e ≤ maxLen := fun need old hn =>
    ⟨grownCap_ge w need old e, grownCap_le_maxLen w need old e (by simp only [maxLen]; omega)⟩
  simp only [pop] at hp
  split at hp
  · rename_i b hsn hxn
    rw [hsn] at es1
    have ex := h.opnd hx
    rw [hxn] at ex
    have e1 := es1.sc_inv.1
    have e2 := ex.sc_inv.1
    obtain ⟨h5, h6⟩ := strEls_rel (c := g.c) (w := w) b
    split at hp
    · rename_i hcond
      obtain ⟨hb1, hb2⟩ := hcond
      split at hp
      · rename_i h0
        cases hp
        refine sim_val h hd (v := .slice none 0 0) (key _ _ ?_) (.sc rfl) hk
        rw [e1, e2]
        have hf := Lib.run_firstCells_string (P := P) w i.size b
        simp [Builtin.append_, run_underlying ht, run_underlying ht', sizeOf, typeInfo, hi, Builtin.lenOf, h0, hf]
        rw [h0] at hf
        simp [hf]
      · rename_i h0
        cases hp
        have hrun := run_append_nil_string (P := P) w t t' o.type e i z ht ht' hi hz b (by omega) (by omega) (by rw [hby]; omega)
        obtain ⟨g1, g2⟩ := hgr b.size 0 hb2
        rw [← e1, ← e2] at hrun
        refine sim_newBld (w' := w.drew.alloc (.cells ((Lib.strCells b).toArray ++ Builtin.zeroCells z.cells (grownCap w b.size 0 e - b.size)) e)) h hd (bs + o.dst.getD 0) (grownCap w b.size 0 e) e 1 (strEls b) raw _ (by rw [strEls_length]; exact key _ _ hrun) rfl rfl rfl rfl ?_ (by rw [strEls_length]; exact g1) g2 ?_ (by rw [strEls_length]; simpa [updAll] using hk)
        · rw [Array.size_append, zeroCells_size, List.size_toArray, Lib.strCells_length, hzs]; omega
        · have := ERel.append (R := VR g.c w) (sz := 1) (len := 0) (es := []) (ys := strEls b) (xs := []) (news := Lib.strCells b) (tl := (Builtin.zeroCells z.cells (grownCap w b.size 0 e - b.size)).toList) (by simp) (by simp) (by simp) (by simp) h5 h6
          have e : ((Lib.strCells b).toArray ++ Builtin.zeroCells z.cells (grownCap w b.size 0 e - b.size)) = (([] : List Value) ++ Lib.strCells b ++ (Builtin.zeroCells z.cells (grownCap w b.size 0 e - b.size)).toList).toArray := by apply Array.ext'; simp
          rw [e]
          exact this
    · simp at hp
  · rename_i k st len b hsn hxn
    rw [hsn] at es1
    have ex := h.opnd hx
    rw [hxn] at ex
    have ex2 := ex.sc_inv.1
    obtain ⟨h5, h6⟩ := strEls_rel (c := g.c) (w := w) b
    have hyl := strEls_length b
    obtain ⟨hst, b0, o', cap, e1, hlc, hcm, e4⟩ := es1.ref_inv (by simp [PV.key, PV.key0])
    split at hp
    · rename_i st' e' sz' es r hob
      split at hp
      · rename_i hcond
        obtain ⟨rfl, rfl, rfl, hlen, hb1, hb2⟩ := hcond
        cases hp
        obtain ⟨f1, f2, f3, f4⟩ := e4 _ _ _ _ hob
        have ho' : o' = 0 := by first | (rw [f3 (.inr rfl)]; done) | (rw [f3 (.inr rfl)]; simp)
        have hcap : cap = g.cap k := f4 rfl
        subst f2
        subst ho'
        subst hcap
        have hO := h.obj k
        rw [hob] at hO
        obtain ⟨arr, r1, r2, r3, r4, r5, r6, r7, r8⟩ := hO
        have hlive : (s.objs k).live := by rw [hob]; trivial
        have hle : len ≤ es.length := by rcases hlen with hl | ⟨_, hl⟩ <;> omega
        have hstamp : (s.objs k).stamp = st := by rw [hob]; rfl
        let xs : List Value := arr.toList.take (len * 1)
        have hlsz : len * 1 ≤ arr.size := by rw [r2]; exact Nat.mul_le_mul_right _ hlc
        have hxs : xs.length = len * 1 := by simp only [xs, List.length_take, Array.length_toList]; omega
        have hxsget : ∀ (i' j : Nat) (cs : List PV) (q : PV), i' < len → es[i']? = some cs → cs[j]? = some q → ∃ u, xs[i' * 1 + j]? = some u ∧ q.isCell = true ∧ VR g.c w q u := by
          intro i' j cs q hil hi' hj
          obtain ⟨u, q1, q2, q3⟩ := r6 i' j cs q hi' hj
          refine ⟨u, ?_, q2, q3⟩
          have hjl : j < 1 := by have := (List.getElem?_eq_some_iff.1 hj).1; have := r5 i' cs hi'; omega
          simp only [xs]
          rw [List.getElem?_take, if_pos (by omega)]
          simpa using q1
        have hcle : g.c (g.blk k) ≤ len * 1 := by
          rcases hlen with hl | ⟨hr', _⟩
          · rw [hl]; exact r8
          · rw [r7 hr']; omega
        by_cases hroom : len + b.size ≤ g.cap k
        · have hfit : len + b.size ≤ arr.size := by rw [r2]; omega
          have hrun := Lib.run_append_room_string (P := P) w t t' o.type e' i ht ht' hi hisz (g.blk k) len (g.cap k) arr r1 b hroom hfit
          rw [← e1, ← ex2] at hrun
          have hrun := key _ _ hrun
          have hcl : (Lib.strCells b).length = b.size := Lib.strCells_length b
          have hE : Ext g.c w g.c (w.setRow (g.blk k) (arr.toList.take len ++ Lib.strCells b ++ arr.toList.drop (len + b.size)).toArray) := by
            obtain ⟨a1, a2, a3, a4⟩ := setRow_alike w (g.blk k) (arr.toList.take len ++ Lib.strCells b ++ arr.toList.drop (len + b.size)).toArray
            refine ⟨by omega, fun _ _ => Nat.le_refl _, fun b' i' hb hi' => ?_⟩
            by_cases hbk : b' = g.blk k
            · subst hbk
              rw [cell_of_heap (setRow_heap w (g.blk k) arr _ e' (0, 0) r1), cell_of_heap r1, List.getElem?_toArray, List.append_assoc, List.getElem?_append_left (by simp; omega), List.getElem?_take, if_pos (by omega)]
              simp
            · simp only [World.cell?, setRow_other w (g.blk k) b' _ (fun e => hbk (by simpa using e))]
          have hS := ObStep.bump (ob := s.objs) g k (.bld (st + 1) e' 1 (es.take len ++ strEls b) r) (by rw [hstamp]; rfl)
          have hER := ERel.append (R := VR g.c w) (tl := arr.toList.drop (len + b.size)) r5 hle hxs hxsget h5 h6
          have hxe : xs = arr.toList.take len := by simp only [xs, Nat.mul_one]
          rw [hxe] at hER
          have hW := h.extend k (.bld (st + 1) e' 1 (es.take len ++ strEls b) r) _ hlive hE hS (by
            refine ⟨_, setRow_heap w (g.blk k) arr _ e' (0, 0) r1, ?_, ?_, r4, hER.1, fun i' j cs q hi' hj => ?_, r7, ?_⟩
            · simp; omega
            · simp; omega
            · obtain ⟨u, q1, q2, q3⟩ := hER.2 i' j cs q hi' hj
              exact ⟨u, q1, q2, q3.mono hE⟩
            · have : (es.take len ++ strEls b).length = len + b.size := by simp; omega
              rw [this]; omega)
          refine wp_value hrun (hk g _ _ (hW.1.put o.dst hd (.inr (.inl (.inr ⟨by simp [upd, Obj.stamp], _, _, _, rfl, hroom, hcm, fun e'' sz'' es'' raw'' hob' => ?_⟩)))) hW.2)
          have hob2 : upd s.objs k (.bld (st + 1) e' 1 (es.take len ++ strEls b) r) k = .bld (st + 1) e'' sz'' es'' raw'' := hob'
          rw [upd_same] at hob2
          cases hob2
          refine ⟨by simp; omega, rfl, by simp, fun _ => rfl⟩
        · have hrun := Lib.run_append_grow_string (P := P) w t t' o.type e' i z ht ht' hi hz ⟨g.blk k, 0, none⟩ len (g.cap k) xs (by rw [hisz]; exact hxs)
            (fun j v hv => by
              rw [add_lit, Nat.zero_add, cell_of_heap r1]
              simp only [xs] at hv
              rw [List.getElem?_take] at hv
              split at hv
              · simpa using hv
              · cases hv) b (by omega) (by omega) (growslice_fits (by omega) (by rw [hby]; omega))
          rw [← e1, ← ex2] at hrun
          obtain ⟨g1, g2⟩ := hgr (len + b.size) (g.cap k) hb2
          have hl2 : (es.take len ++ strEls b).length = len + b.size := by simp; omega
          have hk2 : Owed gl ph n B O g w ⟨put s.env o.dst (.bld k ((s.objs k).stamp + 1) 0 (es.take len ++ strEls b).length), upd s.objs k (.bld ((s.objs k).stamp + 1) e' 1 (es.take len ++ strEls b) r)⟩ K := by
            rw [hstamp, hl2]; simpa [updAll] using hk
          refine sim_newBld (w' := w.drew.alloc (.cells (xs.toArray ++ (Lib.strCells b).toArray ++ Builtin.zeroCells z.cells (grownCap w (len + b.size) (g.cap k) e' - (len + b.size))) e')) h hd k (grownCap w (len + b.size) (g.cap k) e') e' 1 (es.take len ++ strEls b) r _ (by rw [hl2]; exact key _ _ hrun) rfl rfl rfl rfl ?_ (by omega) g2 ?_ hk2
          · rw [Array.size_append, Array.size_append, zeroCells_size, List.size_toArray, List.size_toArray, hxs, Lib.strCells_length, hzs]; omega
          · have := ERel.append (R := VR g.c w) (tl := (Builtin.zeroCells z.cells (grownCap w (len + b.size) (g.cap k) e' - (len + b.size))).toList) r5 hle hxs hxsget h5 h6
            have e : (xs.toArray ++ (Lib.strCells b).toArray ++ Builtin.zeroCells z.cells (grownCap w (len + b.size) (g.cap k) e' - (len + b.size))) = (xs ++ Lib.strCells b ++ (Builtin.zeroCells z.cells (grownCap w (len + b.size) (g.cap k) e' - (len + b.size))).toList).toArray := by apply Array.ext'; simp
            rw [e]
            exact this
      · simp at hp
    · simp at hp
  · simp at hp
end
end Go.Hf
end

/- Pure frames, part M: composite slices; bytes to a string. -/
import Derived.Test.YthiipifjdfmblaaGreatDoorPfL
set_option linter.unusedVariables false
set_option linter.unusedSimpArgs false
namespace Go.Pf
open Go.RowKit

section
variable {P : Program} {n B : Nat} {O : Option Nat} {gl : Gl} {ph : Option (Nat × Value)} {g : Gh} {s : St} {a : Act} {w w' : World} {o : Oper} {K : Act → World → Prop} {Q : Exit → Act → World → Prop}

theorem ERel.put {R : PV → Value → Prop} {sz : Nat} {es : List (List PV)} {arr : Array Value} {vs : List Value} {new : List PV} {i : Nat} (h : ERel R sz es arr) (hl : vs.length = new.length) (hn0 : new.length = sz) (hil : i < es.length)
    (hfit : es.length * sz ≤ arr.size) (hn : ∀ (j : Nat) (q : PV), new[j]? = some q → ∃ u, vs[j]? = some u ∧ q.isCell = true ∧ R q u) : ERel R sz (es.set i new) (setFrom arr (i * sz) vs) := by
  have hmul := Nat.mul_le_mul_right sz (show i + 1 ≤ es.length from hil)
  rw [Nat.add_mul, Nat.one_mul] at hmul
  refine ⟨fun k cs hk => ?_, fun k j cs p hk hj => ?_⟩
  · rw [List.getElem?_set] at hk
    split at hk
    · cases hk; exact hn0
    · exact h.1 k cs hk
  · rw [setFrom_get vs (i * sz) arr _ (by omega), hl, hn0]
    rw [List.getElem?_set] at hk
    split at hk
    · rename_i hik
      subst hik
      cases hk
      have hjl : j < sz := by have := (List.getElem?_eq_some_iff.1 hj).1; omega
      rw [if_neg (by omega), if_pos (by omega), Nat.add_sub_cancel_left]
      exact hn j p hj
    · rename_i hik
      have hjl : j < sz := by have := (List.getElem?_eq_some_iff.1 hj).1; have := h.1 k cs hk; omega
      have hout := block_lt (i := i) (i' := k) (sz := sz) (j := j) (off := 0) (m := sz) hjl (by omega) (fun x => hik x.symm)
      simp only [Nat.add_zero] at hout
      by_cases c1 : k * sz + j < i * sz
      · rw [if_pos c1]; exact h.2 k j cs p hk hj
      · rw [if_neg c1, if_neg (by omega)]; exact h.2 k j cs p hk hj

theorem fillElems_length {ev : Operand → PV} {ob : Nat → Obj} {sz : Nat} : ∀ {ps : List (Nat × Operand)} {es es' : List (List PV)}, fillElems ev ob sz es ps = some es' → es'.length = es.length
  | [], es, es', h => by simp only [fillElems, Option.some.injEq] at h; rw [h]
  | (i, x) :: r, es, es', h => by
    simp only [fillElems] at h
    split at h
    · split at h
      · rw [fillElems_length h]; simp
      · simp at h
    · simp at h

theorem VR.agg_inv {c : Nat → Nat} {cs : List PV} {v : Value} (h : VR c w (.agg cs) v) : ∃ vs : List Value, v = .agg vs.toArray ∧ cs.length = vs.length ∧ ∀ (j : Nat) (p : PV) (u : Value), cs[j]? = some p → vs[j]? = some u → VR c w p u := by
  cases h with
  | agg hl hci hv => exact ⟨_, rfl, hl, hv⟩

theorem VR.key {c : Nat → Nat} {p : PV} {v : Value} (h : VR c w p v) : p.key = [] := by cases h <;> rfl

theorem fillElems_rel {c : Nat → Nat} {ev : Operand → PV} {ob : Nat → Obj} {sz : Nat} : ∀ (ps : List (Nat × Operand)) (es es' : List (List PV)) (arr : Array Value), fillElems ev ob sz es ps = some es' →
    (∀ p ∈ ps, ∀ q, pureVal ob (ev p.2) = some q → VR c w q (a.eval p.2)) → ERel (VR c w) sz es arr → arr.size = es.length * sz →
    ∃ arr', Instr.fill (fun i => some (i * sz, sz)) arr (ps.map fun p => (p.1, a.eval p.2)) = some arr' ∧ ERel (VR c w) sz es' arr' ∧ arr'.size = arr.size
  | [], es, es', arr, h, _, hE, hs => by simp only [fillElems, Option.some.injEq] at h; subst h; exact ⟨arr, rfl, hE, rfl⟩
  | (i, x) :: r, es, es', arr, h, hv, hE, hs => by
    simp only [fillElems] at h
    split at h
    · rename_i new hnew
      split at h
      · rename_i hc
        obtain ⟨hl, hil⟩ := hc
        simp only [Option.bind_eq_some_iff] at hnew
        obtain ⟨q, hq, hnew⟩ := hnew
        have hV := hv (i, x) (by simp) q hq
        have hX : XR ⟨c, fun _ => 0, fun _ => 0⟩ w (fun _ => Obj.no 0) q (a.eval x) := .inr (.inl (.inl hV))
        obtain ⟨hn1, hn2⟩ := hX.cells hnew
        have hn3 : ∀ (j : Nat) (r : PV), new[j]? = some r → ∃ u, (a.eval x).cells.toList[j]? = some u ∧ r.isCell = true ∧ VR c w r u := by
          intro j r hr
          obtain ⟨u, q1, q2, q3⟩ := hn2 j r hr
          refine ⟨u, q1, q2, ?_⟩
          rcases q3 with q3 | q3
          · exact q3
          · exfalso
            cases q with
            | agg cs =>
              simp only [PV.cells, Option.some.injEq] at hnew
              subst hnew
              obtain ⟨vs, hvs, hl', hv'⟩ := hV.agg_inv
              have hj : j < cs.length := (List.getElem?_eq_some_iff.1 hr).1
              have := hv' j r vs[j] hr (List.getElem?_eq_getElem (by omega))
              have hk := q3.key_ne
              generalize vs[j] = vj at this
              cases this <;> simp [PV.key] at hk
            | sc _ => simp only [PV.cells, Option.some.injEq] at hnew; subst hnew; have := List.mem_of_getElem? hr; simp at this; subst this; exact q3.elim
            | lst _ _ => simp only [PV.cells, Option.some.injEq] at hnew; subst hnew; have := List.mem_of_getElem? hr; simp at this; subst this; exact q3.elim
            | eptr _ _ => simp only [PV.cells, Option.some.injEq] at hnew; subst hnew; have := List.mem_of_getElem? hr; simp at this; subst this; exact q3.elim
            | undef => exact absurd hV (fun hh => by generalize a.eval (i, x).2 = vv at hh; cases hh)
            | tup _ => exact absurd hV (fun hh => by generalize a.eval (i, x).2 = vv at hh; cases hh)
            | own _ _ _ _ => exact absurd hV (fun hh => by generalize a.eval (i, x).2 = vv at hh; cases hh)
            | bptr _ _ _ => exact absurd hV (fun hh => by generalize a.eval (i, x).2 = vv at hh; cases hh)
            | bld _ _ _ _ => exact absurd hV (fun hh => by generalize a.eval (i, x).2 = vv at hh; cases hh)
            | kptr _ _ _ _ => exact absurd hV (fun hh => by generalize a.eval (i, x).2 = vv at hh; cases hh)
        have hE' := hE.put hn1 hl hil (by omega) hn3
        have hmul := Nat.mul_le_mul_right sz (show i + 1 ≤ es.length from hil)
        rw [Nat.add_mul, Nat.one_mul] at hmul
        obtain ⟨arr', ha, hb, hc'⟩ := fillElems_rel r _ es' (setFrom arr (i * sz) (a.eval x).cells.toList) h (fun p hp => hv p (by simp [hp])) hE' (by rw [setFrom_size]; simpa using hs)
        refine ⟨arr', ?_, hb, by rw [hc', setFrom_size]⟩
        simp only [List.map_cons]
        rw [fill_cons (fun i => some (i * sz, sz)) arr i (i * sz) sz (a.eval x) _ rfl (by simpa [hl] using hn1) (by omega)]
        exact ha
      · simp at h
    · simp at h

theorem pureVals_of_fill {ev : Operand → PV} {ob : Nat → Obj} {sz : Nat} : ∀ (ps : List (Nat × Operand)) (es es' : List (List PV)), fillElems ev ob sz es ps = some es' → ∃ qs, pureVals ev ob (ps.map (·.2)) = some qs
  | [], _, _, _ => ⟨[], rfl⟩
  | (i, x) :: r, es, es', h => by
    simp only [fillElems] at h
    split at h
    · rename_i new hnew
      split at h
      · simp only [Option.bind_eq_some_iff] at hnew
        obtain ⟨q, hq, _⟩ := hnew
        obtain ⟨qs, hqs⟩ := pureVals_of_fill r _ es' h
        exact ⟨q :: qs, by simp only [List.map_cons, pureVals, hq, hqs]⟩
      · simp at h
    · simp at h

theorem pureVals_get {ev : Operand → PV} {ob : Nat → Obj} : ∀ (xs : List Operand) (qs : List PV), pureVals ev ob xs = some qs → ∀ (j : Nat) (x : Operand), xs[j]? = some x → ∃ q, pureVal ob (ev x) = some q ∧ qs[j]? = some q
  | [], _, _, j, x, hx => by simp at hx
  | y :: ys, qs, h, j, x, hx => by
    simp only [pureVals] at h
    split at h
    · rename_i q qs' h1 h2
      cases h
      cases j with
      | zero => simp at hx; subst hx; exact ⟨q, h1, rfl⟩
      | succ j => exact pureVals_get ys qs' h2 j x (by simpa using hx)
    · simp at h

theorem zeroRow_get (zero : List Value) (m k : Nat) (hk : k < m) (hz : 0 < zero.length) : (((Array.range m).map (zero.toArray[· % zero.toArray.size]!)))[k]? = zero[k % zero.length]? := by
  have hlt : k % zero.length < zero.length := Nat.mod_lt _ hz
  simp [hk, getElem!_def, List.getElem?_eq_getElem hlt]

theorem sim_bslice {e sz len : Nat} {zero : List Value} {ps : List (Nat × Operand)} {raw : Bool} {p : PV} {us : List (Nat × Obj)} (h : FR gl ph n B O g s a w) (hd : ∀ t, o.dst = some t → t < n) (hr : Rs P o (.bslice e sz zero len ps raw))
    (hp : pop (evalIn s.env) s.objs (o.dst.getD 0) (.bslice e sz zero len ps raw) = some (p, us)) (hk : Owed gl ph n B O g w ⟨put s.env o.dst p, updAll s.objs us⟩ K) : o.wp P a w K Q := by
  obtain ⟨t, parts, ho, _, ht, ⟨i, z, hi, hz, hzc, hisz, hzl, hall⟩, hpp, hsz0, hsmall, hok⟩ := hr
  subst hpp
  simp only [pop, Option.map_eq_some_iff, Prod.mk.injEq] at hp
  obtain ⟨es, hf, rfl, rfl⟩ := hp
  have hlen : es.length = len := by rw [fillElems_length hf]; simp
  obtain ⟨qs, hqs⟩ := pureVals_of_fill _ _ _ hf
  obtain ⟨g1, F1, PB1, E1, S1, L1, V1⟩ := FR.shareOpnds (parts.toList.map (·.2)) qs g s h (Sh.refl _) (by simpa [List.all_map] using hok) hqs
  have hsh : (parts.toList.map (·.2)).flatMap (fun x => Pf.shareVal s.objs (evalIn s.env x)) = parts.toList.flatMap fun p => Pf.shareVal s.objs (evalIn s.env p.2) := by rw [List.flatMap_map]
  rw [hsh] at F1 S1
  let arr0 : Array Value := (Array.range (len * sz)).map (zero.toArray[· % zero.toArray.size]!)
  have harr0 : arr0.size = len * sz := by simp [arr0]
  have hE0 : ERel (VR g1.c w) sz (List.replicate len (zero.map PV.sc)) arr0 := by
    refine ⟨fun k cs hk' => ?_, fun k j cs q hk' hj => ?_⟩
    · have := List.mem_of_getElem? hk'
      simp at this
      rw [this.2]; simpa using hzl
    · have hmem := List.mem_of_getElem? hk'
      simp at hmem
      obtain ⟨_, rfl⟩ := hmem
      have hkl : k < len := by have := (List.getElem?_eq_some_iff.1 hk').1; simpa using this
      simp only [List.getElem?_map, Option.map_eq_some_iff] at hj
      obtain ⟨v, hv, rfl⟩ := hj
      have hjl : j < sz := by have := (List.getElem?_eq_some_iff.1 hv).1; omega
      have hs : scalarV v = true := List.all_eq_true.1 hall v (List.mem_of_getElem? hv)
      have hlt : k * sz + j < len * sz := by
        have := Nat.mul_le_mul_right sz (show k + 1 ≤ len from hkl)
        rw [Nat.add_mul, Nat.one_mul] at this
        omega
      refine ⟨v, ?_, hs, .sc hs⟩
      simp only [arr0]
      rw [zeroRow_get zero _ _ hlt (by omega), hzl, (flat_idx hjl).2]
      exact hv
  obtain ⟨arr, ha, hb, hc⟩ := fillElems_rel (w := w) (a := a) (c := g1.c) parts.toList _ es arr0 hf (fun p hp q hq => by
    obtain ⟨j, hj⟩ := List.mem_iff_getElem?.1 hp
    obtain ⟨q', h1, h2⟩ := pureVals_get _ _ hqs j p.2 (by simp [hj])
    rw [hq] at h1
    cases h1
    exact V1 j q p.2 h2 (by simp [hj])) hE0 (by simp [harr0])
  have hst : ((updAll s.objs (parts.toList.flatMap fun p => Pf.shareVal s.objs (evalIn s.env p.2))) (o.dst.getD 0)).stamp = (s.objs (o.dst.getD 0)).stamp := S1.stamp _
  refine sim_newBld (w' := w.alloc (.cells arr e)) F1 hd (o.dst.getD 0) len e sz es raw arr ?_ rfl rfl rfl rfl (hc.trans harr0) (by omega) (by simp only [maxLen]; have : len ≤ len * sz := Nat.le_mul_of_pos_right _ hsz0; omega) hb ?_
  · have hzz : z.cells = zero.toArray := by rw [← hzc]
    have hm : (parts.map fun (x : Nat × Operand) => (x.1, a.eval x.2)).toList = parts.toList.map fun p => (p.1, a.eval p.2) := by simp
    have hnb : ¬ (len * i.size > 16777216) := by rw [hisz]; omega
    simp only [execOp, ho, Instr.buildSlice, Sem.run_bind, run_underlying ht, Result.andThen_ok, run_sizeOf hi]
    have hpow : (2 : Nat) ^ 24 = 16777216 := by decide
    rw [hpow, if_neg hnb, hm, hisz, hlen]
    by_cases h0 : len * sz = 0
    · have hz0 : arr0 = (Array.range (len * sz)).map ((#[] : Array Value)[· % (#[] : Array Value).size]!) := by
        apply Array.ext'; simp [arr0, h0]
      rw [if_pos h0]
      simp only [Sem.run_bind, Sem.run_pure, Result.andThen_ok]
      rw [← hz0, ha]
      simp only [newRow, Sem.run_bind, run_newObj, Sem.run_pure, Result.andThen_ok]
    · rw [if_neg h0]
      simp only [Sem.run_bind, Sem.run_pure, Result.andThen_ok, run_zeroValue hi hz, hzz]
      have : Instr.fill (fun i => some (i * sz, sz)) (Array.map (fun x => zero.toArray[x % zero.toArray.size]!) (Array.range (len * sz))) (parts.toList.map fun p => (p.1, a.eval p.2)) = some arr := ha
      rw [this]
      simp only [newRow, Sem.run_bind, run_newObj, Sem.run_pure, Result.andThen_ok]
  · intro g' a' w' hF hPB
    refine hk g' a' w' ?_ (PB1.trans hPB)
    rw [hst] at hF
    rw [updAll_append]
    simp only [updAll]
    rw [hlen] at hF
    exact hF
end
end Go.Pf

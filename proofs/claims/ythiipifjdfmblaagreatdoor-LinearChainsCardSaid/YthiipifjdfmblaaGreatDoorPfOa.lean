/- Pure frames, part Oa: the capacity of the nil slice, clearing a local slice, local arrays. -/
import Derived.Test.YthiipifjdfmblaaGreatDoorPfO
import Derived.Lib.AppendZeros
set_option linter.unusedVariables false
set_option linter.unusedSimpArgs false
namespace Go.Pf
open Go.RowKit

section
variable {P : Program} {n B : Nat} {O : Option Nat} {gl : Gl} {ph : Option (Nat × Value)} {g : Gh} {s : St} {a : Act} {w w' : World} {o : Oper} {K : Act → World → Prop} {Q : Exit → Act → World → Prop}

theorem sim_cap0 {x : Operand} {p : PV} {us : List (Nat × Obj)} (h : FR gl ph n B O g s a w) (hd : ∀ t, o.dst = some t → t < n) (hr : Rs P o (.cap0 x))
    (hp : pop (evalIn s.env) s.objs (o.dst.getD 0) (.cap0 x) = some (p, us)) (hk : Owed gl ph n B O g w ⟨put s.env o.dst p, updAll s.objs us⟩ K) : o.wp P a w K Q := by
  obtain ⟨t, e, ho, ht, hx⟩ := hr
  have ex := h.opnd hx
  simp only [pop] at hp
  split at hp
  · rename_i hu
    rw [hu] at ex
    cases hp
    have e1 := ex.sc_inv.1
    refine sim_val (v := .int .i64 0) h hd ?_ (.sc rfl) hk
    simp only [execOp, ho, resolve, invoke, builtin, Sem.run_bind, Sem.run_pure, Result.andThen_ok, List.map_toArray, List.map_cons, List.map_nil, e1]
    simp [Builtin.cap_, run_underlying ht]
    rfl
  · simp at hp

theorem zeroCells_get (z : Array Value) (c j : Nat) (hj : j < c * z.size) : (Builtin.zeroCells z c).toList[j]? = z.toList[j % z.size]? := by
  have hz : 0 < z.size := by
    rcases Nat.eq_zero_or_pos z.size with h | h
    · rw [h] at hj; omega
    · exact h
  have hm : j % z.size < z.size := Nat.mod_lt _ hz
  simp only [Builtin.zeroCells, Array.getElem?_toList, Array.getElem?_map, Array.getElem?_range, hj, if_true, Option.map_some]
  rw [getElem!_pos z _ hm, Array.getElem?_eq_getElem hm]

theorem sim_appz {e sz bytes : Nat} {zero : List Value} {sl x : Operand} {raw : Bool} {p : PV} {us : List (Nat × Obj)} (h : FR gl ph n B O g s a w) (hd : ∀ t, o.dst = some t → t < n) (hr : Rs P o (.appz e sz bytes zero sl x raw))
    (hp : pop (evalIn s.env) s.objs (o.dst.getD 0) (.appz e sz bytes zero sl x raw) = some (p, us)) (hk : Owed gl ph n B O g w ⟨put s.env o.dst p, updAll s.objs us⟩ K) : o.wp P a w K Q := by
  obtain ⟨t, t', i, kk, ho, hds, ht, ht', hi, hby, ⟨inf, z, hinf, hzz, hzl, hsz, hzlen, hall⟩, hsz0, hsl, hx⟩ := hr
  have es1 := h.opnd hsl
  have ex1 := h.opnd hx
  simp only [pop] at hp
  split at hp
  · rename_i m hu hv
    rw [hu] at es1
    rw [hv] at ex1
    split at hp
    · rename_i hc
      obtain ⟨h0, h1, h2⟩ := hc
      cases hp
      have e1 := es1.sc_inv.1
      have e2 := ex1.sc_inv.1
      have : inf = i := by rw [hi] at hinf; cases hinf; rfl
      subst this
      obtain ⟨c, rfl⟩ := Int.eq_ofNat_of_zero_le (Int.le_of_lt h0)
      have hc0 : 0 < c := by omega
      have hzs : z.cells.size = sz := by rw [← hzlen, ← hzl]; simp
      have hb : c * inf.bytes ≤ 1099511627776 := by rw [hby]; rw [← Int.natCast_mul] at h1; omega
      have hrun := Lib.run_append_nil_zeros (P := P) w t t' o.type e inf z .i64 kk ht ht' hinf hzz c hc0 (by omega) (by omega) (by omega)
      rw [Int.toNat_natCast] at hk
      have hex : (execOp a.eval o).run P w = .ok (.value (.slice (some ⟨w.heap.size, 0, none⟩) (List.replicate c (zero.map PV.sc)).length (grownCap w c 0 e))) (w.drew.alloc (.cells (Builtin.zeroCells z.cells c ++ Builtin.zeroCells z.cells (grownCap w c 0 e - c)) e)) := by
        simp only [execOp, ho, resolve, invoke, builtin, Sem.run_bind, Sem.run_pure, Result.andThen_ok, List.map_toArray, List.map_cons, List.map_nil, e1, e2, hrun, List.length_replicate]
      refine sim_newBld h hd (o.dst.getD 0) (grownCap w c 0 e) e sz (List.replicate c (zero.map PV.sc)) raw (Builtin.zeroCells z.cells c ++ Builtin.zeroCells z.cells (grownCap w c 0 e - c)) hex rfl rfl rfl rfl ?_ ?_ ?_ ?_ (by simpa [updAll] using hk)
      · rw [Array.size_append, zeroCells_size, zeroCells_size, hzs, ← Nat.add_mul]; congr 1; have := grownCap_ge w c 0 e; omega
      · simpa using grownCap_ge w c 0 e
      · exact grownCap_le_maxLen w c 0 e (by simp only [maxLen]; omega)
      · refine ⟨fun i cs hi => ?_, fun i j cs q hi hj => ?_⟩
        · rw [List.getElem?_replicate] at hi
          split at hi
          · cases hi; simpa using hzlen
          · cases hi
        · rw [List.getElem?_replicate] at hi
          split at hi
          · rename_i hic
            cases hi
            simp only [List.getElem?_map, Option.map_eq_some_iff] at hj
            obtain ⟨v, hv1, rfl⟩ := hj
            have hjl : j < sz := by have := (List.getElem?_eq_some_iff.1 hv1).1; omega
            have hsv : scalarV v = true := List.all_eq_true.1 hall v (List.mem_of_getElem? hv1)
            have := Nat.mul_le_mul_right sz (show i + 1 ≤ c from hic)
            rw [Nat.add_mul, Nat.one_mul] at this
            refine ⟨v, ?_, hsv, .sc hsv⟩
            rw [Array.getElem?_append_left (by rw [zeroCells_size, hzs]; omega), ← Array.getElem?_toList, zeroCells_get _ _ _ (by rw [hzs]; omega), hzl, hzs]
            rw [Nat.add_comm, Nat.add_mul_mod_self_right, Nat.mod_eq_of_lt hjl, hv1]
          · cases hi
    · simp at hp
  · simp at hp

theorem sim_aaddr {m sz : Nat} {x i : Operand} {p : PV} {us : List (Nat × Obj)} (h : FR gl ph n B O g s a w) (hd : ∀ t, o.dst = some t → t < n) (hr : Rs P o (.aaddr m sz x i))
    (hp : pop (evalIn s.env) s.objs (o.dst.getD 0) (.aaddr m sz x i) = some (p, us)) (hk : Owed gl ph n B O g w ⟨put s.env o.dst p, updAll s.objs us⟩ K) : o.wp P a w K Q := by
  obtain ⟨t, e, inf, ho, ht, hinf, hsz, hx, hi⟩ := hr
  have ex := h.opnd hx
  have ei := h.opnd hi
  simp only [pop] at hp
  split at hp
  · rename_i k st off kk j hu hv
    rw [hu] at ex
    rw [hv] at ei
    split at hp
    · rename_i hc
      cases hp
      obtain ⟨e0, ad, e1, e2⟩ := ex.ref_inv (by simp [PV.key])
      have ej := ei.sc_inv.1
      refine sim_val (p := .bptr k st (off + j.toNat * sz)) (v := .pointer (some (ad.add (j.toNat * sz)))) h hd ?_ (.inr (.inl (.inr ⟨e0, _, rfl, fun cs hcs => ?_⟩))) hk
      · simp [execOp, ho, Instr.indexAt, ej, asIntOf, run_underlying ht, e1, Instr.sureAddr, hc.1, hc.2, run_sizeOf hinf, hsz]
      · rw [e2 cs hcs, add_lit]
    · simp at hp
  · simp at hp

theorem sim_aslc {m : Nat} {x : Operand} {p : PV} {us : List (Nat × Obj)} (h : FR gl ph n B O g s a w) (hd : ∀ t, o.dst = some t → t < n) (hr : Rs P o (.aslc m x))
    (hp : pop (evalIn s.env) s.objs (o.dst.getD 0) (.aslc m x) = some (p, us)) (hk : Owed gl ph n B O g w ⟨put s.env o.dst p, updAll s.objs us⟩ K) : o.wp P a w K Q := by
  obtain ⟨t, e, inf, ho, ht, hinf, hsz, hx⟩ := hr
  have ex := h.opnd hx
  simp only [pop] at hp
  split at hp
  · rename_i k st hu
    rw [hu] at ex
    split at hp
    · rename_i st' cs hob
      split at hp
      · rename_i hc
        obtain ⟨rfl, hlen, hmx, hkeys⟩ := hc
        cases hp
        obtain ⟨e0, ad, e1, e2⟩ := ex.ref_inv (by simp [PV.key])
        have e3 := e2 cs hob
        have hO := h.obj k
        rw [hob] at hO
        obtain ⟨arr, T, r1, r2, r3, r4⟩ := hO
        have hlive : (s.objs k).live := by rw [hob]; trivial
        have hfr := h.fresh k hlive
        have hE : Ext g.c w (upd g.c (g.blk k) m) w := by
          refine ⟨Nat.le_refl _, fun b _ => ?_, fun _ _ _ _ => rfl⟩
          by_cases hb : b = g.blk k
          · rw [hb, upd_same, r3]; omega
          · rw [upd_ne _ _ hb]; exact Nat.le_refl _
        have hS : ObStep g s.objs ⟨upd g.c (g.blk k) m, g.blk, g.cap⟩ (upd s.objs k (.no st)) := by
          intro k'
          by_cases hkk : k' = k
          · subst hkk
            rw [upd_same, hob]
            exact ⟨Nat.le_refl _, (fun _ hc => by cases hc), (fun _ _ _ _ hc => by cases hc)⟩
          · rw [upd_ne _ _ hkk]
            exact ⟨Nat.le_refl _, fun cs hc => ⟨⟨cs, hc⟩, rfl⟩, fun _ _ es raw hc => ⟨⟨es, raw, hc, Nat.le_refl _⟩, rfl, rfl⟩⟩
        have hF : FR gl ph n B O ⟨upd g.c (g.blk k) m, g.blk, g.cap⟩ ⟨s.env, upd s.objs k (.no st)⟩ a w := by
          refine h.pass (upd s.objs k (.no st)) (· = k) hE hS (fun k' hk' => upd_ne _ _ hk') (fun k' hkk hl' => ?_) (fun k' hkk hl' => ?_)
          · have hne : g.blk k' ≠ g.blk k := fun e => hkk (h.inj k' k hl' hlive e)
            exact ⟨rfl, rfl, upd_ne _ _ hne, rfl⟩
          · subst hkk; rw [upd_same] at hl'; exact hl'.elim
        have hPB : PB B O g.c w (upd g.c (g.blk k) m) w := by
          refine ⟨rfl, rfl, rfl, Nat.le_refl _, fun _ _ _ => rfl, fun b hb hO => upd_ne _ _ (fun e => ?_)⟩
          subst e
          rcases hfr.1 with h1 | h1
          · omega
          · exact hO h1
        have hcell : ∀ (j : Nat) (q : PV), cs[j]? = some q → ∃ u, arr[j]? = some u ∧ q.isCell = true ∧ VR g.c w q u := by
          intro j q hq
          obtain ⟨u, hu1, hu2, hu3⟩ := r4 j q hq
          refine ⟨u, hu1, hu2, ?_⟩
          rcases hu3 with h3 | h3
          · exact h3
          · exfalso
            have : q.key = [] := by
              rw [List.flatMap_eq_nil_iff] at hkeys
              exact hkeys q (List.mem_of_getElem? hq)
            exact h3.key_ne this
        have hsl : ∀ (j : Nat) (q : List PV), (cs.map fun q => [q])[j]? = some q → ∃ r, cs[j]? = some r ∧ q = [r] := by
          intro j q hq
          simp only [List.getElem?_map, Option.map_eq_some_iff] at hq
          obtain ⟨r, hr1, rfl⟩ := hq
          exact ⟨r, hr1, rfl⟩
        have hV : VR (upd g.c (g.blk k) m) w (.lst 1 (cs.map fun q => [q])) (.slice (some ⟨g.blk k, 0, none⟩) (cs.map fun q => [q]).length (cs.map fun q => [q]).length) := by
          refine .lst (fun i _ => arr.getD i undef) (Nat.le_refl _) (by simp; unfold maxLen; omega) hfr.2 (fun _ => by rw [upd_same]; simp; omega) (fun i q hq => ?_) (fun i j q r hq hj => ?_) (fun i j q r hq hj => ?_) (fun i j q r hq hj => ?_)
          · obtain ⟨r, _, rfl⟩ := hsl i q hq; rfl
          · obtain ⟨r', hr', rfl⟩ := hsl i q hq
            obtain ⟨u, hu1, _, _⟩ := hcell i r' hr'
            have hj0 : j = 0 := by have := (List.getElem?_eq_some_iff.1 hj).1; simp at this; omega
            subst hj0
            rw [cell_of_heap r1]
            simp [Array.getD_eq_getD_getElem?, hu1]
          · obtain ⟨r', hr', rfl⟩ := hsl i q hq
            obtain ⟨u, hu1, hu2, _⟩ := hcell i r' hr'
            have hj0 : j = 0 := by have := (List.getElem?_eq_some_iff.1 hj).1; simp at this; omega
            subst hj0
            simp at hj; subst hj; exact hu2
          · obtain ⟨r', hr', rfl⟩ := hsl i q hq
            obtain ⟨u, hu1, hu2, hu3⟩ := hcell i r' hr'
            have hj0 : j = 0 := by have := (List.getElem?_eq_some_iff.1 hj).1; simp at this; omega
            subst hj0
            simp at hj; subst hj
            simp only [Array.getD_eq_getD_getElem?, hu1, Option.getD_some]
            exact hu3.mono hE
        refine wp_value (v := .slice (some ⟨g.blk k, 0, none⟩) (cs.map fun q => [q]).length (cs.map fun q => [q]).length) (w' := w) ?_ (hk _ _ w (hF.put o.dst hd (.inr (.inl (.inl hV)))) hPB)
        simp [execOp, ho, Instr.sliceAt, Instr.sliceBounds, run_underlying ht, e1, e3, Instr.sureAddr, run_sizeOf hinf, hsz, hlen, add_lit]
      · simp at hp
    · simp at hp
  · simp at hp

theorem sim_clr {e sz : Nat} {zero : List Value} {x : Operand} {p : PV} {us : List (Nat × Obj)} (h : FR gl ph n B O g s a w) (hd : ∀ t, o.dst = some t → t < n) (hr : Rs P o (.clr e sz zero x))
    (hp : pop (evalIn s.env) s.objs (o.dst.getD 0) (.clr e sz zero x) = some (p, us)) (hk : Owed gl ph n B O g w ⟨put s.env o.dst p, updAll s.objs us⟩ K) : o.wp P a w K Q := by
  obtain ⟨t, ho, ht, hz, hsz0, hx⟩ := hr
  obtain ⟨inf, z, hinf, hzz, hzl, hsz, hzlen, hall⟩ := hz
  have ex := h.opnd hx
  have htup : ∀ {g : Gh} {w : World} {ob : Nat → Obj}, XR g w ob (.tup []) (.tuple #[]) := fun {_ _ _} => .inr (.inr (.inr ⟨[], [], rfl, rfl, rfl, by simp⟩))
  have key : ∀ w1 : World, (Builtin.clear_ #[t] o.type #[a.eval x]).run P w = .ok (.tuple #[]) w1 → (execOp a.eval o).run P w = .ok (.value (.tuple #[])) w1 := by
    intro w1 hl
    simp only [execOp, ho, resolve, invoke, builtin, Sem.run_bind, Sem.run_pure, Result.andThen_ok, List.map_toArray, List.map_cons, List.map_nil, hl]
  simp only [pop] at hp
  split at hp
  · rename_i hu
    rw [hu] at ex
    cases hp
    have e1 := ex.sc_inv.1
    refine sim_val h hd (key w ?_) htup hk
    rw [e1]
    simp [Builtin.clear_, run_underlying ht]
  · rename_i k st off len hu
    rw [hu] at ex
    split at hp
    · rename_i s' e' sz' es hob
      split at hp
      · rename_i hc
        obtain ⟨hs1, hs2, hs3, hfit⟩ := hc
        subst hs1
        have hs2 := hs2.symm
        subst hs2
        have hs3 := hs3.symm
        subst hs3
        cases hp
        obtain ⟨_, b, o', cap, e1, hlc, hcm, e2⟩ := ex.ref_inv (by simp [PV.key])
        obtain ⟨q1, rfl, q3, _⟩ := e2 e sz es true hob
        have hO := h.obj k
        rw [hob] at hO
        obtain ⟨arr, r1, r2, r3, r4, r5, r6, r7, r8⟩ := hO
        have hc0 : g.c (g.blk k) = 0 := r7 rfl
        have hlive : (s.objs k).live := by rw [hob]; trivial
        rcases Nat.eq_zero_or_pos len with h0 | hpos
        · subst h0
          have hes : es.take off ++ List.replicate 0 (zero.map PV.sc) ++ es.drop (off + 0) = es := by simp
          rw [hes] at hk
          have hup : updAll s.objs [(k, .bld st e sz es true)] = s.objs := by
            funext k'
            simp only [updAll]
            by_cases hkk : k' = k
            · subst hkk; rw [upd_same, hob]
            · rw [upd_ne _ _ hkk]
          rw [hup] at hk
          refine sim_val h hd (key w ?_) htup hk
          rw [e1]
          simp [Builtin.clear_, run_underlying ht]
        · have ho' : o' = off * sz := q3 (.inl hpos)
          subst ho'
          have hmul : off * sz + len * sz ≤ g.cap k * sz := by
            have := Nat.mul_le_mul_right sz (Nat.le_trans hfit r3)
            rw [Nat.add_mul] at this; exact this
          have hzs : z.cells.size = sz := by rw [← hzlen, ← hzl]; simp
          have hone : ∀ u ∈ (Builtin.zeroCells z.cells len).toList, u.oneCell' = true := by
            intro u hu'
            obtain ⟨j, hj⟩ := List.mem_iff_getElem?.1 hu'
            have hjl : j < len * z.cells.size := by have := (List.getElem?_eq_some_iff.1 hj).1; simpa [zeroCells_size] using this
            rw [zeroCells_get _ _ _ hjl, hzl] at hj
            exact scalar_oneCell (List.all_eq_true.1 hall u (List.mem_of_getElem? hj))
          have hst := run_storeCells_at P (g.blk k) (off * sz) e (Builtin.zeroCells z.cells len).toList 0 arr w r1 (by simp [zeroCells_size, hzs]; omega) hone
          let arr' : Array Value := (arr.toList.take (off * sz) ++ (Builtin.zeroCells z.cells len).toList ++ arr.toList.drop (off * sz + len * sz)).toArray
          let es' := es.take off ++ List.replicate len (zero.map PV.sc) ++ es.drop (off + len)
          have hlen' : es'.length = es.length := by simp [es']; omega
          have hes' : ∀ i, es'[i]? = if i < off then es[i]? else if i < off + len then some (zero.map PV.sc) else es[i]? := by
            intro i
            have := splice_get es (List.replicate len (zero.map PV.sc)) off i (by simp; omega)
            rw [List.length_replicate] at this
            show es'[i]? = _
            rw [this]
            split
            · rfl
            · split
              · rw [List.getElem?_replicate, if_pos (by omega)]
              · rfl
          have hget : ∀ j, arr'[j]? = if j < off * sz then arr[j]? else if j < off * sz + len * sz then zero[(j - off * sz) % sz]? else arr[j]? := by
            intro j
            have hsp' := splice_get arr.toList (Builtin.zeroCells z.cells len).toList (off * sz) j (by simp [zeroCells_size, hzs]; omega)
            simp only [Array.length_toList, zeroCells_size, hzs] at hsp'
            simp only [arr', List.getElem?_toArray, hsp', Array.getElem?_toList]
            split
            · rfl
            · split
              · rw [← Array.getElem?_toList, zeroCells_get _ _ _ (by rw [hzs]; omega), hzl, hzs]
              · rfl
          have hS := ObStep.bld g (es' := es') (raw' := true) hob (by omega)
          have hE := Ext.write g w (g.blk k) arr' hc0
          have hW := h.write k (.bld st e sz es' true) arr' hlive hc0 hS (by
            refine ⟨arr', setRow_heap w (g.blk k) arr arr' e (0, 0) r1, ?_, by omega, r4, fun i' cs' hi' => ?_, fun i' j cs' q hi' hj => ?_, fun _ => hc0, by rw [hc0]; omega⟩
            · simp [arr', zeroCells_size, hzs]; omega
            · rw [hes'] at hi'
              split at hi'
              · exact r5 i' cs' hi'
              · split at hi'
                · cases hi'; simpa using hzlen
                · exact r5 i' cs' hi'
            · rw [hes'] at hi'
              rw [hget]
              have hjl : j < cs'.length := (List.getElem?_eq_some_iff.1 hj).1
              by_cases c1 : i' < off
              · rw [if_pos c1] at hi'
                have hcl := r5 i' cs' hi'
                have := Nat.mul_le_mul_right sz (show i' + 1 ≤ off from c1)
                rw [Nat.add_mul, Nat.one_mul] at this
                rw [if_pos (by omega)]
                obtain ⟨u, u1, u2, u3⟩ := r6 i' j cs' q hi' hj
                exact ⟨u, u1, u2, u3.mono hE⟩
              · rw [if_neg c1] at hi'
                have hge := Nat.mul_le_mul_right sz (Nat.le_of_not_lt c1)
                rw [if_neg (by omega)]
                by_cases c2 : i' < off + len
                · rw [if_pos c2] at hi'
                  cases hi'
                  have hjz : j < sz := by simpa [hzlen] using hjl
                  have := Nat.mul_le_mul_right sz (show i' + 1 ≤ off + len from c2)
                  rw [Nat.add_mul, Nat.one_mul, Nat.add_mul] at this
                  rw [if_pos (by omega)]
                  have hmod : (i' * sz + j - off * sz) % sz = j := by
                    have : i' * sz + j - off * sz = j + sz * (i' - off) := by rw [Nat.mul_sub, Nat.mul_comm sz i', Nat.mul_comm sz off]; omega
                    rw [this, Nat.add_mul_mod_self_left, Nat.mod_eq_of_lt hjz]
                  rw [hmod]
                  simp only [List.getElem?_map, Option.map_eq_some_iff] at hj
                  obtain ⟨v, hv1, rfl⟩ := hj
                  have hsv : scalarV v = true := List.all_eq_true.1 hall v (List.mem_of_getElem? hv1)
                  exact ⟨v, hv1, hsv, .sc hsv⟩
                · rw [if_neg c2] at hi'
                  have := Nat.mul_le_mul_right sz (Nat.le_of_not_lt c2)
                  rw [Nat.add_mul] at this
                  rw [if_neg (by omega)]
                  obtain ⟨u, u1, u2, u3⟩ := r6 i' j cs' q hi' hj
                  exact ⟨u, u1, u2, u3.mono hE⟩)
          refine wp_value (key _ ?_) (hk g _ _ (hW.1.put o.dst hd htup) hW.2)
          rw [e1]
          simp only [Nat.add_zero, Array.length_toList, zeroCells_size, hzs] at hst
          obtain ⟨l, rfl⟩ : ∃ l, len = l + 1 := ⟨len - 1, by omega⟩
          simp [Builtin.clear_, run_underlying ht, run_zeroValue hinf hzz, hst, arr']
      · simp at hp
    · simp at hp
  · simp at hp
end
end Go.Pf

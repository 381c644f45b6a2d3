/- Pure frames, part Oa: the capacity of the nil slice, clearing a local slice, local arrays. -/
import Derived.Test.YtlefgpakmgbgaaaGreatDoorEf
import Derived.Lib.AppendZeros
set_option linter.unusedVariables false
set_option linter.unusedSimpArgs false
set_option linter.unusedSectionVars false
section
namespace Go.Hf
open Go.RowKit
section
variable {P : Program} {n B bs : Nat} {O : Nat → Prop} {gl : Gl} {ph : Gh × (Nat → Obj) × World × List Deferred} {g : Gh} {s : St} {a : Act} {w w' : World} {o : Oper} {K : Act → World → Prop} {Q : Exit → Act → World → Prop}
theorem sim_cap0 {x : Operand} {p : PV} {us : List (Nat × Obj)} (h : FR gl ph n B O g s a w) (hd : ∀ t, o.dst = some t → t < n) (hr : Rs P o (.cap0 x))
    (hp : pop (evalIn s.env) s.objs (bs + o.dst.getD 0) (.cap0 x) = some (p, us)) (hk : Owed gl ph n B O g w ⟨put s.env o.dst p, updAll s.objs us⟩ K) : o.wp P a w K Q := by
  obtain ⟨t, e, ho, ht, hx⟩ := hr
  have ex := h.opnd hx
  simp only [pop] at hp
  split at hp
  · rename_i hu
    rw [hu] at ex
    cases hp
    have e1 := ex.sc_inv.1
    refine sim_val (v := .int .i64 0) h hd ?_ (.sc rfl) hk
    simp only [execOp, ho, resolve, invoke, builtin, Sem.run_bind, Sem.run_pure, Result.andThen_ok, List.map_toArray, List.map_cons, List.map_nil, e1]
    simp [Builtin.cap_, run_underlying ht]
    rfl
  · simp at hp
theorem zeroCells_get (z : Array Value) (c j : Nat) (hj : j < c * z.size) : (Builtin.zeroCells z c).toList[j]? = z.toList[j % z.size]? := by
  have hz : 0 < z.size := by
    rcases Nat.eq_zero_or_pos z.size with h | h
    · rw [h] at hj; omega
    · exact h
  have hm : j % z.size < z.size := Nat.mod_lt _ hz
  simp only [Builtin.zeroCells, Array.getElem?_toList, Array.getElem?_map, Array.getElem?_range, hj, if_true, Option.map_some]
  rw [getElem!_pos z _ hm, Array.getElem?_eq_getElem hm]
theorem sim_appz {e sz bytes : Nat} {zero : List Value} {sl x : Operand} {raw : Bool} {p : PV} {us : List (Nat × Obj)} (h : FR gl ph n B O g s a w) (hd : ∀ t, o.dst = some t → t < n) (hr : Rs P o (.appz e sz bytes zero sl x raw))
    (hp : pop (evalIn s.env) s.objs (bs + o.dst.getD 0) (.appz e sz bytes zero sl x raw) = some (p, us)) (hk : Owed gl ph n B O g w ⟨put s.env o.dst p, updAll s.objs us⟩ K) : o.wp P a w K Q := by
  obtain ⟨t, t', i, kk, ho, hds, ht, ht', hi, hby, ⟨inf, z, hinf, hzz, hzl, hsz, hzlen, hall⟩, hsz0, hsl, hx⟩ := hr
  have es1 := h.opnd hsl
  have ex1 := h.opnd hx
  simp only [pop] at hp
  split at hp
  · rename_i m hu hv
    rw [hu] at es1
    rw [hv] at ex1
    split at hp
    · rename_i hc
      obtain ⟨h0, h1, h2⟩ := hc
      cases hp
      have e1 := es1.sc_inv.1
      have e2 := ex1.sc_inv.1
      have : inf = i := by rw [hi] at hinf; cases hinf; rfl
      subst this
      obtain ⟨c, rfl⟩ := Int.eq_ofNat_of_zero_le (Int.le_of_lt h0)
      have hc0 : 0 < c := by omega
      have hzs : z.cells.size = sz := by rw [← hzlen, ← hzl]; simp
      have hb : c * inf.bytes ≤ 1099511627776 := by rw [hby]; rw [← Int.natCast_mul] at h1; omega
      have hrun := Lib.run_append_nil_zeros (P := P) w t t' o.type e inf z .i64 kk ht ht' hinf hzz c hc0 (by omega) (by omega) (by omega)
      rw [Int.toNat_natCast] at hk
      have hex : (execOp a.eval o).run P w = .ok (.value (.slice (some ⟨w.heap.size, 0, none⟩) (List.replicate c (zero.map PV.sc)).length (grownCap w c 0 e))) (w.drew.alloc (.cells (Builtin.zeroCells z.cells c ++ Builtin.zeroCells z.cells (grownCap w c 0 e - c)) e)) := by
        simp only [execOp, ho, resolve, invoke, builtin, Sem.run_bind, Sem.run_pure, Result.andThen_ok, List.map_toArray, List.map_cons, List.map_nil, e1, e2, hrun, List.length_replicate]
      refine sim_newBld h hd (bs + o.dst.getD 0) (grownCap w c 0 e) e sz (List.replicate c (zero.map PV.sc)) raw (Builtin.zeroCells z.cells c ++ Builtin.zeroCells z.cells (grownCap w c 0 e - c)) hex rfl rfl rfl rfl ?_ ?_ ?_ ?_ (by simpa [updAll] using hk)
      · rw [Array.size_append, zeroCells_size, zeroCells_size, hzs, ← Nat.add_mul]; congr 1; have := grownCap_ge w c 0 e; omega
      · simpa using grownCap_ge w c 0 e
      · exact grownCap_le_maxLen w c 0 e (by simp only [maxLen]; omega)
      · refine ⟨fun i cs hi => ?_, fun i j cs q hi hj => ?_⟩
        · rw [List.getElem?_replicate] at hi
          split at hi
          · cases hi; simpa using hzlen
          · cases hi
        · rw [List.getElem?_replicate] at hi
          split at hi
          · rename_i hic
            cases hi
            simp only [List.getElem?_map, Option.map_eq_some_iff] at hj
            obtain ⟨v, hv1, rfl⟩ := hj
            have hjl : j < sz := by have := (List.getElem?_eq_some_iff.1 hv1).1; omega
            have hsv : scalarV v = true := List.all_eq_true.1 hall v (List.mem_of_getElem? hv1)
            have := Nat.mul_le_mul_right sz (show i + 1 ≤ c from hic)
            rw [Nat.add_mul, Nat.one_mul] at this
            refine ⟨v, ?_, hsv, .sc hsv⟩
            rw [Array.getElem?_append_left (by rw [zeroCells_size, hzs]; omega), ← Array.getElem?_toList, zeroCells_get _ _ _ (by rw [hzs]; omega), hzl, hzs]
            rw [Nat.add_comm, Nat.add_mul_mod_self_right, Nat.mod_eq_of_lt hjl, hv1]
          · cases hi
    · simp at hp
  · simp at hp
theorem sim_aaddr {m sz : Nat} {x i : Operand} {p : PV} {us : List (Nat × Obj)} (h : FR gl ph n B O g s a w) (hd : ∀ t, o.dst = some t → t < n) (hr : Rs P o (.aaddr m sz x i))
    (hp : pop (evalIn s.env) s.objs (bs + o.dst.getD 0) (.aaddr m sz x i) = some (p, us)) (hk : Owed gl ph n B O g w ⟨put s.env o.dst p, updAll s.objs us⟩ K) : o.wp P a w K Q := by
  obtain ⟨t, e, inf, ho, ht, hinf, hsz, hx, hi⟩ := hr
  have ex := h.opnd hx
  have ei := h.opnd hi
  simp only [pop] at hp
  split at hp
  · rename_i k st off kk j hu hv
    rw [hu] at ex
    rw [hv] at ei
    split at hp
    · rename_i hc
      cases hp
      obtain ⟨e0, ad, e1, e2⟩ := ex.ref_inv (by simp [PV.key, PV.key0])
      have ej := ei.sc_inv.1
      refine sim_val (p := .bptr k st (off + j.toNat * sz)) (v := .pointer (some (ad.add (j.toNat * sz)))) h hd ?_ (.inr (.inl (.inr ⟨e0, _, rfl, fun cs hcs => ?_⟩))) hk
      · simp [execOp, ho, Instr.indexAt, ej, asIntOf, run_underlying ht, e1, Instr.sureAddr, hc.1, hc.2, run_sizeOf hinf, hsz]
      · rw [e2 cs hcs, add_lit]
    · simp at hp
  · simp at hp
theorem sim_aslc {m : Nat} {x : Operand} {p : PV} {us : List (Nat × Obj)} (h : FR gl ph n B O g s a w) (hd : ∀ t, o.dst = some t → t < n) (hr : Rs P o (.aslc m x))
    (hp : pop (evalIn s.env) s.objs (bs + o.dst.getD 0) (.aslc m x) = some (p, us)) (hk : Owed gl ph n B O g w ⟨put s.env o.dst p, updAll s.objs us⟩ K) : o.wp P a w K Q := by
  obtain ⟨t, e, inf, ho, ht, hinf, hsz, hx⟩ := hr
  have ex := h.opnd hx
  simp only [pop] at hp
  split at hp
  · rename_i k st hu
    rw [hu] at ex
    split at hp
    · rename_i st' cs hob
      split at hp
      · rename_i hc
        obtain ⟨rfl, hlen, hmx, hkeys⟩ := hc
        cases hp
        obtain ⟨e0, ad, e1, e2⟩ := ex.ref_inv (by simp [PV.key, PV.key0])
        have e3 := e2 cs hob
        have hO := h.obj k
        rw [hob] at hO
        obtain ⟨arr, T, r1, r2, r3, r4⟩ := hO
        have hlive : (s.objs k).live := by rw [hob]; trivial
        have hfr := h.fresh k hlive
        have hE : Ext g.c w (upd g.c (g.blk k) m) w := by
          refine ⟨Nat.le_refl _, fun b _ => ?_, fun _ _ _ _ => rfl⟩
          by_cases hb : b = g.blk k
          · rw [hb, upd_same, r3]; omega
          · rw [upd_ne _ _ hb]; exact Nat.le_refl _
        have hS : ObStep g s.objs ⟨upd g.c (g.blk k) m, g.blk, g.cap⟩ (upd s.objs k (.no st)) := by
          intro k'
          by_cases hkk : k' = k
          · subst hkk
            rw [upd_same, hob]
            exact ⟨Nat.le_refl _, (fun _ hc => by cases hc), (fun _ _ _ _ hc => by cases hc), (fun _ hc => by cases hc)⟩
          · rw [upd_ne _ _ hkk]
            exact ⟨Nat.le_refl _, fun cs hc => ⟨⟨cs, hc⟩, rfl⟩, fun _ _ es raw hc => ⟨⟨es, raw, hc, Nat.le_refl _⟩, rfl, rfl⟩, fun es hc => ⟨⟨es, hc⟩, rfl⟩⟩
        have hF : FR gl ph n B O ⟨upd g.c (g.blk k) m, g.blk, g.cap⟩ ⟨s.env, upd s.objs k (.no st)⟩ a w := by
          refine h.pass (upd s.objs k (.no st)) (· = k) hE hS (fun k' hk' => upd_ne _ _ hk') (fun k' hkk hl' => ?_) (fun k' hkk hl' => ?_)
          · have hne : g.blk k' ≠ g.blk k := fun e => hkk (h.inj k' k hl' hlive e)
            exact ⟨rfl, rfl, upd_ne _ _ hne, rfl⟩
          · subst hkk; rw [upd_same] at hl'; exact hl'.elim
        have hPB : PB B O g.c w (upd g.c (g.blk k) m) w := by
          refine ⟨rfl, rfl, rfl, Nat.le_refl _, fun _ _ _ => rfl, fun b hb hO => upd_ne _ _ (fun e => ?_)⟩
          subst e
          rcases hfr.1 with h1 | h1
          · omega
          · exact hO h1
        have hcell : ∀ (j : Nat) (q : PV), cs[j]? = some q → ∃ u, arr[j]? = some u ∧ q.isCell = true ∧ VR g.c w q u := by
          intro j q hq
          obtain ⟨u, hu1, hu2, hu3⟩ := r4 j q hq
          refine ⟨u, hu1, hu2, ?_⟩
          rcases hu3 with h3 | h3
          · exact h3
          · exfalso
            have : q.key = [] := by
              rw [List.flatMap_eq_nil_iff] at hkeys
              exact hkeys q (List.mem_of_getElem? hq)
            exact h3.key_ne this
        have hsl : ∀ (j : Nat) (q : List PV), (cs.map fun q => [q])[j]? = some q → ∃ r, cs[j]? = some r ∧ q = [r] := by
          intro j q hq
          simp only [List.getElem?_map, Option.map_eq_some_iff] at hq
          obtain ⟨r, hr1, rfl⟩ := hq
          exact ⟨r, hr1, rfl⟩
        have hV : VR (upd g.c (g.blk k) m) w (.lst 1 (cs.map fun q => [q])) (.slice (some ⟨g.blk k, 0, none⟩) (cs.map fun q => [q]).length (cs.map fun q => [q]).length) := by
          refine .lst (fun i _ => arr.getD i undef) (Nat.le_refl _) (by simp; unfold maxLen; omega) hfr.2 (fun _ => by rw [upd_same]; simp; omega) (fun i q hq => ?_) (fun i j q r hq hj => ?_) (fun i j q r hq hj => ?_) (fun i j q r hq hj => ?_)
          · obtain ⟨r, _, rfl⟩ := hsl i q hq; rfl
          · obtain ⟨r', hr', rfl⟩ := hsl i q hq
            obtain ⟨u, hu1, _, _⟩ := hcell i r' hr'
            have hj0 : j = 0 := by have := (List.getElem?_eq_some_iff.1 hj).1; simp at this; omega
            subst hj0
            rw [cell_of_heap r1]
            simp [Array.getD_eq_getD_getElem?, hu1]
          · obtain ⟨r', hr', rfl⟩ := hsl i q hq
            obtain ⟨u, hu1, hu2, _⟩ := hcell i r' hr'
            have hj0 : j = 0 := by have := (List.getElem?_eq_some_iff.1 hj).1; simp at this; omega
            subst hj0
            simp at hj; subst hj; exact hu2
          · obtain ⟨r', hr', rfl⟩ := hsl i q hq
            obtain ⟨u, hu1, hu2, hu3⟩ := hcell i r' hr'
            have hj0 : j = 0 := by have := (List.getElem?_eq_some_iff.1 hj).1; simp at this; omega
            subst hj0
            simp at hj; subst hj
            simp only [Array.getD_eq_getD_getElem?, hu1, Option.getD_some]
            exact hu3.mono hE
        refine wp_value (v := .slice (some ⟨g.blk k, 0, none⟩) (cs.map fun q => [q]).length (cs.map fun q => [q]).length) (w' := w) ?_ (hk _ _ w (hF.put o.dst hd (.inr (.inl (.inl hV)))) hPB)
        simp [execOp, ho, Instr.sliceAt, Instr.sliceBounds, run_underlying ht, e1, e3, Instr.sureAddr, run_sizeOf hinf, hsz, hlen, add_lit]
      · simp at hp
    · simp at hp
  · simp at hp
theorem sim_clr {e sz : Nat} {zero : List Value} {x : Operand} {p : PV} {us : List (Nat × Obj)} (h : FR gl ph n B O g s a w) (hd : ∀ t, o.dst = some t → t < n) (hr : Rs P o (.clr e sz zero x))
    (hp : pop (evalIn s.env) s.objs (bs + o.dst.getD 0) (.clr e sz zero x) = some (p, us)) (hk : Owed gl ph n B O g w ⟨put s.env o.dst p, updAll s.objs us⟩ K) : o.wp P a w K Q := by
  obtain ⟨t, ho, ht, hz, hsz0, hx⟩ := hr
  obtain ⟨inf, z, hinf, hzz, hzl, hsz, hzlen, hall⟩ := hz
  have ex := h.opnd hx
  have htup : ∀ {g : Gh} {w : World} {ob : Nat → Obj}, XR g w ob (.tup []) (.tuple #[]) := fun {_ _ _} => .inr (.inr (.inr ⟨[], [], rfl, rfl, rfl, by simp⟩))
  have key : ∀ w1 : World, (Builtin.clear_ #[t] o.type #[a.eval x]).run P w = .ok (.tuple #[]) w1 → (execOp a.eval o).run P w = .ok (.value (.tuple #[])) w1 := by
    intro w1 hl
    simp only [execOp, ho, resolve, invoke, builtin, Sem.run_bind, Sem.run_pure, Result.andThen_ok, List.map_toArray, List.map_cons, List.map_nil, hl]
  simp only [pop] at hp
  split at hp
  · rename_i hu
    rw [hu] at ex
    cases hp
    have e1 := ex.sc_inv.1
    refine sim_val h hd (key w ?_) htup hk
    rw [e1]
    simp [Builtin.clear_, run_underlying ht]
  · rename_i k st off len hu
    rw [hu] at ex
    split at hp
    · rename_i s' e' sz' es hob
      split at hp
      · rename_i hc
        obtain ⟨hs1, hs2, hs3, hfit⟩ := hc
        subst hs1
        have hs2 := hs2.symm
        subst hs2
        have hs3 := hs3.symm
        subst hs3
        cases hp
        obtain ⟨_, b, o', cap, e1, hlc, hcm, e2⟩ := ex.ref_inv (by simp [PV.key, PV.key0])
        obtain ⟨q1, rfl, q3, _⟩ := e2 e sz es true hob
        have hO := h.obj k
        rw [hob] at hO
        obtain ⟨arr, r1, r2, r3, r4, r5, r6, r7, r8⟩ := hO
        have hc0 : g.c (g.blk k) = 0 := r7 rfl
        have hlive : (s.objs k).live := by rw [hob]; trivial
        rcases Nat.eq_zero_or_pos len with h0 | hpos
        · subst h0
          have hes : es.take off ++ List.replicate 0 (zero.map PV.sc) ++ es.drop (off + 0) = es := by simp
          rw [hes] at hk
          have hup : updAll s.objs [(k, .bld st e sz es true)] = s.objs := by
            funext k'
            simp only [updAll]
            by_cases hkk : k' = k
            · subst hkk; rw [upd_same, hob]
            · rw [upd_ne _ _ hkk]
          rw [hup] at hk
          refine sim_val h hd (key w ?_) htup hk
          rw [e1]
          simp [Builtin.clear_, run_underlying ht]
        · have ho' : o' = off * sz := q3 (.inl hpos)
          subst ho'
          have hmul : off * sz + len * sz ≤ g.cap k * sz := by
            have := Nat.mul_le_mul_right sz (Nat.le_trans hfit r3)
            rw [Nat.add_mul] at this; exact this
          have hzs : z.cells.size = sz := by rw [← hzlen, ← hzl]; simp
          have hone : ∀ u ∈ (Builtin.zeroCells z.cells len).toList, u.oneCell' = true := by
            intro u hu'
            obtain ⟨j, hj⟩ := List.mem_iff_getElem?.1 hu'
            have hjl : j < len * z.cells.size := by have := (List.getElem?_eq_some_iff.1 hj).1; simpa [zeroCells_size] using this
            rw [zeroCells_get _ _ _ hjl, hzl] at hj
            exact scalar_oneCell (List.all_eq_true.1 hall u (List.mem_of_getElem? hj))
          have hst := run_storeCells_at P (g.blk k) (off * sz) e (Builtin.zeroCells z.cells len).toList 0 arr w r1 (by simp [zeroCells_size, hzs]; omega) hone
          let arr' : Array Value := (arr.toList.take (off * sz) ++ (Builtin.zeroCells z.cells len).toList ++ arr.toList.drop (off * sz + len * sz)).toArray
          let es' := es.take off ++ List.replicate len (zero.map PV.sc) ++ es.drop (off + len)
          have hlen' : es'.length = es.length := by simp [es']; omega
          have hes' : ∀ i, es'[i]? = if i < off then es[i]? else if i < off + len then some (zero.map PV.sc) else es[i]? := by
            intro i
            have := splice_get es (List.replicate len (zero.map PV.sc)) off i (by simp; omega)
            rw [List.length_replicate] at this
            show es'[i]? = _
            rw [this]
            split
            · rfl
            · split
              · rw [List.getElem?_replicate, if_pos (by omega)]
              · rfl
          have hget : ∀ j, arr'[j]? = if j < off * sz then arr[j]? else if j < off * sz + len * sz then zero[(j - off * sz) % sz]? else arr[j]? := by
            intro j
            have hsp' := splice_get arr.toList (Builtin.zeroCells z.cells len).toList (off * sz) j (by simp [zeroCells_size, hzs]; omega)
            simp only [Array.length_toList, zeroCells_size, hzs] at hsp'
            simp only [arr', List.getElem?_toArray, hsp', Array.getElem?_toList]
            split
            · rfl
            · split
              · rw [← Array.getElem?_toList, zeroCells_get _ _ _ (by rw [hzs]; omega), hzl, hzs]
              · rfl
          have hS := ObStep.bld g (es' := es') (raw' := true) hob (by omega)
          have hE := Ext.write g w (g.blk k) arr' hc0
          have hW := h.write k (.bld st e sz es' true) arr' hlive hc0 hS (by
            refine ⟨arr', setRow_heap w (g.blk k) arr arr' e (0, 0) r1, ?_, by omega, r4, fun i' cs' hi' => ?_, fun i' j cs' q hi' hj => ?_, fun _ => hc0, by rw [hc0]; omega⟩
            · simp [arr', zeroCells_size, hzs]; omega
            · rw [hes'] at hi'
              split at hi'
              · exact r5 i' cs' hi'
              · split at hi'
                · cases hi'; simpa using hzlen
                · exact r5 i' cs' hi'
            · rw [hes'] at hi'
              rw [hget]
              have hjl : j < cs'.length := (List.getElem?_eq_some_iff.1 hj).1
              by_cases c1 : i' < off
              · rw [if_pos c1] at hi'
                have hcl := r5 i' cs' hi'
                have := Nat.mul_le_mul_right sz (show i' + 1 ≤ off from c1)
                rw [Nat.add_mul, Nat.one_mul] at this
                rw [if_pos (by omega)]
                obtain ⟨u, u1, u2, u3⟩ := r6 i' j cs' q hi' hj
                exact ⟨u, u1, u2, u3.mono hE⟩
              · rw [if_neg c1] at hi'
                have hge := Nat.mul_le_mul_right sz (Nat.le_of_not_lt c1)
                rw [if_neg (by omega)]
                by_cases c2 : i' < off + len
                · rw [if_pos c2] at hi'
                  cases hi'
                  have hjz : j < sz := by simpa [hzlen] using hjl
                  have := Nat.mul_le_mul_right sz (show i' + 1 ≤ off + len from c2)
                  rw [Nat.add_mul, Nat.one_mul, Nat.add_mul] at this
                  rw [if_pos (by omega)]
                  have hmod : (i' * sz + j - off * sz) % sz = j := by
                    have : i' * sz + j - off * sz = j + sz * (i' - off) := by rw [Nat.mul_sub, Nat.mul_comm sz i', Nat.mul_comm sz off]; omega
                    rw [this, Nat.add_mul_mod_self_left, Nat.mod_eq_of_lt hjz]
                  rw [hmod]
                  simp only [List.getElem?_map, Option.map_eq_some_iff] at hj
                  obtain ⟨v, hv1, rfl⟩ := hj
                  have hsv : scalarV v = true := List.all_eq_true.1 hall v (List.mem_of_getElem? hv1)
                  exact ⟨v, hv1, hsv, .sc hsv⟩
                · rw [if_neg c2] at hi'
                  have := Nat.mul_le_mul_right sz (Nat.le_of_not_lt c2)
                  rw [Nat.add_mul] at this
                  rw [if_neg (by omega)]
                  obtain ⟨u, u1, u2, u3⟩ := r6 i' j cs' q hi' hj
                  exact ⟨u, u1, u2, u3.mono hE⟩)
          refine wp_value (key _ ?_) (hk g _ _ (hW.1.put o.dst hd htup) hW.2)
          rw [e1]
          simp only [Nat.add_zero, Array.length_toList, zeroCells_size, hzs] at hst
          obtain ⟨l, rfl⟩ : ∃ l, len = l + 1 := ⟨len - 1, by omega⟩
          simp [Builtin.clear_, run_underlying ht, run_zeroValue hinf hzz, hst, arr']
      · simp at hp
    · simp at hp
  · simp at hp
end
end Go.Hf
end
section
namespace Go.Hf
open Go.RowKit
section
variable {P : Program} {n B bs : Nat} {O : Nat → Prop} {gl : Gl} {ph : Gh × (Nat → Obj) × World × List Deferred} {g : Gh} {s : St} {a : Act} {w w' : World} {o : Oper} {K : Act → World → Prop} {Q : Exit → Act → World → Prop}
theorem sim_pop {r : ROp} {p : PV} {us : List (Nat × Obj)} (h : FR gl ph n B O g s a w) (hd : ∀ t, o.dst = some t → t < n) (hr : Rs P o r)
    (hp : pop (evalIn s.env) s.objs (bs + o.dst.getD 0) r = some (p, us)) (hk : Owed gl ph n B O g w ⟨put s.env o.dst p, updAll s.objs us⟩ K) : o.wp P a w K Q := by
  cases r with
  | mv x => simp only [pop, Option.some.injEq, Prod.mk.injEq] at hp; obtain ⟨rfl, rfl⟩ := hp; exact sim_mv h hd hr hk
  | pick c x y =>
    have hu : us = [] := by simp only [pop] at hp; split at hp <;> simp_all
    subst hu
    exact sim_pick h hd hr hp hk
  | alloc t zero => exact sim_alloc h hd hr hp hk
  | box t x => exact sim_box h hd hr hp hk
  | build zero ps => exact sim_build h hd hr hp hk
  | bslice e sz zero len ps raw => exact sim_bslice h hd hr hp hk
  | load agg m x => exact sim_load h hd hr hp hk
  | store m x v => exact sim_store h hd hr hp hk
  | nilchk x => exact sim_nilchk h hd hr hp hk
  | bin op x y => exact sim_bin h hd hr hp hk
  | binb neg x y => exact sim_binb h hd hr hp hk
  | eqs neg x y => exact sim_eqs h hd hr hp hk
  | isnil neg x => exact sim_isnil h hd hr hp hk
  | un op x => exact sim_un h hd hr hp hk
  | cint k x => exact sim_cint h hd hr hp hk
  | b2s x => exact sim_b2s h hd hr hp hk
  | mkslice e sz bytes zero l c => exact sim_mkslice h hd hr hp hk
  | sslice x lo hi => exact sim_sslice h hd hr hp hk
  | slc sz x lo hi => exact sim_slc h hd hr hp hk
  | faddr off x => exact sim_faddr h hd hr hp hk
  | fld agg off m x => exact sim_fld h hd hr hp hk
  | iaddr sz x i => exact sim_iaddr h hd hr hp hk
  | sidx x i => exact sim_sidx h hd hr hp hk
  | ext x i => exact sim_ext h hd hr hp hk
  | len isStr x => exact sim_len h hd hr hp hk
  | append e sz bytes sl x raw => exact sim_append h hd hr hp hk
  | mx isMax x y => exact sim_mx h hd hr hp hk
  | call f args => simp [pop] at hp
  | hcall f args frz => simp [pop] at hp
  | sh op x y => exact sim_sh h hd hr hp hk
  | bits op x y => exact sim_bits h hd hr hp hk
  | mkfun f caps => exact sim_mkfun h hd hr hp hk
  | mkmap => exact sim_mkmap h hd hr hp hk
  | mput kd m k v => exact sim_mput h hd hr hp hk
  | mget kd ok zero m k => exact sim_mget h hd hr hp hk
  | apps e bytes sl x raw => exact sim_apps h hd hr hp hk
  | appz e sz bytes zero sl x raw => exact sim_appz h hd hr hp hk
  | cap0 x => exact sim_cap0 h hd hr hp hk
  | clr e sz zero x => exact sim_clr h hd hr hp hk
  | aaddr m sz x i => exact sim_aaddr h hd hr hp hk
  | aslc m x => exact sim_aslc h hd hr hp hk
  | bad => simp [pop] at hp
inductive PStep (gl : Gl) (P : Program) (bs : Nat) (draw : Bool) (o : POper) (s : St) : St → Prop where
  | skip (h : wantedIn s.env o.guard = some false) : PStep gl P bs draw o s ⟨put s.env o.dst (.tup []), s.objs⟩
  | pop {v : PV} {us : List (Nat × Obj)} (h : wantedIn s.env o.guard = some true) (hp : pop (evalIn s.env) s.objs (bs + o.r.off + o.dst.getD 0) o.r = some (v, us)) : PStep gl P bs draw o s ⟨put s.env o.dst v, updAll s.objs us⟩
  | call {f : Operand} {args : List Operand} {fid : FuncId} {x y : Array Value} {ps : List PV} {us : List (Nat × Obj)} {res : PV} (h : wantedIn s.env o.guard = some true) (hr : o.r = .call f args)
      (hf : evalIn s.env f = .sc (.func (.func fid) x y)) (hprep : prep (evalIn s.env) s.objs [] args = some (ps, us)) (hRC : RC gl P fid ps res) :
      PStep gl P bs draw o s ⟨put s.env o.dst res, updAll s.objs us⟩
  | hcall {f : Operand} {args : List Operand} {frz : List Bool} {fid : FuncId} {caps ps : List PV} {us : List (Nat × Obj)} {res : PV} {ob' : Nat → Obj} (h : wantedIn s.env o.guard = some true) (hr : o.r = .hcall f args frz)
      (hf : fnOf (evalIn s.env f) = some (fid, caps)) (hprep : prep (evalIn s.env) s.objs frz args = some (ps, us)) (hHC : HC gl P fid (ps ++ caps) (updAll s.objs us) res ob') :
      PStep gl P bs draw o s ⟨put s.env o.dst res, ob'⟩
theorem PStep.of_pwOp {draw : Bool} {po : POper} {Kp : St → Prop} (h : pwOp gl P bs draw po s Kp) : ∃ s', PStep gl P bs draw po s s' ∧ Kp s' := by
  unfold pwOp at h
  split at h
  · rename_i hw
    obtain ⟨_, h⟩ := h
    split at h
    · rename_i f args hr
      split at h
      · rename_i fid x y hf
        split at h
        · rename_i ps us hprep
          obtain ⟨res, hRC, _, hK⟩ := h
          exact ⟨_, .call hw hr hf hprep hRC, hK⟩
        · exact h.elim
      · exact h.elim
    · rename_i f args frz hr
      split at h
      · rename_i fid caps hf
        split at h
        · rename_i ps us hprep
          obtain ⟨res, ob', hHC, _, hK⟩ := h
          exact ⟨_, .hcall hw hr hf hprep hHC, hK⟩
        · exact h.elim
      · exact h.elim
    · split at h
      · rename_i v us hp
        exact ⟨_, .pop hw hp, h.2⟩
      · exact h.elim
  · rename_i hw; exact ⟨_, .skip hw, h⟩
  · exact h.elim
def RsO (P : Program) (n : Nat) (ops : Array Oper) (o : Oper) (po : POper) : Prop :=
  po.dst = o.dst ∧ (∀ t, o.dst = some t → t < n) ∧ Rs P o po.r ∧
  match o.guard, po.guard with
  | none, none => True
  | some (j, b), some (t, b') => b = b' ∧ (ops[j]?).bind (·.dst) = some t ∧ t < n
  | _, _ => False
theorem wanted_of {ops : Array Oper} {po : POper} {b : Bool} (h : FR gl ph n B O g s a w) (hr : RsO P n ops o po) (hw : wantedIn s.env po.guard = some b) : Region.wanted o (yielded ops a.tmps) = b := by
  obtain ⟨_, _, _, hg⟩ := hr
  unfold Region.wanted
  split at hg
  · rename_i h1 h2
    rw [h1]
    rw [h2] at hw
    simpa [wantedIn] using hw
  · rename_i j b1 t b2 h1 h2
    obtain ⟨rfl, hdst, ht⟩ := hg
    rw [h1]
    rw [h2] at hw
    have he := h.env t
    have hget : a.tmps[t]? = some (a.tmps.getD t undef) := by
      have : t < a.tmps.size := by rw [h.size]; exact ht
      simp [Array.getD_eq_getD_getElem?, this]
    simp only [wantedIn] at hw
    simp only [yielded, hdst, Option.bind_some, hget]
    split at hw
    · rename_i x hx
      rw [hx] at he
      rw [he.sc_inv.1]
      simp only [Option.some.injEq] at hw
      rw [← hw]
      cases x <;> cases b1 <;> rfl
    · rename_i hx
      rw [hx] at he
      obtain ⟨vs, e1, e2, _⟩ := he.tup_inv
      have : vs = [] := by simpa using e2.symm
      subst this
      rw [e1]
      simp only [Option.some.injEq] at hw
      rw [← hw]
      cases b1 <;> rfl
    · simp at hw
  · exact hg.elim
theorem sim_step {draw : Bool} {ops : Array Oper} {po : POper} {s' : St} {i : Nat} (h : FR gl ph n B O g s a w) (hi : ops[i]? = some o) (hr : RsO P n ops o po) (hs : PStep gl P bs draw po s s') (hk : Owed gl ph n B O g w s' K) : wpOp P ops Q i K a w := by
  simp only [wpOp, hi]
  obtain ⟨hdst, hd, hrs, hg⟩ := id hr
  cases hs with
  | skip hw =>
    rw [wanted_of h hr hw]
    simp only [Bool.false_eq_true, if_false]
    rw [hdst] at hk
    exact hk g _ w (h.put o.dst hd (p := .tup []) (v := undef) (.inr (.inr (.inr ⟨[], [], rfl, rfl, rfl, by simp⟩)))) (PB.refl _ _ _ _)
  | pop hw hp =>
    rw [wanted_of h hr hw]
    simp only [if_true]
    rw [hdst] at hp hk
    exact .inl (sim_pop h hd hrs hp hk)
  | call hw hre hf hprep hRC =>
    rw [wanted_of h hr hw]
    simp only [if_true]
    rw [hdst] at hk
    rw [hre] at hrs
    exact .inl (sim_call h hd hrs hf hprep hRC hk)
  | hcall hw hre hf hprep hHC =>
    rw [wanted_of h hr hw]
    simp only [if_true]
    rw [hdst] at hk
    rw [hre] at hrs
    exact .inl (sim_hcall h hd hrs hf hprep hHC hk)
theorem sim_ops {ops : Array Oper} {draw : Bool} {c0 : Nat → Nat} {w0 : World} {Kp : St → Prop} : ∀ (pos : List POper) (i : Nat) (g : Gh) (s : St) (a : Act) (w : World),
    (∀ (j : Nat) (po : POper), pos[j]? = some po → ∃ o, ops[i + j]? = some o ∧ RsO P n ops o po) → pwOps gl P bs draw pos s Kp → FR gl ph n B O g s a w → PB B O c0 w0 g.c w →
    (∀ g' s' a' w', Kp s' → FR gl ph n B O g' s' a' w' → PB B O c0 w0 g'.c w' → Q .normal a' w') → wpOps P ops Q (List.range' i pos.length) a w
  | [], i, g, s, a, w, _, hp, h, hPB, hQ => by
    simp only [List.length_nil, List.range'_zero, wpOps]
    exact hQ g s a w hp h hPB
  | po :: pos, i, g, s, a, w, hops, hp, h, hPB, hQ => by
    simp only [List.length_cons, List.range'_succ]
    rw [wpOps_cons]
    obtain ⟨o, ho, hr⟩ := hops 0 po rfl
    obtain ⟨s', hs, hk⟩ := PStep.of_pwOp hp
    refine sim_step h (by simpa using ho) hr hs (fun g' a' w' hF hPB' => ?_)
    exact sim_ops pos (i + 1) g' s' a' w' (fun j po' hj => by
      have := hops (j + 1) po' (by simpa using hj)
      rwa [show i + 1 + j = i + (j + 1) by omega]) hk hF (hPB.trans hPB') hQ
end
end Go.Hf
end
section
namespace Go.Hf
open Go.RowKit
section
variable {ob ob' : Nat → Obj}
theorem pureCell_congr {p : PV} (h : ∀ k ∈ p.key, ob' k = ob k) : pureCell ob' p = pureCell ob p := by
  cases p with
  | bld k s off len => simp only [pureCell]; rw [h k (by simp [PV.key, PV.key0])]
  | _ => rfl
theorem pureCells_congr : ∀ {cs : List PV}, (∀ k ∈ cs.flatMap PV.key, ob' k = ob k) → pureCells ob' cs = pureCells ob cs
  | [], _ => rfl
  | p :: ps, h => by
    simp only [pureCells]
    rw [pureCell_congr (fun k hk => h k (by simp [hk])), pureCells_congr (fun k hk => h k (by simp only [List.flatMap_cons, List.mem_append]; exact .inr hk))]
theorem pureVal_congr {p : PV} (h : ∀ k ∈ p.keys, ob' k = ob k) : pureVal ob' p = pureVal ob p := by
  cases p with
  | agg cs => simp only [pureVal]; rw [pureCells_congr h]
  | bld k s off len => exact pureCell_congr (p := .bld k s off len) h
  | _ => rfl
theorem shareCell_congr {p : PV} (h : ∀ k ∈ p.key, ob' k = ob k) : shareCell ob' p = shareCell ob p := by
  cases p with
  | bld k s off len => simp only [shareCell]; rw [h k (by simp [PV.key, PV.key0])]
  | _ => rfl
theorem flatMap_congr' {α β : Type} {f f' : α → List β} : ∀ {l : List α}, (∀ x ∈ l, f' x = f x) → l.flatMap f' = l.flatMap f
  | [], _ => rfl
  | x :: xs, h => by simp only [List.flatMap_cons]; rw [h x (by simp), flatMap_congr' (fun y hy => h y (by simp [hy]))]
theorem shareVal_congr {p : PV} (h : ∀ k ∈ p.keys, ob' k = ob k) : shareVal ob' p = shareVal ob p := by
  cases p with
  | agg cs =>
    simp only [shareVal]
    exact flatMap_congr' (fun q hq => shareCell_congr (fun k hk => h k (by simp only [PV.keys, PV.keysA, List.mem_flatMap]; exact ⟨q, hq, hk⟩)))
  | bld k s off len => exact shareCell_congr (p := .bld k s off len) h
  | _ => rfl
theorem elems_congr {sz : Nat} {p : PV} (h : ∀ k ∈ p.keys, ob' k = ob k) : elems ob' sz p = elems ob sz p := by
  unfold elems
  split
  · rfl
  · rfl
  · rename_i k s off len; rw [h k (by simp [PV.keys, PV.keysA, PV.key, PV.key0])]
  · rfl
variable {ev ev' : Operand → PV}
theorem bound_congr {dflt : Nat} {ox : Option Operand} (h : ∀ x ∈ optL ox, ev' x = ev x) : bound ev' dflt ox = bound ev dflt ox := by
  cases ox with
  | none => rfl
  | some x => simp only [bound]; rw [h x (by simp [optL])]
theorem fillParts_congr : ∀ {ps : List (Nat × Nat × Operand)} {cs : List PV}, (∀ x ∈ ps.map (·.2.2), ev' x = ev x) → fillParts ev' cs ps = fillParts ev cs ps
  | [], _, _ => rfl
  | (off, m, x) :: r, cs, h => by
    simp only [fillParts]
    rw [h x (by simp)]
    split
    · split
      · exact fillParts_congr (fun y hy => h y (by simp only [List.map_cons, List.mem_cons]; exact .inr hy))
      · rfl
    · rfl
theorem fillElems_congr {sz : Nat} : ∀ {ps : List (Nat × Operand)} {es : List (List PV)}, (∀ x ∈ ps.map (·.2), ev' x = ev x) → (∀ x ∈ ps.map (·.2), ∀ k ∈ (ev x).keys, ob' k = ob k) → fillElems ev' ob' sz es ps = fillElems ev ob sz es ps
  | [], _, _, _ => rfl
  | (i, x) :: r, es, h, hk => by
    simp only [fillElems]
    rw [h x (by simp), pureVal_congr (hk x (by simp))]
    split
    · split
      · exact fillElems_congr (fun y hy => h y (by simp only [List.map_cons, List.mem_cons]; exact .inr hy)) (fun y hy => hk y (by simp only [List.map_cons, List.mem_cons]; exact .inr hy))
      · rfl
    · rfl
def ROpA.makes {α : Type} : ROpA α → Bool
  | .alloc _ _ => true
  | .box _ _ => true
  | .bslice _ _ _ _ _ _ => true
  | .mkslice _ _ _ _ _ _ => true
  | .append _ _ _ _ _ _ => true
  | .mkmap => true
  | .apps _ _ _ _ _ => true
  | .appz _ _ _ _ _ _ _ => true
  | _ => false
theorem pop_congr {d : Nat} {r : ROp} (h : ∀ x ∈ r.opnds, ev' x = ev x) (hk : r.looks = true → ∀ x ∈ r.lookOpnds, ∀ k ∈ (ev x).keys, ob' k = ob k) (hd : r.makes = true → ob' d = ob d) : pop ev' ob' d r = pop ev ob d r := by
  cases r with
  | mv x => simp only [pop]; rw [h x (by simp [ROpA.opnds])]
  | pick c x y => simp only [pop]; rw [h c (by simp [ROpA.opnds]), h x (by simp [ROpA.opnds]), h y (by simp [ROpA.opnds])]
  | alloc t zero => simp only [pop]; rw [hd rfl]
  | box t x => simp only [pop]; rw [h x (by simp [ROpA.opnds]), hd rfl]
  | build zero ps => simp only [pop]; rw [fillParts_congr h]
  | bslice e sz zero len ps raw =>
    have hk := hk rfl
    simp only [pop]
    rw [fillElems_congr h hk, hd rfl]
    have : ps.flatMap (fun p => shareVal ob' (ev' p.2)) = ps.flatMap (fun p => shareVal ob (ev p.2)) :=
      flatMap_congr' (fun p hp => by rw [h p.2 (by simp only [ROpA.opnds, List.mem_map]; exact ⟨p, hp, rfl⟩), shareVal_congr (hk p.2 (by simp only [ROpA.lookOpnds, ROpA.opnds, List.mem_map]; exact ⟨p, hp, rfl⟩))])
    rw [this]
  | load agg m x =>
    have hx := hk rfl x (by first | (simp [ROpA.lookOpnds, ROpA.opnds]; done) | exact List.mem_cons_self | exact List.mem_cons_of_mem _ List.mem_cons_self)
    simp only [pop]; rw [h x (by simp [ROpA.opnds])]
    generalize ev x = p at hx
    split
    · rename_i k s off; rw [hx k (by simp [PV.keys, PV.keysA, PV.key, PV.key0])]
    · rename_i k s i off; rw [hx k (by simp [PV.keys, PV.keysA, PV.key, PV.key0])]
    · rfl
    · rfl
  | store m x v =>
    have hx := hk rfl x (by simp [ROpA.lookOpnds])
    simp only [pop]; rw [h x (by simp [ROpA.opnds]), h v (by simp [ROpA.opnds])]
    generalize ev x = p at hx
    split
    · rename_i k s off; rw [hx k (by simp [PV.keys, PV.keysA, PV.key, PV.key0])]
    · rename_i k s i off
      rw [hx k (by simp [PV.keys, PV.keysA, PV.key, PV.key0])]
      by_cases hv : (ev v).keys = []
      · rw [pureVal_congr (ob := ob) (ob' := ob') (p := ev v) (fun k hk => by rw [hv] at hk; cases hk)]
      · cases hob : ob k with
        | bld s' e sz es raw =>
          cases raw with
          | false => rfl
          | true =>
            cases (pureVal ob' (ev v)).bind PV.cells <;> cases (pureVal ob (ev v)).bind PV.cells <;> cases hq : es[i]? <;> simp [hv, hq]
        | _ => rfl
    · rfl
  | nilchk x => simp only [pop]; rw [h x (by simp [ROpA.opnds])]
  | bin op x y => simp only [pop]; rw [h x (by simp [ROpA.opnds]), h y (by simp [ROpA.opnds])]
  | binb neg x y => simp only [pop]; rw [h x (by simp [ROpA.opnds]), h y (by simp [ROpA.opnds])]
  | eqs neg x y => simp only [pop]; rw [h x (by simp [ROpA.opnds]), h y (by simp [ROpA.opnds])]
  | isnil neg x => simp only [pop]; rw [h x (by simp [ROpA.opnds])]
  | un op x => simp only [pop]; rw [h x (by simp [ROpA.opnds])]
  | cint k x => simp only [pop]; rw [h x (by simp [ROpA.opnds])]
  | b2s x => simp only [pop]; rw [h x (by simp [ROpA.opnds]), elems_congr (hk rfl x (by first | (simp [ROpA.lookOpnds, ROpA.opnds]; done) | exact List.mem_cons_self | exact List.mem_cons_of_mem _ List.mem_cons_self))]
  | mkslice e sz bytes zero l c => simp only [pop]; rw [h l (by simp [ROpA.opnds]), h c (by simp [ROpA.opnds]), hd rfl]
  | sslice x lo hi =>
    simp only [pop]
    rw [h x (by simp [ROpA.opnds]), bound_congr (dflt := 0) (ox := lo) (fun y hy => h y (by simp [ROpA.opnds, hy]))]
    have hb : ∀ dflt, bound ev' dflt hi = bound ev dflt hi := fun dflt => bound_congr (fun y hy => h y (by simp [ROpA.opnds, hy]))
    simp only [hb]
  | slc sz x lo hi =>
    have hx := hk rfl x (by first | (simp [ROpA.lookOpnds, ROpA.opnds]; done) | exact List.mem_cons_self | exact List.mem_cons_of_mem _ List.mem_cons_self)
    simp only [pop]
    rw [h x (by simp [ROpA.opnds]), bound_congr (dflt := 0) (ox := lo) (fun y hy => h y (by simp [ROpA.opnds, hy]))]
    have hb : ∀ dflt, bound ev' dflt hi = bound ev dflt hi := fun dflt => bound_congr (fun y hy => h y (by simp [ROpA.opnds, hy]))
    simp only [hb]
    generalize ev x = p at hx
    split
    · rfl
    · rename_i k s off len; rw [hx k (by simp [PV.keys, PV.keysA, PV.key, PV.key0])]
    · rfl
    · rfl
  | faddr off x => simp only [pop]; rw [h x (by simp [ROpA.opnds])]
  | fld agg off m x => simp only [pop]; rw [h x (by simp [ROpA.opnds])]
  | iaddr sz x i =>
    have hx := hk rfl x (by first | (simp [ROpA.lookOpnds, ROpA.opnds]; done) | exact List.mem_cons_self | exact List.mem_cons_of_mem _ List.mem_cons_self)
    simp only [pop]; rw [h x (by simp [ROpA.opnds]), h i (by simp [ROpA.opnds])]
    generalize ev x = p at hx
    split
    · rfl
    · rename_i k s off len kk m hm; rw [hx k (by simp [PV.keys, PV.keysA, PV.key, PV.key0])]
    · rfl
  | sidx x i => simp only [pop]; rw [h x (by simp [ROpA.opnds]), h i (by simp [ROpA.opnds])]
  | ext x i => simp only [pop]; rw [h x (by simp [ROpA.opnds])]
  | len isStr x => simp only [pop]; rw [h x (by simp [ROpA.opnds])]
  | append e sz bytes sl x raw =>
    have hk := hk rfl
    have hs := hk sl (by first | (simp [ROpA.lookOpnds, ROpA.opnds]; done) | exact List.mem_cons_self | exact List.mem_cons_of_mem _ List.mem_cons_self)
    simp only [pop]; rw [h sl (by simp [ROpA.opnds]), h x (by simp [ROpA.opnds]), elems_congr (hk x (by first | (simp [ROpA.lookOpnds, ROpA.opnds]; done) | exact List.mem_cons_self | exact List.mem_cons_of_mem _ List.mem_cons_self)), hd rfl]
    generalize ev sl = p at hs
    generalize elems ob sz (ev x) = q
    split
    · rfl
    · rename_i k st len ys; rw [hs k (by simp [PV.keys, PV.keysA, PV.key, PV.key0])]
    · rfl
  | mx isMax x y => simp only [pop]; rw [h x (by simp [ROpA.opnds]), h y (by simp [ROpA.opnds])]
  | apps e bytes sl x raw =>
    have hk := hk rfl
    have hs := hk sl (by first | (simp [ROpA.lookOpnds, ROpA.opnds]; done) | exact List.mem_cons_self | exact List.mem_cons_of_mem _ List.mem_cons_self)
    simp only [pop]; rw [h sl (by simp [ROpA.opnds]), h x (by simp [ROpA.opnds]), hd rfl]
    generalize ev sl = p at hs
    generalize ev x = q
    split
    · rfl
    · rename_i k st len ys; rw [hs k (by simp [PV.keys, PV.keysA, PV.key, PV.key0])]
    · rfl
  | appz e sz bytes zero sl x raw => simp only [pop]; rw [h sl (by simp [ROpA.opnds]), h x (by simp [ROpA.opnds]), hd rfl]
  | cap0 x => simp only [pop]; rw [h x (by simp [ROpA.opnds])]
  | clr e sz zero x =>
    have hx := hk rfl x (by first | (simp [ROpA.lookOpnds, ROpA.opnds]; done) | exact List.mem_cons_self | exact List.mem_cons_of_mem _ List.mem_cons_self)
    simp only [pop]; rw [h x (by simp [ROpA.opnds])]
    generalize ev x = p at hx
    split
    · rfl
    · rename_i k s off len; rw [hx k (by simp [PV.keys, PV.keysA, PV.key, PV.key0])]
    · rfl
  | aaddr m sz x i => simp only [pop]; rw [h x (by simp [ROpA.opnds]), h i (by simp [ROpA.opnds])]
  | aslc m x =>
    have hx := hk rfl x (by first | (simp [ROpA.lookOpnds, ROpA.opnds]; done) | exact List.mem_cons_self | exact List.mem_cons_of_mem _ List.mem_cons_self)
    simp only [pop]; rw [h x (by simp [ROpA.opnds])]
    generalize ev x = p at hx
    split
    · rename_i k s; rw [hx k (by simp [PV.keys, PV.keysA, PV.key, PV.key0])]
    · rfl
  | sh op x y => simp only [pop]; rw [h x (by simp [ROpA.opnds]), h y (by simp [ROpA.opnds])]
  | bits op x y => simp only [pop]; rw [h x (by simp [ROpA.opnds]), h y (by simp [ROpA.opnds])]
  | mkfun f caps =>
    have : caps.map ev' = caps.map ev := List.map_congr_left h
    simp only [pop]; rw [this]
  | mkmap => simp only [pop]; rw [hd rfl]
  | mput kd m k v =>
    have hx := hk rfl m (by first | (simp [ROpA.lookOpnds, ROpA.opnds]; done) | exact List.mem_cons_self | exact List.mem_cons_of_mem _ List.mem_cons_self)
    simp only [pop]; rw [h m (by simp [ROpA.opnds]), h k (by simp [ROpA.opnds]), h v (by simp [ROpA.opnds])]
    generalize ev m = p at hx
    split
    · rename_i r st x y hh1 hh2; rw [hx r (by simp [PV.keys, PV.keysA, PV.key, PV.key0])]
    · rfl
  | mget kd ok zero m k =>
    have hx := hk rfl m (by first | (simp [ROpA.lookOpnds, ROpA.opnds]; done) | exact List.mem_cons_self | exact List.mem_cons_of_mem _ List.mem_cons_self)
    simp only [pop]; rw [h m (by simp [ROpA.opnds]), h k (by simp [ROpA.opnds])]
    generalize ev m = p at hx
    split
    · rename_i r st x hh1; rw [hx r (by simp [PV.keys, PV.keysA, PV.key, PV.key0])]
    · rfl
  | call f args => rfl
  | hcall f args frz => rfl
  | bad => rfl
theorem handArg_congr {b : Bool} {p : PV} (h : ∀ k ∈ p.keys, ob' k = ob k) : handArg ob' b p = handArg ob b p := by
  cases b
  · rfl
  · simp only [handArg, if_true]; exact pureVal_congr h
theorem shareArg_congr {b : Bool} {p : PV} (h : ∀ k ∈ p.keys, ob' k = ob k) : shareArg ob' b p = shareArg ob b p := by
  cases b
  · rfl
  · simp only [shareArg, if_true]; exact shareVal_congr h
theorem prep_congr : ∀ {frz : List Bool} {xs : List Operand} (_ : ∀ x ∈ xs, ev' x = ev x) (_ : ∀ x ∈ xs, ∀ k ∈ (ev x).keys, ob' k = ob k), prep ev' ob' frz xs = prep ev ob frz xs
  | _, [], _, _ => by simp only [prep]
  | [], x :: xs, h, hk => by
    simp only [prep]
    rw [h x (by simp), handArg_congr (hk x (by simp)), shareArg_congr (hk x (by simp)), prep_congr (fun y hy => h y (by simp [hy])) (fun y hy => hk y (by simp [hy]))]
  | b :: bs, x :: xs, h, hk => by
    simp only [prep]
    rw [h x (by simp), handArg_congr (hk x (by simp)), shareArg_congr (hk x (by simp)), prep_congr (fun y hy => h y (by simp [hy])) (fun y hy => hk y (by simp [hy]))]
end
end Go.Hf
end

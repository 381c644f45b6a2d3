/- Pure frames, part K: append; bytes to a string. -/
import Derived.Test.YthiipifjdfmblaaGreatDoorPfJ
set_option linter.unusedVariables false
set_option linter.unusedSimpArgs false
namespace Go.Pf
open Go.RowKit

section
variable {P : Program} {n B : Nat} {O : Option Nat} {gl : Gl} {ph : Option (Nat × Value)} {g : Gh} {s : St} {a : Act} {w w' : World} {o : Oper} {K : Act → World → Prop} {Q : Exit → Act → World → Prop}

/-- An object's block is written beyond what is promised of it. -/
theorem FR.extend (h : FR gl ph n B O g s a w) (k : Nat) (x : Obj) (arr : Array Value) (hl : (s.objs k).live) (hE : Ext g.c w g.c (w.setRow (g.blk k) arr))
    (hS : ObStep g s.objs g (upd s.objs k x)) (hobj : ObjR g (w.setRow (g.blk k) arr) (upd s.objs k x) k x) :
    FR gl ph n B O g ⟨s.env, upd s.objs k x⟩ a (w.setRow (g.blk k) arr) ∧ PB B O g.c w g.c (w.setRow (g.blk k) arr) := by
  obtain ⟨a1, a2, a3, a4⟩ := setRow_alike w (g.blk k) arr
  have hother : ∀ b, b ≠ g.blk k → (w.setRow (g.blk k) arr).heap[b]? = w.heap[b]? := fun b hb => setRow_other w (g.blk k) b arr (fun e => hb (by simpa using e))
  refine ⟨h.pass (upd s.objs k x) (· = k) hE hS (fun k' hk' => upd_ne _ _ hk') (fun k' hkk hl' => ?_) (fun k' hkk hl' => ?_), ⟨a1, a2, a3, by omega, fun b hb hO => hother b ?_, fun _ _ _ => rfl⟩⟩
  · exact ⟨rfl, rfl, rfl, hother _ (fun e => hkk (h.inj k' k hl' hl e))⟩
  · subst hkk
    refine ⟨by rw [upd_same]; exact hobj, (h.fresh k' hl).1, by rw [a4]; exact (h.fresh k' hl).2, fun k2 hk2 hl2 => ?_⟩
    rw [upd_ne _ _ hk2] at hl2
    exact fun e => hk2 (h.inj k2 k' hl2 hl e)
  · intro e
    subst e
    rcases (h.fresh k hl).1 with h1 | h1
    · omega
    · exact hO h1

theorem ObStep.bump {ob : Nat → Obj} (g : Gh) (k : Nat) (x : Obj) (hx : x.stamp = (ob k).stamp + 1) : ObStep g ob g (upd ob k x) := by
  intro k'
  by_cases hk : k' = k
  · subst hk
    rw [upd_same]
    refine ⟨by omega, fun cs hc => ?_, fun e sz es raw hc => ?_⟩
    · rw [hc] at hx; simp [Obj.stamp] at hx
    · rw [hc] at hx; simp [Obj.stamp] at hx
  · rw [upd_ne _ _ hk]
    exact ⟨Nat.le_refl _, fun cs hc => ⟨⟨cs, hc⟩, rfl⟩, fun _ _ es raw hc => ⟨⟨es, raw, hc, Nat.le_refl _⟩, rfl, rfl⟩⟩

theorem ERel.append {R : PV → Value → Prop} {sz len : Nat} {es ys : List (List PV)} {xs news : List Value} {tl : List Value} (h1 : ∀ (i : Nat) (cs : List PV), es[i]? = some cs → cs.length = sz) (hl : len ≤ es.length) (hx : xs.length = len * sz)
    (h2 : ∀ (i j : Nat) (cs : List PV) (p : PV), i < len → es[i]? = some cs → cs[j]? = some p → ∃ u, xs[i * sz + j]? = some u ∧ p.isCell = true ∧ R p u)
    (h3 : ∀ (i : Nat) (cs : List PV), ys[i]? = some cs → cs.length = sz) 
    (h4 : ∀ (i j : Nat) (cs : List PV) (p : PV), ys[i]? = some cs → cs[j]? = some p → ∃ u, news[i * sz + j]? = some u ∧ p.isCell = true ∧ R p u) :
    ERel R sz (es.take len ++ ys) (xs ++ news ++ tl).toArray := by
  have hlen : (es.take len).length = len := by simp; omega
  refine ⟨fun i cs hi => ?_, fun i j cs p hi hj => ?_⟩
  · rw [List.getElem?_append] at hi
    split at hi
    · rw [List.getElem?_take] at hi
      split at hi
      · exact h1 i cs hi
      · cases hi
    · exact h3 _ cs hi
  · rw [List.getElem?_append] at hi
    rw [List.getElem?_toArray, List.append_assoc]
    split at hi
    · rename_i hil
      rw [hlen] at hil
      rw [List.getElem?_take, if_pos hil] at hi
      obtain ⟨u, q1, q2, q3⟩ := h2 i j cs p hil hi hj
      refine ⟨u, ?_, q2, q3⟩
      rw [List.getElem?_append_left ((List.getElem?_eq_some_iff.1 q1).1)]
      exact q1
    · rename_i hil
      rw [hlen] at hil hi
      obtain ⟨u, q1, q2, q3⟩ := h4 (i - len) j cs p hi hj
      refine ⟨u, ?_, q2, q3⟩
      have e1 : i * sz + j = len * sz + ((i - len) * sz + j) := by
        rw [← Nat.add_assoc, ← Nat.add_mul]; congr 2; omega
      rw [e1, List.getElem?_append_right (by omega), hx, Nat.add_sub_cancel_left, List.getElem?_append_left ((List.getElem?_eq_some_iff.1 q1).1)]
      exact q1

theorem VR.oneCell {c : Nat → Nat} {q : PV} {u : Value} (hc : q.isCell = true) (h : VR c w q u) : u.oneCell' = true :=
  KR.oneCell (g := ⟨c, fun _ => 0, fun _ => 0⟩) (ob := fun _ => .no 0) hc (.inl h)

/-- The elements that are appended, as they lie in memory. -/
theorem FR.news (h : FR gl ph n B O g s a w) {x : Operand} (hx : opndOk x = true) {sz : Nat} {ys : List (List PV)} (hys : elems s.objs sz (evalIn s.env x) = some ys) :
    (a.eval x = .slice none 0 0 ∧ ys = []) ∨ ∃ (ad : Addr) (cap : Nat) (news : List Value), a.eval x = .slice (some ad) ys.length cap ∧ news.length = ys.length * sz ∧
      (∀ (j : Nat) (u : Value), news[j]? = some u → w.cell? (ad.add j) = some u) ∧ (∀ u : Value, u ∈ news → u.oneCell' = true) ∧ (∀ (i : Nat) (cs : List PV), ys[i]? = some cs → cs.length = sz) ∧
      ∀ (i j : Nat) (cs : List PV) (q : PV), ys[i]? = some cs → cs[j]? = some q → ∃ u, news[i * sz + j]? = some u ∧ q.isCell = true ∧ VR g.c w q u := by
  rcases h.slice_elems (h.opnd hx) hys with h1 | ⟨b, o', cap, h1, h2, h3⟩
  · exact .inl h1
  · obtain ⟨news, q1, q2, q3⟩ := cells_list (R := VR g.c w) h2 h3
    refine .inr ⟨⟨b, o', none⟩, cap, news, h1, q1, fun j u hu => by rw [add_lit]; exact q2 j u hu, fun u hu => ?_, h2, q3⟩
    obtain ⟨k, hk⟩ := List.mem_iff_getElem?.1 hu
    have hlt : k < ys.length * sz := by have := (List.getElem?_eq_some_iff.1 hk).1; omega
    have hp : 0 < sz := by rcases Nat.eq_zero_or_pos sz with h0 | h0
                           · subst h0; simp at hlt
                           · exact h0
    have hi : k / sz < ys.length := by rw [Nat.div_lt_iff_lt_mul hp]; exact hlt
    have hj : k % sz < sz := Nat.mod_lt _ hp
    have hcs := List.getElem?_eq_getElem hi
    have hl := h2 _ _ hcs
    obtain ⟨u', a1, a2, a3⟩ := q3 (k / sz) (k % sz) _ _ hcs (List.getElem?_eq_getElem (by omega))
    have e1 : k / sz * sz + k % sz = k := by rw [Nat.mul_comm, Nat.div_add_mod]
    rw [e1, hk] at a1
    cases a1
    exact a3.oneCell a2

theorem zeroCells_size (z : Array Value) (m : Nat) : (Builtin.zeroCells z m).size = m * z.size := size_zeroCells z m

theorem sim_append {e sz bytes : Nat} {sl x : Operand} {raw : Bool} {p : PV} {us : List (Nat × Obj)} (h : FR gl ph n B O g s a w) (hd : ∀ t, o.dst = some t → t < n) (hr : Rs P o (.append e sz bytes sl x raw))
    (hp : pop (evalIn s.env) s.objs (o.dst.getD 0) (.append e sz bytes sl x raw) = some (p, us)) (hk : Owed gl ph n B O g w ⟨put s.env o.dst p, updAll s.objs us⟩ K) : o.wp P a w K Q := by
  obtain ⟨t, i, ho, hds, ht, hi, hby, ⟨z, hz, hzs⟩, hisz, hsz0, hsl, hx⟩ := hr
  have es1 := h.opnd hsl
  have key : ∀ (v : Value) (w1 : World), (Builtin.append_ #[t, t] o.type #[a.eval sl, a.eval x]).run P w = .ok v w1 → (execOp a.eval o).run P w = .ok (.value v) w1 := by
    intro v w1 hv
    simp only [execOp, ho, resolve, invoke, builtin, Sem.run_bind, Sem.run_pure, Result.andThen_ok, List.map_toArray, List.map_cons, List.map_nil, hv]
  have hgr : ∀ (need old : Nat), need ≤ 1099511627776 → need ≤ grownCap w need old e ∧ grownCap w need old e ≤ maxLen := fun need old hn =>
    ⟨grownCap_ge w need old e, grownCap_le_maxLen w need old e (by simp only [maxLen]; omega)⟩
  simp only [pop] at hp
  split at hp
  · rename_i ys hsn hys
    rw [hsn] at es1
    have e1 := es1.sc_inv.1
    split at hp
    · rename_i hcond
      obtain ⟨hb1, hb2⟩ := hcond
      split at hp
      · rename_i h0
        cases hp
        have hys0 : ys = [] := List.eq_nil_of_length_eq_zero h0
        subst hys0
        refine sim_val h hd (v := .slice none 0 0) (key _ _ ?_) (.sc rfl) hk
        rcases h.news hx hys with ⟨h1, _⟩ | ⟨ad, cap, news, h1, _⟩
        · rw [e1, h1]
          simp [Builtin.append_, run_underlying ht, sizeOf, typeInfo, hi, Builtin.lenOf, Builtin.firstCells]
        · rw [e1, h1]
          simp [Builtin.append_, run_underlying ht, sizeOf, typeInfo, hi, Builtin.lenOf, Builtin.firstCells, loadCells, loadCellsFrom]
      · rename_i h0
        cases hp
        rcases h.news hx hys with ⟨_, h1⟩ | ⟨ad, cap, news, h1, h2, h3, h4, h5, h6⟩
        · subst h1; simp at h0
        · have hrun := run_append_nil (P := P) w t o.type e i z ht hi hz ad ys.length cap news (by rw [hisz]; exact h2) h3 (by omega) (by omega) (by rw [hby]; omega)
          obtain ⟨g1, g2⟩ := hgr ys.length 0 hb2
          rw [← e1, ← h1] at hrun
          refine sim_newBld h hd (o.dst.getD 0) (grownCap w ys.length 0 e) e sz ys raw _ (key _ _ hrun) rfl rfl rfl rfl ?_ g1 g2 ?_ (by simpa [updAll] using hk)
          · rw [Array.size_append, zeroCells_size, List.size_toArray, h2, hzs, ← Nat.add_mul]; congr 1; omega
          · have := ERel.append (R := VR g.c w) (sz := sz) (len := 0) (es := []) (ys := ys) (xs := []) (news := news) (tl := (Builtin.zeroCells z.cells (grownCap w ys.length 0 e - ys.length)).toList) (by simp) (by simp) (by simp) (by simp) h5 h6
            have e : (news.toArray ++ Builtin.zeroCells z.cells (grownCap w ys.length 0 e - ys.length)) = (([] : List Value) ++ news ++ (Builtin.zeroCells z.cells (grownCap w ys.length 0 e - ys.length)).toList).toArray := by apply Array.ext'; simp
            rw [e]
            exact this
    · simp at hp
  · rename_i k st len ys hsn hys
    rw [hsn] at es1
    obtain ⟨hst, b, o', cap, e1, hlc, hcm, e4⟩ := es1.ref_inv (by simp [PV.key])
    split at hp
    · rename_i st' e' sz' es r hob
      split at hp
      · rename_i hcond
        obtain ⟨rfl, rfl, rfl, hlen, hb1, hb2⟩ := hcond
        cases hp
        obtain ⟨f1, f2, f3, f4⟩ := e4 _ _ _ _ hob
        have ho' : o' = 0 := by rw [f3 (.inr rfl)]; simp
        have hcap : cap = g.cap k := f4 rfl
        subst f2
        subst ho'
        subst hcap
        have hO := h.obj k
        rw [hob] at hO
        obtain ⟨arr, r1, r2, r3, r4, r5, r6, r7, r8⟩ := hO
        have hlive : (s.objs k).live := by rw [hob]; trivial
        have hle : len ≤ es.length := by rcases hlen with hl | ⟨_, hl⟩ <;> omega
        have hstamp : (s.objs k).stamp = st := by rw [hob]; rfl
        let xs : List Value := arr.toList.take (len * sz')
        have hlsz : len * sz' ≤ arr.size := by rw [r2]; exact Nat.mul_le_mul_right _ hlc
        have hxs : xs.length = len * sz' := by simp [xs]; omega
        have hxsget : ∀ (i' j : Nat) (cs : List PV) (q : PV), i' < len → es[i']? = some cs → cs[j]? = some q → ∃ u, xs[i' * sz' + j]? = some u ∧ q.isCell = true ∧ VR g.c w q u := by
          intro i' j cs q hil hi' hj
          obtain ⟨u, q1, q2, q3⟩ := r6 i' j cs q hi' hj
          refine ⟨u, ?_, q2, q3⟩
          have hjl : j < sz' := by have := (List.getElem?_eq_some_iff.1 hj).1; have := r5 i' cs hi'; omega
          have := Nat.mul_le_mul_right sz' (show i' + 1 ≤ len from hil)
          rw [Nat.add_mul, Nat.one_mul] at this
          simp only [xs]
          rw [List.getElem?_take, if_pos (by omega)]
          simpa using q1
        have hcle : g.c (g.blk k) ≤ len * sz' := by
          rcases hlen with hl | ⟨hr', _⟩
          · rw [hl]; exact r8
          · rw [r7 hr']; omega
        have inplace : ∀ (news : List Value), news.length = ys.length * sz' → len + ys.length ≤ g.cap k → (∀ (i : Nat) (cs : List PV), ys[i]? = some cs → cs.length = sz') →
            (∀ (i j : Nat) (cs : List PV) (q : PV), ys[i]? = some cs → cs[j]? = some q → ∃ u, news[i * sz' + j]? = some u ∧ q.isCell = true ∧ VR g.c w q u) →
            (execOp a.eval o).run P w = .ok (.value (.slice (some ⟨g.blk k, 0, none⟩) (len + ys.length) (g.cap k))) (w.setRow (g.blk k) (arr.toList.take (len * sz') ++ news ++ arr.toList.drop (len * sz' + news.length)).toArray) → o.wp P a w K Q := by
          intro news h2 hroom h5 h6 hrun
          have hE : Ext g.c w g.c (w.setRow (g.blk k) (arr.toList.take (len * sz') ++ news ++ arr.toList.drop (len * sz' + news.length)).toArray) := by
            obtain ⟨a1, a2, a3, a4⟩ := setRow_alike w (g.blk k) (arr.toList.take (len * sz') ++ news ++ arr.toList.drop (len * sz' + news.length)).toArray
            refine ⟨by omega, fun _ _ => Nat.le_refl _, fun b' i' hb hi' => ?_⟩
            by_cases hbk : b' = g.blk k
            · subst hbk
              rw [cell_of_heap (setRow_heap w (g.blk k) arr _ e' (0, 0) r1), cell_of_heap r1, List.getElem?_toArray, List.append_assoc, List.getElem?_append_left (by simp; omega), List.getElem?_take, if_pos (by omega)]
              simp
            · simp only [World.cell?, setRow_other w (g.blk k) b' _ (fun e => hbk (by simpa using e))]
          have hS := ObStep.bump (ob := s.objs) g k (.bld (st + 1) e' sz' (es.take len ++ ys) r) (by rw [hstamp]; rfl)
          have hfit : len * sz' + ys.length * sz' ≤ arr.size := by rw [r2, ← Nat.add_mul]; exact Nat.mul_le_mul_right _ hroom
          have hER := ERel.append (R := VR g.c w) (tl := arr.toList.drop (len * sz' + news.length)) r5 hle hxs hxsget h5 h6
          have hW := h.extend k (.bld (st + 1) e' sz' (es.take len ++ ys) r) _ hlive hE hS (by
            refine ⟨_, setRow_heap w (g.blk k) arr _ e' (0, 0) r1, ?_, ?_, r4, hER.1, fun i' j cs q hi' hj => ?_, r7, ?_⟩
            · simp; rw [h2]; omega
            · simp; omega
            · obtain ⟨u, q1, q2, q3⟩ := hER.2 i' j cs q hi' hj
              exact ⟨u, q1, q2, q3.mono hE⟩
            · have : (es.take len ++ ys).length = len + ys.length := by simp; omega
              rw [this, Nat.add_mul]; omega)
          refine wp_value hrun (hk g _ _ (hW.1.put o.dst hd (.inr (.inl (.inr ⟨by simp [upd, Obj.stamp], _, _, _, rfl, hroom, hcm, fun e'' sz'' es'' raw'' hob' => ?_⟩)))) hW.2)
          have hob2 : upd s.objs k (.bld (st + 1) e' sz' (es.take len ++ ys) r) k = .bld (st + 1) e'' sz'' es'' raw'' := hob'
          rw [upd_same] at hob2
          cases hob2
          refine ⟨by simp; omega, rfl, by simp, fun _ => rfl⟩
        rcases h.news hx hys with ⟨h1, h0⟩ | ⟨ad, c, news, h1, h2, h3, h4, h5, h6⟩
        · subst h0
          refine inplace [] (by simp) (by simpa using hlc) (by simp) (by simp) (key _ _ ?_)
          rw [e1, h1]
          simp [Builtin.append_, run_underlying ht, sizeOf, typeInfo, hi, Builtin.lenOf, Builtin.firstCells, hlc, storeCells]
          rw [setRow_self w (g.blk k) arr e' (0, 0) r1]
        · by_cases hroom : len + ys.length ≤ g.cap k
          · have hrun := run_append_room (P := P) w t o.type e' i ht hi (g.blk k) len (g.cap k) arr r1 ad ys.length c news (by rw [hisz]; exact h2) h3 h4 hroom (by rw [hisz, h2, r2, ← Nat.add_mul]; exact Nat.mul_le_mul_right _ hroom)
            rw [hisz, ← e1, ← h1] at hrun
            exact inplace news h2 hroom h5 h6 (key _ _ hrun)
          · have hrun := run_append_grow (P := P) w t o.type e' i z ht hi hz ⟨g.blk k, 0, none⟩ len (g.cap k) xs (by rw [hisz]; exact hxs)
              (fun j v hv => by
                rw [add_lit, Nat.zero_add, cell_of_heap r1]
                simp only [xs] at hv
                rw [List.getElem?_take] at hv
                split at hv
                · simpa using hv
                · cases hv) ad ys.length c news (by rw [hisz]; exact h2) h3 (by omega) (by omega) (growslice_fits (by omega) (by rw [hby]; omega))
            rw [← e1, ← h1] at hrun
            obtain ⟨g1, g2⟩ := hgr (len + ys.length) (g.cap k) hb2
            have hl2 : (es.take len ++ ys).length = len + ys.length := by simp; omega
            have hk2 : Owed gl ph n B O g w ⟨put s.env o.dst (.bld k ((s.objs k).stamp + 1) 0 (es.take len ++ ys).length), upd s.objs k (.bld ((s.objs k).stamp + 1) e' sz' (es.take len ++ ys) r)⟩ K := by
              rw [hstamp, hl2]; simpa [updAll] using hk
            refine sim_newBld (w' := w.drew.alloc (.cells (xs.toArray ++ news.toArray ++ Builtin.zeroCells z.cells (grownCap w (len + ys.length) (g.cap k) e' - (len + ys.length))) e')) h hd k (grownCap w (len + ys.length) (g.cap k) e') e' sz' (es.take len ++ ys) r _ (by rw [hl2]; exact key _ _ hrun) rfl rfl rfl rfl ?_ (by omega) g2 ?_ hk2
            · rw [Array.size_append, Array.size_append, zeroCells_size, List.size_toArray, List.size_toArray, hxs, h2, hzs, ← Nat.add_mul, ← Nat.add_mul]; congr 1; omega
            · have := ERel.append (R := VR g.c w) (tl := (Builtin.zeroCells z.cells (grownCap w (len + ys.length) (g.cap k) e' - (len + ys.length))).toList) r5 hle hxs hxsget h5 h6
              have e : (xs.toArray ++ news.toArray ++ Builtin.zeroCells z.cells (grownCap w (len + ys.length) (g.cap k) e' - (len + ys.length))) = (xs ++ news ++ (Builtin.zeroCells z.cells (grownCap w (len + ys.length) (g.cap k) e' - (len + ys.length))).toList).toArray := by apply Array.ext'; simp
              rw [e]
              exact this
      · simp at hp
    · simp at hp
  · simp at hp
end
end Go.Pf

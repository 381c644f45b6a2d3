/- Pure frames, part F: the operations that read memory, or compute with addresses, do what the pure ones say. -/
import Derived.Test.YtlefgpakmgbgaaaGreatDoorEb
import Derived.WalkSpells
set_option linter.unusedVariables false
set_option linter.unusedSimpArgs false
set_option linter.unusedSectionVars false
section
namespace Go.Hf
open Go.RowKit
section
variable {P : Program} {n B bs : Nat} {O : Nat → Prop} {gl : Gl} {ph : Gh × (Nat → Obj) × World × List Deferred} {g : Gh} {s : St} {a : Act} {w : World} {o : Oper} {K : Act → World → Prop} {Q : Exit → Act → World → Prop}
theorem cell_of_heap {b j T : Nat} {arr : Array Value} (h : w.heap[b]? = some (.cells arr T (0, 0))) : w.cell? ⟨b, j, none⟩ = arr[j]? := by
  simp [World.cell?, h]
theorem XR.of_cells {t : TypeId} {agg : Bool} {m : Nat} (ht : TyOk P t agg m) {b o' off : Nat} {cs : List PV} {p : PV} (hp : takeAgg agg m cs off = some p)
    (hc : ∀ (j : Nat) (q : PV), cs[j]? = some q → ∃ u, w.cell? ⟨b, o' + j, none⟩ = some u ∧ q.isCell = true ∧ KR g w s.objs q u) :
    ∃ v, (loadVar t ⟨b, o' + off, none⟩).run P w = .ok v w ∧ XR g w s.objs p v := by
  cases agg with
  | true =>
    simp only [takeAgg, if_true] at hp
    split at hp
    · rename_i hle
      cases hp
      have hex : ∀ j, j < m → ∃ u, w.cell? ⟨b, o' + off + j, none⟩ = some u ∧ ∀ q, cs[off + j]? = some q → q.isCell = true ∧ KR g w s.objs q u := by
        intro j hj
        have hlt : off + j < cs.length := by omega
        obtain ⟨u, h1, h2, h3⟩ := hc (off + j) cs[off + j] (List.getElem?_eq_getElem hlt)
        refine ⟨u, by rw [Nat.add_assoc]; exact h1, fun q hq => ?_⟩
        rw [List.getElem?_eq_getElem hlt] at hq
        cases hq
        exact ⟨h2, h3⟩
      let f : Nat → Value := fun j => if hj : j < m then (hex j hj).choose else undef
      have hf : ∀ j (hj : j < m), w.cell? ⟨b, o' + off + j, none⟩ = some (f j) ∧ ∀ q, cs[off + j]? = some q → q.isCell = true ∧ KR g w s.objs q (f j) := by
        intro j hj
        have : f j = (hex j hj).choose := by simp [f, hj]
        rw [this]
        exact (hex j hj).choose_spec
      refine ⟨.agg ((List.range m).map f).toArray, ?_, ?_⟩
      · refine run_loadVar_agg ht b (o' + off) _ (by simp) (fun j v hv => ?_)
        simp only [List.getElem?_map, Option.map_eq_some_iff] at hv
        obtain ⟨j', hj', rfl⟩ := hv
        have hlt : j < m := by
          rcases Nat.lt_or_ge j m with h | h
          · exact h
          · rw [List.getElem?_eq_none (by simpa using h)] at hj'; cases hj'
        have : j' = j := by simp [List.getElem?_range hlt] at hj'; exact hj'.symm
        subst this
        exact (hf j' hlt).1
      · refine .inr (.inr (.inl ⟨_, _, rfl, rfl, by simp; omega, fun j q u hq hu => ?_⟩))
        have hlt : j < m := by
          rcases Nat.lt_or_ge j m with h | h
          · exact h
          · rw [List.getElem?_eq_none (by simp; omega)] at hq; cases hq
        rw [List.getElem?_take, if_pos hlt, List.getElem?_drop] at hq
        simp only [List.getElem?_map, List.getElem?_range hlt, Option.map_some, Option.some.injEq] at hu
        subst hu
        exact (hf j hlt).2 q hq
    · simp at hp
  | false =>
    simp only [takeAgg, Bool.false_eq_true, if_false] at hp
    obtain ⟨u, h1, h2, h3⟩ := hc off p hp
    exact ⟨u, run_loadVar_one ht _ u h1, .inr (.inl h3)⟩
theorem sim_load {agg : Bool} {m : Nat} {x : Operand} {p : PV} {us : List (Nat × Obj)} (h : FR gl ph n B O g s a w) (hd : ∀ t, o.dst = some t → t < n) (hr : Rs P o (.load agg m x))
    (hp : pop (evalIn s.env) s.objs (bs + o.dst.getD 0) (.load agg m x) = some (p, us)) (hk : Owed gl ph n B O g w ⟨put s.env o.dst p, updAll s.objs us⟩ K) : o.wp P a w K Q := by
  obtain ⟨t, ho, ht, hx⟩ := hr
  have ex := h.opnd hx
  have key : ∀ (b o' : Nat) (v : Value), a.eval x = .pointer (some ⟨b, o', none⟩) → (loadVar t ⟨b, o', none⟩).run P w = .ok v w → (execOp a.eval o).run P w = .ok (.value v) w := by
    intro b o' v e1 e2
    simp only [execOp, ho, Instr.loadAt, e1, Instr.sureAddr, Sem.run_bind, Sem.run_pure, Result.andThen_ok, e2]
  simp only [pop] at hp
  split at hp
  · rename_i k st off hu
    rw [hu] at ex
    obtain ⟨_, ad, e1, e2⟩ := ex.ref_inv (by simp [PV.key, PV.key0])
    split at hp
    · rename_i s' cs hob
      split at hp
      · rename_i hs
        subst hs
        simp only [Option.map_eq_some_iff, Prod.mk.injEq] at hp
        obtain ⟨p', hp, rfl, rfl⟩ := hp
        have hO := h.obj k
        rw [hob] at hO
        obtain ⟨arr, T, r1, r2, r3, r4⟩ := hO
        have e3 := e2 cs hob
        obtain ⟨v, hv1, hv2⟩ := XR.of_cells (s := s) (g := g) (w := w) (b := g.blk k) (o' := 0) ht hp (fun j q hq => by
          obtain ⟨u, hu1, hu2, hu3⟩ := r4 j q hq
          exact ⟨u, by rw [Nat.zero_add, cell_of_heap r1]; exact hu1, hu2, hu3⟩)
        rw [Nat.zero_add] at hv1
        exact sim_val h hd (key _ _ v (by rw [e1, e3]) hv1) hv2 hk
      · simp at hp
    · simp at hp
  · rename_i k st i off hu
    rw [hu] at ex
    obtain ⟨_, ad, e1, e2⟩ := ex.ref_inv (by simp [PV.key, PV.key0])
    split at hp
    · rename_i s' e sz es raw hob
      split at hp
      · rename_i hs
        subst hs
        cases hcs : es[i]? with
        | none => simp [hcs] at hp
        | some cs =>
          simp only [hcs, Option.bind_some, Option.map_eq_some_iff, Prod.mk.injEq] at hp
          obtain ⟨p', hp, rfl, rfl⟩ := hp
          have hO := h.obj k
          rw [hob] at hO
          obtain ⟨arr, r1, r2, r3, r4, r5, r6, r7, r8⟩ := hO
          have e3 := e2 e sz es raw hob
          obtain ⟨v, hv1, hv2⟩ := XR.of_cells (s := s) (g := g) (w := w) (b := g.blk k) (o' := i * sz) ht hp (fun j q hq => by
            obtain ⟨u, hu1, hu2, hu3⟩ := r6 i j cs q hcs hq
            exact ⟨u, by rw [cell_of_heap r1]; exact hu1, hu2, .inl hu3⟩)
          exact sim_val h hd (key _ _ v (by rw [e1, e3]) hv1) hv2 hk
      · simp at hp
    · simp at hp
  · rename_i cs off hu
    rw [hu] at ex
    simp only [Option.map_eq_some_iff, Prod.mk.injEq] at hp
    obtain ⟨p', hp, rfl, rfl⟩ := hp
    have e := ex.eptr_inv
    cases he : a.eval x with
    | pointer q =>
      rw [he] at e
      cases e with
      | eptr vals hb hc hcell hci hv =>
        rename_i b o'
        obtain ⟨v, hv1, hv2⟩ := XR.of_cells (s := s) (g := g) (w := w) (b := b) (o' := o') ht hp (fun j q hq => ⟨vals j, hcell j q hq, hci j q hq, .inl (hv j q hq)⟩)
        exact sim_val h hd (key _ _ v he hv1) hv2 hk
    | _ => rw [he] at e; cases e
  · simp at hp
theorem sim_faddr {off' : Nat} {x : Operand} {p : PV} {us : List (Nat × Obj)} (h : FR gl ph n B O g s a w) (hd : ∀ t, o.dst = some t → t < n) (hr : Rs P o (.faddr off' x))
    (hp : pop (evalIn s.env) s.objs (bs + o.dst.getD 0) (.faddr off' x) = some (p, us)) (hk : Owed gl ph n B O g w ⟨put s.env o.dst p, updAll s.objs us⟩ K) : o.wp P a w K Q := by
  obtain ⟨t, fs, kf, f, i, ho, ht, hf, hoff, hi, hne, hx⟩ := hr
  have ex := h.opnd hx
  have key : ∀ ad : Addr, a.eval x = .pointer (some ad) → (execOp a.eval o).run P w = .ok (.value (.pointer (some (ad.add off')))) w := by
    intro ad e1
    simp only [execOp, ho, Instr.fieldAt, Sem.run_bind, run_underlying ht, Result.andThen_ok, hf, e1, Instr.sureAddr, Sem.run_pure, fieldPlace, run_sizeOf hi, hne, if_false, hoff]
  simp only [pop] at hp
  split at hp
  · rename_i k st off hu
    rw [hu] at ex
    cases hp
    obtain ⟨e0, ad, e1, e2⟩ := ex.ref_inv (by simp [PV.key, PV.key0])
    refine sim_val (p := .bptr k st (off + off')) h hd (key ad e1) (.inr (.inl (.inr ⟨e0, _, rfl, fun cs hcs => ?_⟩))) hk
    rw [e2 cs hcs, add_lit]
  · rename_i k st i' off hu
    rw [hu] at ex
    cases hp
    obtain ⟨e0, ad, e1, e2⟩ := ex.ref_inv (by simp [PV.key, PV.key0])
    refine sim_val (p := .kptr k st i' (off + off')) h hd (key ad e1) (.inr (.inl (.inr ⟨e0, _, rfl, fun e sz es raw hcs => ?_⟩))) hk
    rw [e2 e sz es raw hcs, add_lit, Nat.add_assoc]
  · rename_i cs off hu
    rw [hu] at ex
    cases hp
    have e := ex.eptr_inv
    cases he : a.eval x with
    | pointer q =>
      rw [he] at e
      cases e with
      | eptr vals hb hc hcell hci hv =>
        refine sim_val h hd (key _ he) (.inr (.inl (.inl ?_))) hk
        rw [add_lit, Nat.add_assoc]
        exact .eptr vals hb hc hcell hci hv
    | _ => rw [he] at e; cases e
  · simp at hp
theorem sim_fld {agg : Bool} {off m : Nat} {x : Operand} {p : PV} {us : List (Nat × Obj)} (h : FR gl ph n B O g s a w) (hd : ∀ t, o.dst = some t → t < n) (hr : Rs P o (.fld agg off m x))
    (hp : pop (evalIn s.env) s.objs (bs + o.dst.getD 0) (.fld agg off m x) = some (p, us)) (hk : Owed gl ph n B O g w ⟨put s.env o.dst p, updAll s.objs us⟩ K) : o.wp P a w K Q := by
  obtain ⟨t, fs, kf, f, ho, ht, hf, hoff, hty, hx⟩ := hr
  have ex := h.opnd hx
  simp only [pop] at hp
  split at hp
  · rename_i cs hu
    rw [hu] at ex
    simp only [Option.map_eq_some_iff, Prod.mk.injEq] at hp
    obtain ⟨p', hp, rfl, rfl⟩ := hp
    obtain ⟨vs, e1, e2, e3⟩ := ex.agg_inv
    obtain ⟨inf, d, hi, hs, hu', hd', _⟩ := hty
    cases agg with
    | true =>
      simp only [takeAgg, if_true] at hp
      split at hp
      · rename_i hle
        cases hp
        refine sim_val h hd (v := .agg ((vs.drop off).take m).toArray) ?_ (.inr (.inr (.inl ⟨_, _, rfl, rfl, by simp; omega, fun j q u hq hu => ?_⟩))) hk
        · simp only [execOp, ho, Instr.field, Sem.run_bind, run_underlying ht, Result.andThen_ok, hf, e1, asAgg, Sem.run_pure, part, run_isAgg hu', hd', if_true, run_sizeOf hi, hs, hoff]
          simp [List.extract_eq_take_drop]
        · rw [List.getElem?_take] at hq hu
          split at hq
          · rename_i hj
            rw [if_pos hj] at hu
            rw [List.getElem?_drop] at hq hu
            exact e3 _ q u hq hu
          · cases hq
      · simp at hp
    | false =>
      simp only [takeAgg, Bool.false_eq_true, if_false] at hp
      have hlt : off < vs.length := by have := (List.getElem?_eq_some_iff.1 hp).1; omega
      have hv : vs[off]? = some vs[off] := List.getElem?_eq_getElem hlt
      refine sim_val h hd (v := vs[off]) ?_ (.inr (.inl (e3 off p' _ hp hv).2)) hk
      simp only [execOp, ho, Instr.field, Sem.run_bind, run_underlying ht, Result.andThen_ok, hf, e1, asAgg, Sem.run_pure, part, run_isAgg hu', hd', Bool.false_eq_true, if_false, hoff]
      simp [hlt]
  · simp at hp
theorem sim_sidx {x i : Operand} {p : PV} {us : List (Nat × Obj)} (h : FR gl ph n B O g s a w) (hd : ∀ t, o.dst = some t → t < n) (hr : Rs P o (.sidx x i))
    (hp : pop (evalIn s.env) s.objs (bs + o.dst.getD 0) (.sidx x i) = some (p, us)) (hk : Owed gl ph n B O g w ⟨put s.env o.dst p, updAll s.objs us⟩ K) : o.wp P a w K Q := by
  obtain ⟨t, ho, ht, hx, hi⟩ := hr
  have ex := h.opnd hx
  have ei := h.opnd hi
  simp only [pop] at hp
  split at hp
  · rename_i str k m hu hv
    rw [hu] at ex
    rw [hv] at ei
    split at hp
    · rename_i hm
      simp only [Option.map_eq_some_iff, Prod.mk.injEq] at hp
      obtain ⟨b, hb, rfl, rfl⟩ := hp
      have hlt : m.toNat < str.size := by
        have := (List.getElem?_eq_some_iff.1 hb).1
        simpa using this
      have hbb : str[m.toNat] = b := by
        have := (List.getElem?_eq_some_iff.1 hb).2
        simp at this
        exact this
      refine sim_val h hd (v := .int .u8 b.toNat) ?_ (.sc rfl) hk
      have hr := run_index_string (P := P) w t str k m ht
      rw [dif_pos ⟨hm, by omega⟩, hbb] at hr
      simp only [execOp, ho, ex.sc_inv.1, ei.sc_inv.1, Sem.run_bind, hr, Result.andThen_ok, Sem.run_pure]
    · simp at hp
  · simp at hp
theorem sim_iaddr {sz : Nat} {x i : Operand} {p : PV} {us : List (Nat × Obj)} (h : FR gl ph n B O g s a w) (hd : ∀ t, o.dst = some t → t < n) (hr : Rs P o (.iaddr sz x i))
    (hp : pop (evalIn s.env) s.objs (bs + o.dst.getD 0) (.iaddr sz x i) = some (p, us)) (hk : Owed gl ph n B O g w ⟨put s.env o.dst p, updAll s.objs us⟩ K) : o.wp P a w K Q := by
  obtain ⟨t, e, inf, ho, ht, hinf, hsz, hx, hi⟩ := hr
  have ex := h.opnd hx
  have ei := h.opnd hi
  have key : ∀ (k : IntKind) (m : Int) (ad : Addr) (len cap : Nat), a.eval i = .int k m → a.eval x = .slice (some ad) len cap → 0 ≤ m → m < len →
      (execOp a.eval o).run P w = .ok (.value (.pointer (some (ad.add (m.toNat * sz))))) w := by
    intro k m ad len cap e1 e2 h0 h1
    simp [execOp, ho, Instr.indexAt, e1, asIntOf, run_underlying ht, e2, h0, h1, run_sizeOf hinf, hsz]
  simp only [pop] at hp
  split at hp
  · rename_i sz' es k m hu hv
    rw [hu] at ex
    rw [hv] at ei
    split at hp
    · rename_i hm
      obtain ⟨hss, hm⟩ := hm
      subst hss
      simp only [Option.map_eq_some_iff, Prod.mk.injEq] at hp
      obtain ⟨cs, hcs, rfl, rfl⟩ := hp
      have e1 := ex.lst_inv
      have hlt : m.toNat < es.length := (List.getElem?_eq_some_iff.1 hcs).1
      cases he : a.eval x with
      | slice q l c =>
        rw [he] at e1
        cases e1 with
        | lst vals hcap hm' hb hc hsz' hcell hci hv' =>
          rename_i b o'
          refine sim_val h hd (key k m _ _ _ ei.sc_inv.1 he hm (by omega)) (.inr (.inl (.inl ?_))) hk
          rw [add_lit]
          have hl := hsz' _ _ hcs
          have h3 : (m.toNat + 1) * sz' ≤ es.length * sz' := Nat.mul_le_mul_right sz' hlt
          rw [Nat.add_mul, Nat.one_mul] at h3
          have h4 := hc (by omega)
          refine VR.eptr (o := o' + m.toNat * sz') (off := 0) (vals m.toNat) hb (by omega) (fun j p hj => ?_) (fun j p hj => hci _ _ _ _ hcs hj) (fun j p hj => hv' _ _ _ _ hcs hj)
          rw [Nat.add_assoc]
          exact hcell _ _ _ _ hcs hj
      | _ => rw [he] at e1; cases e1
    · simp at hp
  · rename_i k st off len kk m hu hv
    rw [hu] at ex
    rw [hv] at ei
    split at hp
    · rename_i s' e' sz' es raw hob
      split at hp
      · rename_i hc
        obtain ⟨hs, hss, h0, h1⟩ := hc
        subst hs
        subst hss
        cases hp
        obtain ⟨e0, b, o', cap, e1, e2, e3, e4⟩ := ex.ref_inv (by simp [PV.key, PV.key0])
        obtain ⟨f1, f2, f3, f4⟩ := e4 _ _ _ _ hob
        refine sim_val (p := .kptr k st (off + m.toNat) 0) h hd (key kk m _ _ _ ei.sc_inv.1 e1 h0 h1) (.inr (.inl (.inr ⟨e0, _, rfl, fun e'' sz'' es'' raw'' hob' => ?_⟩))) hk
        rw [hob] at hob'
        cases hob'
        rw [add_lit, f2, f3 (.inl (by omega)), Nat.add_zero, Nat.add_mul]
      · simp at hp
    · simp at hp
  · simp at hp
theorem sim_isnil {neg : Bool} {x : Operand} {p : PV} {us : List (Nat × Obj)} (h : FR gl ph n B O g s a w) (hd : ∀ t, o.dst = some t → t < n) (hr : Rs P o (.isnil neg x))
    (hp : pop (evalIn s.env) s.objs (bs + o.dst.getD 0) (.isnil neg x) = some (p, us)) (hk : Owed gl ph n B O g w ⟨put s.env o.dst p, updAll s.objs us⟩ K) : o.wp P a w K Q := by
  obtain ⟨t, yt, e, ho, ht, hx⟩ := hr
  have ex := h.opnd hx
  have key : ∀ (q : Option Addr) (l c : Nat), a.eval x = .slice q l c → (execOp a.eval o).run P w = .ok (.value (.bool (xor neg q.isNone))) w := by
    intro q l c e1
    have e2 : a.eval (.const (.slice none 0 0)) = .slice none 0 0 := rfl
    cases neg
    · simp only [eqOp, Bool.false_eq_true, if_false] at ho
      have h1 := Lib.run_eql_slice_nil (P := P) w t e q l c 0 0 ht
      simp only [execOp, ho, e1, e2, eqGuard, Sem.run_bind, Sem.run_pure]
      simp
      rw [h1]; simp
    · simp only [eqOp, if_true] at ho
      have h1 := run_neq_slice_nil_any (P := P) w t e q l c 0 0 ht
      simp only [execOp, ho, e1, e2, eqGuard, Sem.run_bind, Sem.run_pure]
      simp
      rw [h1]; simp
  simp only [pop] at hp
  split at hp
  · rename_i hu
    rw [hu] at ex
    cases hp
    have := key _ _ _ ex.sc_inv.1
    refine sim_val h hd (v := .bool !neg) (by rw [this]; cases neg <;> rfl) (.sc rfl) hk
  · rename_i sz es hu
    rw [hu] at ex
    cases hp
    have e1 := ex.lst_inv
    cases he : a.eval x with
    | slice q l c =>
      rw [he] at e1
      cases e1
      have := key _ _ _ he
      refine sim_val h hd (v := .bool neg) (by rw [this]; cases neg <;> rfl) (.sc rfl) hk
    | _ => rw [he] at e1; cases e1
  · rename_i hu
    rw [hu] at ex
    cases hp
    obtain ⟨_, b, o', cap, e1, _⟩ := ex.ref_inv (by simp [PV.key, PV.key0])
    have := key _ _ _ e1
    refine sim_val h hd (v := .bool neg) (by rw [this]; cases neg <;> rfl) (.sc rfl) hk
  · simp at hp
end
end Go.Hf
end
section
namespace Go.Hf
open Go.RowKit
section
variable {P : Program} {n B bs : Nat} {O : Nat → Prop} {gl : Gl} {ph : Gh × (Nat → Obj) × World × List Deferred} {g : Gh} {s : St} {a : Act} {w : World} {o : Oper} {K : Act → World → Prop} {Q : Exit → Act → World → Prop}
theorem run_eqNames {t : TypeId} {f1 f2 : Field} (ht : P.underlying t = some (.struct #[f1, f2])) (n1 : f1.name ≠ "_") (n2 : f2.name ≠ "_") (o1 : f1.offset = 0) (o2 : f2.offset = 1)
    (u1 : P.underlying f1.type = some .string) (u2 : P.underlying f2.type = some .string) (hp : P.stoodInHeld t = false) (x1 x2 y1 y2 : ByteArray) :
    (Op.equalIn 10000 t (.agg #[.string x1, .string x2]) (.agg #[.string y1, .string y2])).run P w = .ok (x1.toList == y1.toList && x2.toList == y2.toList) w := by
  have hf : P.fieldsOf t = #[f1, f2] := by simp [Program.fieldsOf, ht]
  rw [run_equalIn_struct (P := P) w 9999 t _ _ (by rw [hf]; exact ht) hp, hf]
  have a1 : (Op.equalIn 9999 f1.type (.string x1) (.string y1)).run P w = .ok (x1.toList == y1.toList) w := run_equalIn_string (P := P) w 9998 f1.type x1 y1 u1
  have a2 : (Op.equalIn 9999 f2.type (.string x2) (.string y2)).run P w = .ok (x2.toList == y2.toList) w := run_equalIn_string (P := P) w 9998 f2.type x2 y2 u2
  have p1 : ∀ v1 v2 : Value, (part f1.type #[v1, v2] f1.offset).run P w = .ok v1 w := by intro v1 v2; simp [part, run_isAgg u1, aggD, o1]
  have p2 : ∀ v1 v2 : Value, (part f2.type #[v1, v2] f2.offset).run P w = .ok v2 w := by intro v1 v2; simp [part, run_isAgg u2, aggD, o2]
  simp only [Op.eqFields, ne_eq, n1, n2, not_false_eq_true, if_true, Sem.run_bind, p1, Result.andThen_ok, a1]
  cases x1.toList == y1.toList
  · simp
  · simp only [Bool.not_true, Bool.false_eq_true, if_false, Sem.run_bind, p2, Result.andThen_ok, a2, Bool.true_and]
    cases x2.toList == y2.toList <;> simp
theorem sim_eqs {neg : Bool} {x y : Operand} {p : PV} {us : List (Nat × Obj)} (h : FR gl ph n B O g s a w) (hd : ∀ t, o.dst = some t → t < n) (hr : Rs P o (.eqs neg x y))
    (hp : pop (evalIn s.env) s.objs (bs + o.dst.getD 0) (.eqs neg x y) = some (p, us)) (hk : Owed gl ph n B O g w ⟨put s.env o.dst p, updAll s.objs us⟩ K) : o.wp P a w K Q := by
  obtain ⟨t, yt, f1, f2, ho, ht, n1, n2, o1, o2, u1, u2, hst, hg, hx, hy⟩ := hr
  have ex := h.opnd hx
  have ey := h.opnd hy
  have two : ∀ {q : PV} {v : Value} {b1 b2 : ByteArray}, q = .agg [.sc (.string b1), .sc (.string b2)] → XR g w s.objs q v → v = .agg #[.string b1, .string b2] := by
    intro q v b1 b2 hq hx
    subst hq
    obtain ⟨vs, rfl, hl, hv⟩ := hx.agg_inv
    match vs, hl with
    | [v1, v2], _ =>
      have a1 := (hv 0 _ v1 rfl rfl).2
      have a2 := (hv 1 _ v2 rfl rfl).2
      have b1' := (XR.sc_inv (.inr (.inl a1))).1
      have b2' := (XR.sc_inv (.inr (.inl a2))).1
      rw [b1', b2']
  simp only [pop] at hp
  split at hp
  · rename_i x1 x2 y1 y2 hu hv
    rw [hu] at ex
    rw [hv] at ey
    cases hp
    have e1 := two rfl ex
    have e2 := two rfl ey
    have hrun := run_eqNames (P := P) (w := w) ht n1 n2 o1 o2 u1 u2 hst x1 x2 y1 y2
    refine sim_val h hd (v := .bool (xor neg (x1.toList == y1.toList && x2.toList == y2.toList))) ?_ (.sc rfl) hk
    cases neg
    · simp only [eqOp, Bool.false_eq_true, if_false] at ho
      simp only [execOp, ho, e1, e2, Sem.run_bind, run_eqGuard_agg w .eql t x y _ _ hg, Result.andThen_ok, run_eql_struct, hrun, Sem.run_pure]
      simp
    · simp only [eqOp, if_true] at ho
      simp only [execOp, ho, e1, e2, Sem.run_bind, run_eqGuard_agg w .neq t x y _ _ hg, Result.andThen_ok, run_neq_struct, hrun, Sem.run_pure]
      simp
  · simp at hp
def BV (dflt : Nat) (ov : Option Value) (m : Nat) : Prop := (ov = none ∧ m = dflt) ∨ ∃ k i, ov = some (.int k i) ∧ 0 ≤ i ∧ m = i.toNat
theorem FR.bv (h : FR gl ph n B O g s a w) {dflt m : Nat} {ox : Option Operand} (hx : (optL ox).all opndOk = true) (hb : bound (evalIn s.env) dflt ox = some m) : BV dflt (ox.map a.eval) m := by
  cases ox with
  | none => simp only [bound, Option.some.injEq] at hb; exact .inl ⟨rfl, hb.symm⟩
  | some x =>
    have hx' : opndOk x = true := by simpa [optL] using hx
    have e := h.opnd hx'
    simp only [bound] at hb
    split at hb
    · rename_i k i hu
      rw [hu] at e
      split at hb
      · rename_i h0
        cases hb
        exact .inr ⟨k, i, by simp [e.sc_inv.1], h0, rfl⟩
      · simp at hb
    · simp at hb
theorem run_bounds (b : Bool) (len cap : Nat) (lo hi : Option Value) (l r : Nat) (hl : BV 0 lo l) (hr : BV len hi r) (h1 : l ≤ r) (h2 : r ≤ cap) :
    (Instr.sliceBounds b len cap lo hi none).run P w = .ok (l, r, cap) w := by
  have hh : ∀ (code : BoundsCode) (k : IntKind) (i : Int) (y : Nat), 0 ≤ i → i.toNat ≤ y → (Instr.sliceBound (.int k i) y code).run P w = .ok i.toNat w := by
    intro code k i y h0 hy
    exact run_sliceBound w k i y code h0 (by omega)
  rcases hl with ⟨rfl, rfl⟩ | ⟨k, i, rfl, hi0, rfl⟩ <;> rcases hr with ⟨rfl, rfl⟩ | ⟨k', i', rfl, hi0', rfl⟩
  · simp [Instr.sliceBounds]
  · simp [Instr.sliceBounds, hh _ k' i' cap hi0' h2]
  · simp [Instr.sliceBounds, hh _ k i r hi0 h1]
  · simp [Instr.sliceBounds, hh _ k' i' cap hi0' h2, hh _ k i i'.toNat hi0 h1]
theorem sim_sslice {x : Operand} {lo hi : Option Operand} {p : PV} {us : List (Nat × Obj)} (h : FR gl ph n B O g s a w) (hd : ∀ t, o.dst = some t → t < n) (hr : Rs P o (.sslice x lo hi))
    (hp : pop (evalIn s.env) s.objs (bs + o.dst.getD 0) (.sslice x lo hi) = some (p, us)) (hk : Owed gl ph n B O g w ⟨put s.env o.dst p, updAll s.objs us⟩ K) : o.wp P a w K Q := by
  obtain ⟨t, ho, ht, hx, hlh⟩ := hr
  have ex := h.opnd hx
  simp only [List.all_append, Bool.and_eq_true] at hlh
  simp only [pop] at hp
  split at hp
  · rename_i str hu
    rw [hu] at ex
    split at hp
    · rename_i l r hl hr
      split at hp
      · rename_i hle
        cases hp
        refine sim_val h hd (v := .string (str.extract l r)) ?_ (.sc rfl) hk
        have hb := run_bounds (P := P) (w := w) false str.size str.size _ _ l r (h.bv hlh.1 hl) (h.bv hlh.2 hr) hle.1 hle.2
        simp only [execOp, ho, ex.sc_inv.1, Option.map_none, Sem.run_bind, run_sliceAt_string w t _ _ _ _ ht, Instr.slice, run_underlying ht, Result.andThen_ok]
        simp
        rw [hb]; simp
      · simp at hp
    · simp at hp
  · simp at hp
theorem sim_slc {sz : Nat} {x : Operand} {lo hi : Option Operand} {p : PV} {us : List (Nat × Obj)} (h : FR gl ph n B O g s a w) (hd : ∀ t, o.dst = some t → t < n) (hr : Rs P o (.slc sz x lo hi))
    (hp : pop (evalIn s.env) s.objs (bs + o.dst.getD 0) (.slc sz x lo hi) = some (p, us)) (hk : Owed gl ph n B O g w ⟨put s.env o.dst p, updAll s.objs us⟩ K) : o.wp P a w K Q := by
  obtain ⟨t, e, i, ho, ht, hi', hsz, hx, hlh⟩ := hr
  have ex := h.opnd hx
  simp only [List.all_append, Bool.and_eq_true] at hlh
  have key : ∀ (q : Option Addr) (len cap l r : Nat), a.eval x = .slice q len cap → BV 0 (lo.map a.eval) l → BV len (hi.map a.eval) r → l ≤ r → r ≤ cap →
      (execOp a.eval o).run P w = .ok (.value (.slice (if cap = l then q else q.map (·.add (l * sz))) (r - l) (cap - l))) w := by
    intro q len cap l r e1 h1 h2 h3 h4
    have hb := run_bounds (P := P) (w := w) true len cap _ _ l r h1 h2 h3 h4
    simp only [execOp, ho, e1, Option.map_none, Instr.sliceAt, Instr.slice, Sem.run_bind, run_underlying ht, Result.andThen_ok, hb, run_sizeOf hi', hsz, Sem.run_pure]
  simp only [pop] at hp
  split at hp
  · rename_i sz' es hu
    rw [hu] at ex
    split at hp
    · rename_i l r hl hr
      split at hp
      · rename_i hle
        obtain ⟨rfl, hlr, hre⟩ := hle
        cases hp
        have e1 := ex.lst_inv
        cases he : a.eval x with
        | slice q l' c =>
          rw [he] at e1
          cases e1 with
          | lst vals hcap hm hb hc hsz' hcell hci hv =>
            rename_i b o'
            have hlen : ((es.drop l).take (r - l)).length = r - l := by simp; omega
            have hget : ∀ (k : Nat) (cs : List PV), ((es.drop l).take (r - l))[k]? = some cs → es[l + k]? = some cs ∧ k < r - l := by
              intro k cs hk'
              rw [List.getElem?_take] at hk'
              split at hk'
              · rename_i hlt; rw [List.getElem?_drop] at hk'; exact ⟨hk', hlt⟩
              · cases hk'
            refine sim_val h hd (key _ _ _ l r he (h.bv hlh.1 hl) (h.bv hlh.2 hr) hlr (by omega)) (.inr (.inl (.inl ?_))) hk
            by_cases hcl : c = l
            · rw [if_pos hcl]
              have hz : r - l = 0 := by omega
              have hnil : (es.drop l).take (r - l) = [] := by rw [hz]; simp
              rw [hnil]
              have : (PV.lst sz' []) = .lst sz' [] := rfl
              have hrl : r - l = ([] : List (List PV)).length := by simpa using hz
              rw [hrl]
              exact .lst (fun _ _ => undef) (by simp) (by omega) hb (by simp) (by simp) (by simp) (by simp) (by simp)
            · rw [if_neg hcl]
              simp only [Option.map_some, add_lit]
              have hgoal : VR g.c w (.lst sz' ((es.drop l).take (r - l))) (.slice (some ⟨b, o' + l * sz', none⟩) ((es.drop l).take (r - l)).length (c - l)) := by
                refine .lst (fun k j => vals (l + k) j) (by omega) (by omega) hb (fun hpos => ?_) (fun k cs hk' => hsz' _ _ (hget k cs hk').1) (fun k j cs q hk' hj => ?_) (fun k j cs q hk' hj => hci _ _ _ _ (hget k cs hk').1 hj) (fun k j cs q hk' hj => hv _ _ _ _ (hget k cs hk').1 hj)
                · have h5 := hc (by omega)
                  rw [hlen]
                  have h6 : (l + (r - l)) * sz' ≤ es.length * sz' := Nat.mul_le_mul_right _ (by omega)
                  rw [Nat.add_mul] at h6
                  omega
                · have := hcell (l + k) j cs q (hget k cs hk').1 hj
                  rw [Nat.add_mul] at this
                  rw [show o' + l * sz' + (k * sz' + j) = o' + (l * sz' + k * sz' + j) by omega]
                  exact this
              rw [hlen] at hgoal
              exact hgoal
        | _ => rw [he] at e1; cases e1
      · simp at hp
    · simp at hp
  · rename_i k st off len hu
    rw [hu] at ex
    split at hp
    · rename_i l r s' e' sz' es raw hl hr hob
      split at hp
      · rename_i hc
        obtain ⟨hs, hss, hlr, hrl⟩ := hc
        subst hs
        subst hss
        cases hp
        obtain ⟨e0, b, o', cap, e1, e2, e3, e4⟩ := ex.ref_inv (by simp [PV.key, PV.key0])
        obtain ⟨f1, f2, f3, f4⟩ := e4 _ _ _ _ hob
        have hrun := key _ _ _ l r e1 (h.bv hlh.1 hl) (h.bv hlh.2 hr) hlr (by omega)
        by_cases hcl : cap = l
        · rw [if_pos hcl] at hrun
          refine sim_val (p := .bld k st (off + l) (r - l)) h hd hrun (.inr (.inl (.inr ⟨e0, b, o', cap - l, rfl, by omega, by omega, fun e'' sz'' es'' raw'' hob' => ?_⟩))) hk
          rw [hob] at hob'
          cases hob'
          refine ⟨by omega, f2, fun hh => ?_, fun hh => ?_⟩
          · rcases hh with hh | hh
            · omega
            · have h1 : off = 0 := by omega
              have h2 : l = 0 := by omega
              subst h1; subst h2
              exact f3 (.inr rfl)
          · have h1 : off = 0 := by omega
            have h2 : l = 0 := by omega
            subst h2
            simpa using f4 h1
        · rw [if_neg hcl] at hrun
          simp only [Option.map_some, add_lit] at hrun
          refine sim_val (p := .bld k st (off + l) (r - l)) h hd hrun (.inr (.inl (.inr ⟨e0, b, o' + l * sz', cap - l, rfl, by omega, by omega, fun e'' sz'' es'' raw'' hob' => ?_⟩))) hk
          rw [hob] at hob'
          cases hob'
          refine ⟨by omega, f2, fun hh => ?_, fun hh => ?_⟩
          · have ho' : o' = off * sz' := by
              rcases hh with hh | hh
              · exact f3 (.inl (by omega))
              · exact f3 (.inr (by omega))
            rw [ho', Nat.add_mul]
          · have h1 : off = 0 := by omega
            have h2 : l = 0 := by omega
            subst h2
            simpa using f4 h1
      · simp at hp
    · simp at hp
  · rename_i hu
    rw [hu] at ex
    split at hp
    · rename_i hl hr
      cases hp
      have e1 := ex.sc_inv.1
      have hrun := key _ _ _ 0 0 e1 (h.bv hlh.1 hl) (h.bv hlh.2 hr) (Nat.le_refl _) (Nat.le_refl _)
      exact sim_val h hd hrun (.sc rfl) hk
    · simp at hp
  · simp at hp
end
end Go.Hf
end
section
namespace Go.Hf
open Go.RowKit
section
variable {P : Program} {n B bs : Nat} {O : Nat → Prop} {gl : Gl} {ph : Gh × (Nat → Obj) × World × List Deferred} {g : Gh} {s : St} {a : Act} {w w' : World} {o : Oper} {K : Act → World → Prop} {Q : Exit → Act → World → Prop}
theorem heap_push_old {y : Go.Obj} (hw : w'.heap = w.heap.push y) {b : Nat} (hb : b < w.heap.size) : w'.heap[b]? = w.heap[b]? := by
  rw [hw, Array.getElem?_push, if_neg (by omega)]
theorem heap_push_new {y : Go.Obj} (hw : w'.heap = w.heap.push y) : w'.heap[w.heap.size]? = some y := by
  rw [hw, Array.getElem?_push, if_pos rfl]
def Gh.new (g : Gh) (w : World) (d cap : Nat) : Gh := ⟨upd g.c w.heap.size 0, upd g.blk d w.heap.size, upd g.cap d cap⟩
theorem Ext.push (g : Gh) {y : Go.Obj} {d cap : Nat} (hw : w'.heap = w.heap.push y) : Ext g.c w (g.new w d cap).c w' := by
  refine ⟨by rw [hw]; simp, fun b hb => ?_, fun b i hb hi => ?_⟩
  · simp [Gh.new, upd, Nat.ne_of_lt hb]
  · simp only [World.cell?, heap_push_old hw hb]
theorem PB.push (h : FR gl ph n B O g s a w) {y : Go.Obj} {d cap : Nat} (hw : w'.heap = w.heap.push y) (ho : w'.os = w.os) (ht : w'.tape = w.tape) (hu : w'.output = w.output) :
    PB B O g.c w (g.new w d cap).c w' := by
  have hb := h.base
  refine ⟨ho, ht, hu, by rw [hw]; simp, fun b hb' _ => heap_push_old hw (by omega), fun b hb' _ => ?_⟩
  have : b ≠ w.heap.size := by omega
  simp [Gh.new, upd, this]
theorem ObStep.new (g : Gh) (ob : Nat → Obj) (w : World) (d cap : Nat) (x : Obj) (hx : (ob d).stamp < x.stamp) : ObStep g ob (g.new w d cap) (upd ob d x) := by
  intro k
  by_cases hk : k = d
  · subst hk
    simp only [upd_same]
    refine ⟨by omega, fun cs hc => ?_, fun e sz es raw hc => ?_, fun es hc => ?_⟩
    · rw [hc] at hx; exact absurd hx (Nat.lt_irrefl _)
    · rw [hc] at hx; exact absurd hx (Nat.lt_irrefl _)
    · rw [hc] at hx; exact absurd hx (Nat.lt_irrefl _)
  · simp only [upd_ne _ _ hk]
    refine ⟨Nat.le_refl _, fun cs hc => ⟨⟨cs, hc⟩, ?_⟩, fun e sz es raw hc => ⟨⟨es, raw, hc, Nat.le_refl _⟩, ?_, ?_⟩, fun es hc => ⟨⟨es, hc⟩, ?_⟩⟩ <;> simp [Gh.new, upd, hk]
theorem FR.new (h : FR gl ph n B O g s a w) {y : Go.Obj} (d cap : Nat) (x : Obj) (hx : (s.objs d).stamp < x.stamp) (hw : w'.heap = w.heap.push y)
    (hobj : ObjR (g.new w d cap) w' (upd s.objs d x) d x) : FR gl ph n B O (g.new w d cap) ⟨s.env, upd s.objs d x⟩ a w' := by
  refine h.pass (upd s.objs d x) (· = d) (Ext.push g hw) (ObStep.new g s.objs w d cap x hx) (fun k hk => upd_ne _ _ hk) (fun k hkd hl => ?_) (fun k hk hl => ?_)
  · have hb := (h.fresh k hl).2
    refine ⟨by simp [Gh.new, upd, hkd], by simp [Gh.new, upd, hkd], by simp [Gh.new, upd, Nat.ne_of_lt hb], heap_push_old hw hb⟩
  · subst hk
    have hbase := h.base
    refine ⟨by rw [upd_same]; exact hobj, .inl (by simp [Gh.new, upd]; omega), by rw [hw]; simp [Gh.new, upd], fun k' hk' hl' => ?_⟩
    rw [upd_ne _ _ hk'] at hl'
    have hb := (h.fresh k' hl').2
    simp [Gh.new, upd, hk']
    omega
theorem KR.new {ob : Nat → Obj} (g : Gh) {y : Go.Obj} {d cap : Nat} {x : Obj} (hx : (ob d).stamp < x.stamp) (hw : w'.heap = w.heap.push y) {p : PV} {v : Value}
    (h : KR g w ob p v) : KR (g.new w d cap) w' (upd ob d x) p v := h.step (Ext.push g hw) (ObStep.new g ob w d cap x hx)
theorem sim_newBox (h : FR gl ph n B O g s a w) (hd : ∀ t, o.dst = some t → t < n) (hds : o.dst.isSome = true) {T : Nat} {arr : Array Value} {cs : List PV}
    (hrun : (execOp a.eval o).run P w = .ok (.value (.pointer (some ⟨w.heap.size, 0, none⟩))) (w.alloc (.cells arr T))) (hl : arr.size = cs.length) (hT : T < 65536)
    (hc : ∀ (j : Nat) (q : PV), cs[j]? = some q → ∃ u, arr[j]? = some u ∧ q.isCell = true ∧ KR g w s.objs q u)
    (hk : Owed gl ph n B O g w ⟨put s.env o.dst (.bptr (bs + o.dst.getD 0) (stT (s.objs (bs + o.dst.getD 0)).stamp T) 0), updAll s.objs [(bs + o.dst.getD 0, .box (stT (s.objs (bs + o.dst.getD 0)).stamp T) cs)]⟩ K) : o.wp P a w K Q := by
  generalize bs + o.dst.getD 0 = d at *
  have hw : (w.alloc (.cells arr T)).heap = w.heap.push (.cells arr T (0, 0)) := rfl
  have hx : (s.objs d).stamp < (Obj.box (stT (s.objs d).stamp T) cs).stamp := stT_lt _ _
  have hF := h.new (w' := w.alloc (.cells arr T)) d 0 (.box (stT (s.objs d).stamp T) cs) hx hw (by
    refine ⟨arr, T, ?_, ⟨hl, stT_ty hT⟩, ?_, fun j q hq => ?_⟩
    · simp only [Gh.new, upd_same]; exact heap_push_new hw
    · simp [Gh.new, upd]
    · obtain ⟨u, h1, h2, h3⟩ := hc j q hq
      exact ⟨u, h1, h2, h3.new g hx hw⟩)
  refine wp_value hrun (hk _ _ _ (by
    exact hF.put o.dst hd (p := .bptr d (stT (s.objs d).stamp T) 0) (v := .pointer (some ⟨w.heap.size, 0, none⟩)) (.inr (.inl (.inr ⟨by simp [upd, Obj.stamp], _, rfl, fun cs' _ => by simp [Gh.new, upd]⟩)))) (PB.push h hw rfl rfl rfl))
theorem sim_alloc {t : Nat} {zero : List Value} {p : PV} {us : List (Nat × Obj)} (h : FR gl ph n B O g s a w) (hd : ∀ t, o.dst = some t → t < n) (hr : Rs P o (.alloc t zero))
    (hp : pop (evalIn s.env) s.objs (bs + o.dst.getD 0) (.alloc t zero) = some (p, us)) (hk : Owed gl ph n B O g w ⟨put s.env o.dst p, updAll s.objs us⟩ K) : o.wp P a w K Q := by
  obtain ⟨ho, hT, hds, sz, i, z, hi, hz, hzc, _, _, hall⟩ := hr
  simp only [pop] at hp
  cases hp
  refine sim_newBox h hd hds (arr := z.cells) (T := t) ?_ ?_ hT ?_ hk
  · simp only [execOp, ho, Instr.alloc, Sem.run_bind, run_zeroValue hi hz, Result.andThen_ok, newVar, newRow, run_newObj, Sem.run_pure]
  · rw [← hzc]; simp
  · intro j q hq
    simp only [List.getElem?_map, Option.map_eq_some_iff] at hq
    obtain ⟨v, hv, rfl⟩ := hq
    have hs : scalarV v = true := List.all_eq_true.1 hall v (List.mem_of_getElem? hv)
    exact ⟨v, by rw [← hzc] at hv; simpa using hv, hs, .inl (.sc hs)⟩
theorem sim_box {t : Nat} {x : Operand} {p : PV} {us : List (Nat × Obj)} (h : FR gl ph n B O g s a w) (hd : ∀ t, o.dst = some t → t < n) (hr : Rs P o (.box t x))
    (hp : pop (evalIn s.env) s.objs (bs + o.dst.getD 0) (.box t x) = some (p, us)) (hk : Owed gl ph n B O g w ⟨put s.env o.dst p, updAll s.objs us⟩ K) : o.wp P a w K Q := by
  obtain ⟨ho, hT, hds, hx⟩ := hr
  have ex := h.opnd hx
  simp only [pop] at hp
  split at hp
  · rename_i cs hcs
    cases hp
    obtain ⟨h1, h2⟩ := ex.cells hcs
    refine sim_newBox h hd hds (arr := (a.eval x).cells) (T := t) ?_ (by simpa using h1) hT (fun j q hq => ?_) hk
    · simp only [execOp, ho, Instr.box, Sem.run_bind, Result.andThen_ok, newVar, newRow, run_newObj, Sem.run_pure]
    · obtain ⟨u, hu, h3⟩ := h2 j q hq
      exact ⟨u, by simpa using hu, h3⟩
  · simp at hp
theorem FR.write (h : FR gl ph n B O g s a w) (k : Nat) (x : Obj) (arr : Array Value) (hl : (s.objs k).live) (hc0 : g.c (g.blk k) = 0)
    (hS : ObStep g s.objs g (upd s.objs k x)) (hobj : ObjR g (w.setRow (g.blk k) arr) (upd s.objs k x) k x) :
    FR gl ph n B O g ⟨s.env, upd s.objs k x⟩ a (w.setRow (g.blk k) arr) ∧ PB B O g.c w g.c (w.setRow (g.blk k) arr) := by
  obtain ⟨a1, a2, a3, a4⟩ := setRow_alike w (g.blk k) arr
  have hother : ∀ b, b ≠ g.blk k → (w.setRow (g.blk k) arr).heap[b]? = w.heap[b]? := fun b hb => setRow_other w (g.blk k) b arr (fun e => hb (by simpa using e))
  have hE : Ext g.c w g.c (w.setRow (g.blk k) arr) := by
    refine ⟨by omega, fun _ _ => Nat.le_refl _, fun b i hb hi => ?_⟩
    by_cases hbk : b = g.blk k
    · subst hbk; omega
    · simp only [World.cell?, hother b hbk]
  refine ⟨h.pass (upd s.objs k x) (· = k) hE hS (fun k' hk' => upd_ne _ _ hk') (fun k' hkk hl' => ?_) (fun k' hkk hl' => ?_), ⟨a1, a2, a3, by omega, fun b hb hO => hother b ?_, fun _ _ _ => rfl⟩⟩
  · exact ⟨rfl, rfl, rfl, hother _ (fun e => hkk (h.inj k' k hl' hl e))⟩
  · subst hkk
    refine ⟨by rw [upd_same]; exact hobj, (h.fresh k' hl).1, by rw [a4]; exact (h.fresh k' hl).2, fun k2 hk2 hl2 => ?_⟩
    rw [upd_ne _ _ hk2] at hl2
    exact fun e => hk2 (h.inj k2 k' hl2 hl e)
  · intro e
    subst e
    rcases (h.fresh k hl).1 with h1 | h1
    · omega
    · exact hO h1
theorem Ext.write (g : Gh) (w : World) (b : Nat) (arr : Array Value) (hc0 : g.c b = 0) : Ext g.c w g.c (w.setRow b arr) := by
  obtain ⟨a1, a2, a3, a4⟩ := setRow_alike w b arr
  refine ⟨by omega, fun _ _ => Nat.le_refl _, fun b' i hb hi => ?_⟩
  by_cases hbk : b' = b
  · subst hbk; omega
  · simp only [World.cell?, setRow_other w b b' arr (fun e => hbk (by simpa using e))]
theorem ObStep.box {ob : Nat → Obj} (g : Gh) {k st : Nat} {cs cs' : List PV} (h : ob k = .box st cs) : ObStep g ob g (upd ob k (.box st cs')) := by
  intro k'
  by_cases hk : k' = k
  · subst hk
    rw [upd_same, h]
    exact ⟨Nat.le_refl _, fun _ _ => ⟨⟨cs, rfl⟩, rfl⟩, (fun _ _ _ _ hc => by cases hc), (fun _ hc => by cases hc)⟩
  · rw [upd_ne _ _ hk]
    exact ⟨Nat.le_refl _, fun cs hc => ⟨⟨cs, hc⟩, rfl⟩, fun _ _ es raw hc => ⟨⟨es, raw, hc, Nat.le_refl _⟩, rfl, rfl⟩, fun es hc => ⟨⟨es, hc⟩, rfl⟩⟩
theorem ObStep.bld {ob : Nat → Obj} (g : Gh) {k st e sz : Nat} {es es' : List (List PV)} {raw raw' : Bool} (h : ob k = .bld st e sz es raw) (hl : es.length ≤ es'.length) : ObStep g ob g (upd ob k (.bld st e sz es' raw')) := by
  intro k'
  by_cases hk : k' = k
  · subst hk
    rw [upd_same, h]
    refine ⟨Nat.le_refl _, (fun _ hc => by cases hc), fun e2 sz2 es2 raw2 hc => ?_, (fun _ hc => by cases hc)⟩
    cases hc
    exact ⟨⟨es, raw, rfl, hl⟩, rfl, rfl⟩
  · rw [upd_ne _ _ hk]
    exact ⟨Nat.le_refl _, fun cs hc => ⟨⟨cs, hc⟩, rfl⟩, fun _ _ es raw hc => ⟨⟨es, raw, hc, Nat.le_refl _⟩, rfl, rfl⟩, fun es hc => ⟨⟨es, hc⟩, rfl⟩⟩
theorem splice_get {α : Type} (l new : List α) (off j : Nat) (h : off + new.length ≤ l.length) :
    (l.take off ++ new ++ l.drop (off + new.length))[j]? = if j < off then l[j]? else if j < off + new.length then new[j - off]? else l[j]? := by
  simp only [List.getElem?_append, List.length_append, List.length_take, List.getElem?_take, List.getElem?_drop]
  have hm : min off l.length = off := by omega
  rw [hm]
  by_cases h1 : j < off
  · simp [h1, (by omega : j < off + new.length)]
  · by_cases h2 : j < off + new.length
    · simp [h1, h2]
    · simp only [h1, h2, if_false]
      congr 1
      omega
theorem RefR.key_ne {ob : Nat → Obj} {p : PV} {v : Value} (h : RefR g ob p v) : p.key ≠ [] := by
  cases p with
  | clo f caps => exact h.1
  | bptr => simp [PV.key, PV.key0]
  | bld => simp [PV.key, PV.key0]
  | kptr => simp [PV.key, PV.key0]
  | mref => simp [PV.key, PV.key0]
  | _ => exact h.elim
theorem pureCells_same {ob : Nat → Obj} : ∀ {cs qs : List PV}, (∀ q ∈ cs, q.key = []) → pureCells ob cs = some qs → qs = cs
  | [], qs, _, h => by simp [pureCells] at h; exact h
  | p :: ps, qs, hk, h => by
    simp only [pureCells] at h
    split at h
    · rename_i q qs' h1 h2
      cases h
      have e1 : q = p := by
        have := hk p (by simp)
        cases p <;> simp_all [pureCell, PV.key, PV.key0]
      rw [e1, pureCells_same (fun q hq => hk q (by simp [hq])) h2]
    · simp at h
theorem XR.noKeys {p q : PV} {v : Value} {ob : Nat → Obj} (h : XR g w ob p v) (hk : p.keys = []) (hp : pureVal ob p = some q) : q = p ∧ VR g.c w p v := by
  cases p with
  | sc u => simp only [pureVal, pureCell, Option.some.injEq] at hp; obtain ⟨rfl, hs⟩ := h.sc_inv; exact ⟨hp.symm, .sc hs⟩
  | lst sz es => simp only [pureVal, pureCell, Option.some.injEq] at hp; exact ⟨hp.symm, h.lst_inv⟩
  | eptr cs off => simp only [pureVal, pureCell, Option.some.injEq] at hp; exact ⟨hp.symm, h.eptr_inv⟩
  | agg cs =>
    simp only [PV.keys, PV.keysA, List.flatMap_eq_nil_iff] at hk
    simp only [pureVal, Option.map_eq_some_iff] at hp
    obtain ⟨qs, h1, rfl⟩ := hp
    rw [pureCells_same hk h1]
    obtain ⟨vs, rfl, hl, hv⟩ := h.agg_inv
    have hlt : ∀ (j : Nat) (r : PV), cs[j]? = some r → ∃ u, vs[j]? = some u := fun j r hr => ⟨vs[j]'(by have := (List.getElem?_eq_some_iff.1 hr).1; omega), List.getElem?_eq_getElem _⟩
    refine ⟨rfl, .agg hl (fun j r hr => ?_) (fun j r u hr hu => ?_)⟩
    · obtain ⟨u, hu⟩ := hlt j r hr
      exact (hv j r u hr hu).1
    · rcases (hv j r u hr hu).2 with h2 | h2
      · exact h2
      · exact absurd (hk r (List.mem_of_getElem? hr)) h2.key_ne
  | undef => simp [pureVal, pureCell] at hp
  | tup => simp [pureVal, pureCell] at hp
  | bptr => simp [PV.keys, PV.keysA, PV.key, PV.key0] at hk
  | bld => simp [PV.keys, PV.keysA, PV.key, PV.key0] at hk
  | kptr => simp [PV.keys, PV.keysA, PV.key, PV.key0] at hk
  | mref => simp [PV.keys, PV.keysA, PV.key, PV.key0] at hk
  | clo => simp [pureVal, pureCell] at hp
theorem block_lt {i i' sz j off m : Nat} (hj : j < sz) (hm : off + m ≤ sz) (h : i' ≠ i) : ¬ (i * sz + off ≤ i' * sz + j ∧ i' * sz + j < i * sz + off + m) := by
  rcases Nat.lt_or_gt_of_ne h with h1 | h1
  · have := Nat.mul_le_mul_right sz (show i' + 1 ≤ i from h1)
    rw [Nat.add_mul, Nat.one_mul] at this
    omega
  · have := Nat.mul_le_mul_right sz (show i + 1 ≤ i' from h1)
    rw [Nat.add_mul, Nat.one_mul] at this
    omega
theorem sim_store {m : Nat} {x v : Operand} {p : PV} {us : List (Nat × Obj)} (h : FR gl ph n B O g s a w) (hd : ∀ t, o.dst = some t → t < n) (hr : Rs P o (.store m x v))
    (hp : pop (evalIn s.env) s.objs (bs + o.dst.getD 0) (.store m x v) = some (p, us)) (hk : Owed gl ph n B O g w ⟨put s.env o.dst p, updAll s.objs us⟩ K) : o.wp P a w K Q := by
  obtain ⟨t, agg, ho, ht, hx, hv⟩ := hr
  have ex := h.opnd hx
  have ev := h.opnd hv
  have key : ∀ (b o' : Nat) (w1 : World), a.eval x = .pointer (some ⟨b, o', none⟩) → (storeVar t ⟨b, o', none⟩ (a.eval v)).run P w = .ok () w1 → (execOp a.eval o).run P w = .ok .skip w1 := by
    intro b o' w1 e1 e2
    simp only [execOp, ho, Instr.storeAt, e1, Instr.sureAddr, Sem.run_bind, Sem.run_pure, Result.andThen_ok, e2]
  simp only [pop] at hp
  split at hp
  · rename_i k st off hu
    rw [hu] at ex
    obtain ⟨_, ad, e1, e2⟩ := ex.ref_inv (by simp [PV.key, PV.key0])
    split at hp
    · rename_i s' cs new hob hnew
      split at hp
      · rename_i hc
        obtain ⟨rfl, hln, hfit⟩ := hc
        cases hp
        obtain ⟨hn1, hn2⟩ := ev.cells hnew
        have hO := h.obj k
        rw [hob] at hO
        obtain ⟨arr, T, r1, r2, r3, r4⟩ := hO
        have e3 := e2 cs hob
        have hone : ∀ u ∈ (a.eval v).cells.toList, u.oneCell' = true := by
          intro u hu'
          obtain ⟨j, hj⟩ := List.mem_iff_getElem?.1 hu'
          have hjl : j < new.length := by have := (List.getElem?_eq_some_iff.1 hj).1; omega
          obtain ⟨u', q1, q2, q3⟩ := hn2 j new[j] (List.getElem?_eq_getElem hjl)
          rw [hj] at q1; cases q1
          exact q3.oneCell q2
        have hst := run_storeVar_at (P := P) (w := w) ht (g.blk k) off T arr (a.eval v) r1 (by simpa [hln] using hn1) (by omega) hone
        have hlive : (s.objs k).live := by rw [hob]; trivial
        let arr' : Array Value := (arr.toList.take off ++ (a.eval v).cells.toList ++ arr.toList.drop (off + m)).toArray
        have hS := ObStep.box g (cs' := putCells cs off new) hob
        have hE := Ext.write g w (g.blk k) arr' r3
        have hW := h.write k (.box st (putCells cs off new)) arr' hlive r3 hS (by
          refine ⟨arr', T, setRow_heap w (g.blk k) arr arr' T (0, 0) r1, ?_, r3, fun j q hq => ?_⟩
          · simp [arr', putCells]; simp at hn1; omega
          · have hsp := splice_get cs new off j (by omega)
            have hsp' := splice_get arr.toList (a.eval v).cells.toList off j (by rw [hn1]; simp; omega)
            simp only [putCells] at hq
            rw [hsp] at hq
            have harr : arr'[j]? = (arr.toList.take off ++ (a.eval v).cells.toList ++ arr.toList.drop (off + (a.eval v).cells.toList.length))[j]? := by
              simp only [arr', hn1, hln]; simp
            rw [harr, hsp']
            rw [hn1]
            by_cases c1 : j < off
            · rw [if_pos c1] at hq ⊢
              obtain ⟨u, q1, q2, q3⟩ := r4 j q hq
              exact ⟨u, by simpa using q1, q2, q3.step hE hS⟩
            · rw [if_neg c1] at hq ⊢
              by_cases c2 : j < off + new.length
              · rw [if_pos c2] at hq ⊢
                obtain ⟨u, q1, q2, q3⟩ := hn2 (j - off) q hq
                exact ⟨u, q1, q2, q3.step hE hS⟩
              · rw [if_neg c2] at hq ⊢
                obtain ⟨u, q1, q2, q3⟩ := r4 j q hq
                exact ⟨u, by simpa using q1, q2, q3.step hE hS⟩)
        refine wp_skip' (key _ _ _ (by rw [e1, e3]) hst) (hk g _ _ (hW.1.put o.dst hd (.inl rfl)) hW.2)
      · simp at hp
    · simp at hp
  · rename_i k st i off hu
    rw [hu] at ex
    obtain ⟨_, ad, e1, e2⟩ := ex.ref_inv (by simp [PV.key, PV.key0])
    split at hp
    · rename_i s' e sz es new hob hnew
      split at hp
      · rename_i cs hcs
        split at hp
        · rename_i hc
          obtain ⟨rfl, hln, hfit, hkeys⟩ := hc
          cases hp
          have hO := h.obj k
          rw [hob] at hO
          obtain ⟨arr, r1, r2, r3, r4, r5, r6, r7, r8⟩ := hO
          have e3 := e2 e sz es true hob
          have hcl := r5 i cs hcs
          have hil : i < es.length := (List.getElem?_eq_some_iff.1 hcs).1
          simp only [Option.bind_eq_some_iff] at hnew
          obtain ⟨q0, hq0, hnew⟩ := hnew
          obtain ⟨rfl, hVR⟩ := ev.noKeys hkeys hq0
          have evp : XR g w (fun _ => Obj.no 0) (evalIn s.env v) (a.eval v) := .inr (.inl (.inl hVR))
          obtain ⟨hn1, hn2⟩ := evp.cells hnew
          have hn3 : ∀ (j : Nat) (q : PV), new[j]? = some q → ∃ u, (a.eval v).cells.toList[j]? = some u ∧ q.isCell = true ∧ VR g.c w q u := by
            intro j q hq
            obtain ⟨u, q1, q2, q3⟩ := hn2 j q hq
            refine ⟨u, q1, q2, ?_⟩
            rcases q3 with q3 | q3
            · exact q3
            · exfalso
              have hmem : q ∈ new := List.mem_of_getElem? hq
              have : q.key = [] := by
                cases hev : evalIn s.env v with
                | agg cs' =>
                  rw [hev] at hkeys hnew
                  simp only [PV.keys, PV.keysA, List.flatMap_eq_nil_iff] at hkeys
                  simp only [PV.cells, Option.some.injEq] at hnew
                  subst hnew
                  exact hkeys q hmem
                | sc _ => rw [hev] at hkeys hnew; simp only [PV.cells, Option.some.injEq] at hnew; subst hnew; simp at hmem; subst hmem; exact hkeys
                | lst _ _ => rw [hev] at hkeys hnew; simp only [PV.cells, Option.some.injEq] at hnew; subst hnew; simp at hmem; subst hmem; exact hkeys
                | eptr _ _ => rw [hev] at hkeys hnew; simp only [PV.cells, Option.some.injEq] at hnew; subst hnew; simp at hmem; subst hmem; exact hkeys
                | undef => rw [hev] at hnew; simp [PV.cells] at hnew
                | tup _ => rw [hev] at hnew; simp [PV.cells] at hnew
                | mref _ _ => rw [hev] at hkeys; simp [PV.keys, PV.keysA, PV.key, PV.key0] at hkeys
                | clo _ _ => rw [hev] at hq0; simp [pureVal, pureCell] at hq0
                | bptr _ _ _ => rw [hev] at hkeys; simp [PV.keys, PV.keysA, PV.key, PV.key0] at hkeys
                | bld _ _ _ _ => rw [hev] at hkeys; simp [PV.keys, PV.keysA, PV.key, PV.key0] at hkeys
                | kptr _ _ _ _ => rw [hev] at hkeys; simp [PV.keys, PV.keysA, PV.key, PV.key0] at hkeys
              exact q3.key_ne this
          have hc0 : g.c (g.blk k) = 0 := r7 rfl
          have hone : ∀ u ∈ (a.eval v).cells.toList, u.oneCell' = true := by
            intro u hu'
            obtain ⟨j, hj⟩ := List.mem_iff_getElem?.1 hu'
            have hjl : j < new.length := by have := (List.getElem?_eq_some_iff.1 hj).1; omega
            obtain ⟨u', q1, q2, q3⟩ := hn2 j new[j] (List.getElem?_eq_getElem hjl)
            rw [hj] at q1; cases q1
            exact q3.oneCell q2
          have hmul : (i + 1) * sz ≤ es.length * sz := Nat.mul_le_mul_right sz hil
          rw [Nat.add_mul, Nat.one_mul] at hmul
          have hmul2 : es.length * sz ≤ g.cap k * sz := Nat.mul_le_mul_right sz r3
          have hst := run_storeVar_at (P := P) (w := w) ht (g.blk k) (i * sz + off) e arr (a.eval v) r1 (by simpa [hln] using hn1) (by omega) hone
          have hlive : (s.objs k).live := by rw [hob]; trivial
          let arr' : Array Value := (arr.toList.take (i * sz + off) ++ (a.eval v).cells.toList ++ arr.toList.drop (i * sz + off + m)).toArray
          have hS := ObStep.bld g (es' := es.set i (putCells cs off new)) (raw' := true) hob (by simp)
          have hE := Ext.write g w (g.blk k) arr' hc0
          have hpl : (putCells cs off new).length = sz := by simp [putCells]; omega
          have hget : ∀ j, arr'[j]? = if j < i * sz + off then arr[j]? else if j < i * sz + off + m then (a.eval v).cells.toList[j - (i * sz + off)]? else arr[j]? := by
            intro j
            have hsp' := splice_get arr.toList (a.eval v).cells.toList (i * sz + off) j (by rw [hn1]; simp; omega)
            rw [hn1, hln] at hsp'
            simp only [arr', List.getElem?_toArray, hsp', Array.getElem?_toList]
          have hW := h.write k (.bld st e sz (es.set i (putCells cs off new)) true) arr' hlive hc0 hS (by
            refine ⟨arr', setRow_heap w (g.blk k) arr arr' e (0, 0) r1, ?_, by simpa using r3, r4, fun i' cs' hi' => ?_, fun i' j cs' q hi' hj => ?_, fun _ => hc0, by rw [hc0]; omega⟩
            · simp [arr']; simp at hn1; omega
            · rw [List.getElem?_set] at hi'
              split at hi'
              · cases hi'; exact hpl
              · exact r5 i' cs' hi'
            · rw [List.getElem?_set] at hi'
              split at hi'
              · rename_i hii
                subst hii
                · cases hi'
                  have hjl : j < sz := by have := (List.getElem?_eq_some_iff.1 hj).1; omega
                  simp only [putCells] at hj
                  rw [splice_get cs new off j (by omega)] at hj
                  rw [hget]
                  by_cases c1 : j < off
                  · rw [if_pos c1] at hj
                    rw [if_pos (by omega)]
                    obtain ⟨u, q1, q2, q3⟩ := r6 i j cs q hcs hj
                    exact ⟨u, q1, q2, q3.mono hE⟩
                  · rw [if_neg c1] at hj
                    rw [if_neg (by omega)]
                    by_cases c2 : j < off + new.length
                    · rw [if_pos c2] at hj
                      rw [if_pos (by omega)]
                      obtain ⟨u, q1, q2, q3⟩ := hn3 (j - off) q hj
                      exact ⟨u, by rw [show i * sz + j - (i * sz + off) = j - off by omega]; exact q1, q2, q3.mono hE⟩
                    · rw [if_neg c2] at hj
                      rw [if_neg (by omega)]
                      obtain ⟨u, q1, q2, q3⟩ := r6 i j cs q hcs hj
                      exact ⟨u, q1, q2, q3.mono hE⟩
              · rename_i hii
                have hjl : j < sz := by have := (List.getElem?_eq_some_iff.1 hj).1; have := r5 i' cs' hi'; omega
                have hout := block_lt (i := i) (i' := i') (sz := sz) (j := j) (off := off) (m := m) hjl (by omega) (fun x => hii x.symm)
                rw [hget]
                obtain ⟨u, q1, q2, q3⟩ := r6 i' j cs' q hi' hj
                refine ⟨u, ?_, q2, q3.mono hE⟩
                by_cases c1 : i' * sz + j < i * sz + off
                · rw [if_pos c1]; exact q1
                · rw [if_neg c1, if_neg (by omega)]; exact q1)
          refine wp_skip' (key _ _ _ (by rw [e1, e3]) hst) (hk g _ _ (hW.1.put o.dst hd (.inl rfl)) hW.2)
        · simp at hp
      · simp at hp
    · simp at hp
  · simp at hp
end
end Go.Hf
end

/- Pure frames, part F: the operations that read memory, or compute with addresses, do what the pure ones say. -/
import Derived.Test.YthiipifjdfmblaaGreatDoorPfE
import Derived.WalkSpells
set_option linter.unusedVariables false
set_option linter.unusedSimpArgs false
namespace Go.Pf
open Go.RowKit

section
variable {P : Program} {n B : Nat} {O : Option Nat} {gl : Gl} {ph : Option (Nat × Value)} {g : Gh} {s : St} {a : Act} {w : World} {o : Oper} {K : Act → World → Prop} {Q : Exit → Act → World → Prop}

theorem cell_of_heap {b j T : Nat} {arr : Array Value} (h : w.heap[b]? = some (.cells arr T (0, 0))) : w.cell? ⟨b, j, none⟩ = arr[j]? := by
  simp [World.cell?, h]

/-- Cells that stand for pure ones, read out. -/
theorem XR.of_cells {t : TypeId} {agg : Bool} {m : Nat} (ht : TyOk P t agg m) {b o' off : Nat} {cs : List PV} {p : PV} (hp : takeAgg agg m cs off = some p)
    (hc : ∀ (j : Nat) (q : PV), cs[j]? = some q → ∃ u, w.cell? ⟨b, o' + j, none⟩ = some u ∧ q.isCell = true ∧ KR g w s.objs q u) :
    ∃ v, (loadVar t ⟨b, o' + off, none⟩).run P w = .ok v w ∧ XR g w s.objs p v := by
  cases agg with
  | true =>
    simp only [takeAgg, if_true] at hp
    split at hp
    · rename_i hle
      cases hp
      have hex : ∀ j, j < m → ∃ u, w.cell? ⟨b, o' + off + j, none⟩ = some u ∧ ∀ q, cs[off + j]? = some q → q.isCell = true ∧ KR g w s.objs q u := by
        intro j hj
        have hlt : off + j < cs.length := by omega
        obtain ⟨u, h1, h2, h3⟩ := hc (off + j) cs[off + j] (List.getElem?_eq_getElem hlt)
        refine ⟨u, by rw [Nat.add_assoc]; exact h1, fun q hq => ?_⟩
        rw [List.getElem?_eq_getElem hlt] at hq
        cases hq
        exact ⟨h2, h3⟩
      let f : Nat → Value := fun j => if hj : j < m then (hex j hj).choose else undef
      have hf : ∀ j (hj : j < m), w.cell? ⟨b, o' + off + j, none⟩ = some (f j) ∧ ∀ q, cs[off + j]? = some q → q.isCell = true ∧ KR g w s.objs q (f j) := by
        intro j hj
        have : f j = (hex j hj).choose := by simp [f, hj]
        rw [this]
        exact (hex j hj).choose_spec
      refine ⟨.agg ((List.range m).map f).toArray, ?_, ?_⟩
      · refine run_loadVar_agg ht b (o' + off) _ (by simp) (fun j v hv => ?_)
        simp only [List.getElem?_map, Option.map_eq_some_iff] at hv
        obtain ⟨j', hj', rfl⟩ := hv
        have hlt : j < m := by
          rcases Nat.lt_or_ge j m with h | h
          · exact h
          · rw [List.getElem?_eq_none (by simpa using h)] at hj'; cases hj'
        have : j' = j := by simp [List.getElem?_range hlt] at hj'; exact hj'.symm
        subst this
        exact (hf j' hlt).1
      · refine .inr (.inr (.inl ⟨_, _, rfl, rfl, by simp; omega, fun j q u hq hu => ?_⟩))
        have hlt : j < m := by
          rcases Nat.lt_or_ge j m with h | h
          · exact h
          · rw [List.getElem?_eq_none (by simp; omega)] at hq; cases hq
        rw [List.getElem?_take, if_pos hlt, List.getElem?_drop] at hq
        simp only [List.getElem?_map, List.getElem?_range hlt, Option.map_some, Option.some.injEq] at hu
        subst hu
        exact (hf j hlt).2 q hq
    · simp at hp
  | false =>
    simp only [takeAgg, Bool.false_eq_true, if_false] at hp
    obtain ⟨u, h1, h2, h3⟩ := hc off p hp
    exact ⟨u, run_loadVar_one ht _ u h1, .inr (.inl h3)⟩

theorem sim_load {agg : Bool} {m : Nat} {x : Operand} {p : PV} {us : List (Nat × Obj)} (h : FR gl ph n B O g s a w) (hd : ∀ t, o.dst = some t → t < n) (hr : Rs P o (.load agg m x))
    (hp : pop (evalIn s.env) s.objs (o.dst.getD 0) (.load agg m x) = some (p, us)) (hk : Owed gl ph n B O g w ⟨put s.env o.dst p, updAll s.objs us⟩ K) : o.wp P a w K Q := by
  obtain ⟨t, ho, ht, hx⟩ := hr
  have ex := h.opnd hx
  have key : ∀ (b o' : Nat) (v : Value), a.eval x = .pointer (some ⟨b, o', none⟩) → (loadVar t ⟨b, o', none⟩).run P w = .ok v w → (execOp a.eval o).run P w = .ok (.value v) w := by
    intro b o' v e1 e2
    simp only [execOp, ho, Instr.loadAt, e1, Instr.sureAddr, Sem.run_bind, Sem.run_pure, Result.andThen_ok, e2]
  simp only [pop] at hp
  split at hp
  · rename_i k st off hu
    rw [hu] at ex
    obtain ⟨_, ad, e1, e2⟩ := ex.ref_inv (by simp [PV.key])
    split at hp
    · rename_i s' cs hob
      split at hp
      · rename_i hs
        subst hs
        simp only [Option.map_eq_some_iff, Prod.mk.injEq] at hp
        obtain ⟨p', hp, rfl, rfl⟩ := hp
        have hO := h.obj k
        rw [hob] at hO
        obtain ⟨arr, T, r1, r2, r3, r4⟩ := hO
        have e3 := e2 cs hob
        obtain ⟨v, hv1, hv2⟩ := XR.of_cells (s := s) (g := g) (w := w) (b := g.blk k) (o' := 0) ht hp (fun j q hq => by
          obtain ⟨u, hu1, hu2, hu3⟩ := r4 j q hq
          exact ⟨u, by rw [Nat.zero_add, cell_of_heap r1]; exact hu1, hu2, hu3⟩)
        rw [Nat.zero_add] at hv1
        exact sim_val h hd (key _ _ v (by rw [e1, e3]) hv1) hv2 hk
      · simp at hp
    · simp at hp
  · rename_i k st i off hu
    rw [hu] at ex
    obtain ⟨_, ad, e1, e2⟩ := ex.ref_inv (by simp [PV.key])
    split at hp
    · rename_i s' e sz es raw hob
      split at hp
      · rename_i hs
        subst hs
        cases hcs : es[i]? with
        | none => simp [hcs] at hp
        | some cs =>
          simp only [hcs, Option.bind_some, Option.map_eq_some_iff, Prod.mk.injEq] at hp
          obtain ⟨p', hp, rfl, rfl⟩ := hp
          have hO := h.obj k
          rw [hob] at hO
          obtain ⟨arr, r1, r2, r3, r4, r5, r6, r7, r8⟩ := hO
          have e3 := e2 e sz es raw hob
          obtain ⟨v, hv1, hv2⟩ := XR.of_cells (s := s) (g := g) (w := w) (b := g.blk k) (o' := i * sz) ht hp (fun j q hq => by
            obtain ⟨u, hu1, hu2, hu3⟩ := r6 i j cs q hcs hq
            exact ⟨u, by rw [cell_of_heap r1]; exact hu1, hu2, .inl hu3⟩)
          exact sim_val h hd (key _ _ v (by rw [e1, e3]) hv1) hv2 hk
      · simp at hp
    · simp at hp
  · rename_i cs off hu
    rw [hu] at ex
    simp only [Option.map_eq_some_iff, Prod.mk.injEq] at hp
    obtain ⟨p', hp, rfl, rfl⟩ := hp
    have e := ex.eptr_inv
    cases he : a.eval x with
    | pointer q =>
      rw [he] at e
      cases e with
      | eptr vals hb hc hcell hci hv =>
        rename_i b o'
        obtain ⟨v, hv1, hv2⟩ := XR.of_cells (s := s) (g := g) (w := w) (b := b) (o' := o') ht hp (fun j q hq => ⟨vals j, hcell j q hq, hci j q hq, .inl (hv j q hq)⟩)
        exact sim_val h hd (key _ _ v he hv1) hv2 hk
    | _ => rw [he] at e; cases e
  · simp at hp

theorem sim_faddr {off' : Nat} {x : Operand} {p : PV} {us : List (Nat × Obj)} (h : FR gl ph n B O g s a w) (hd : ∀ t, o.dst = some t → t < n) (hr : Rs P o (.faddr off' x))
    (hp : pop (evalIn s.env) s.objs (o.dst.getD 0) (.faddr off' x) = some (p, us)) (hk : Owed gl ph n B O g w ⟨put s.env o.dst p, updAll s.objs us⟩ K) : o.wp P a w K Q := by
  obtain ⟨t, fs, kf, f, i, ho, ht, hf, hoff, hi, hne, hx⟩ := hr
  have ex := h.opnd hx
  have key : ∀ ad : Addr, a.eval x = .pointer (some ad) → (execOp a.eval o).run P w = .ok (.value (.pointer (some (ad.add off')))) w := by
    intro ad e1
    simp only [execOp, ho, Instr.fieldAt, Sem.run_bind, run_underlying ht, Result.andThen_ok, hf, e1, Instr.sureAddr, Sem.run_pure, fieldPlace, run_sizeOf hi, hne, if_false, hoff]
  simp only [pop] at hp
  split at hp
  · rename_i k st off hu
    rw [hu] at ex
    cases hp
    obtain ⟨e0, ad, e1, e2⟩ := ex.ref_inv (by simp [PV.key])
    refine sim_val (p := .bptr k st (off + off')) h hd (key ad e1) (.inr (.inl (.inr ⟨e0, _, rfl, fun cs hcs => ?_⟩))) hk
    rw [e2 cs hcs, add_lit]
  · rename_i k st i' off hu
    rw [hu] at ex
    cases hp
    obtain ⟨e0, ad, e1, e2⟩ := ex.ref_inv (by simp [PV.key])
    refine sim_val (p := .kptr k st i' (off + off')) h hd (key ad e1) (.inr (.inl (.inr ⟨e0, _, rfl, fun e sz es raw hcs => ?_⟩))) hk
    rw [e2 e sz es raw hcs, add_lit, Nat.add_assoc]
  · rename_i cs off hu
    rw [hu] at ex
    cases hp
    have e := ex.eptr_inv
    cases he : a.eval x with
    | pointer q =>
      rw [he] at e
      cases e with
      | eptr vals hb hc hcell hci hv =>
        refine sim_val h hd (key _ he) (.inr (.inl (.inl ?_))) hk
        rw [add_lit, Nat.add_assoc]
        exact .eptr vals hb hc hcell hci hv
    | _ => rw [he] at e; cases e
  · simp at hp

theorem sim_fld {agg : Bool} {off m : Nat} {x : Operand} {p : PV} {us : List (Nat × Obj)} (h : FR gl ph n B O g s a w) (hd : ∀ t, o.dst = some t → t < n) (hr : Rs P o (.fld agg off m x))
    (hp : pop (evalIn s.env) s.objs (o.dst.getD 0) (.fld agg off m x) = some (p, us)) (hk : Owed gl ph n B O g w ⟨put s.env o.dst p, updAll s.objs us⟩ K) : o.wp P a w K Q := by
  obtain ⟨t, fs, kf, f, ho, ht, hf, hoff, hty, hx⟩ := hr
  have ex := h.opnd hx
  simp only [pop] at hp
  split at hp
  · rename_i cs hu
    rw [hu] at ex
    simp only [Option.map_eq_some_iff, Prod.mk.injEq] at hp
    obtain ⟨p', hp, rfl, rfl⟩ := hp
    obtain ⟨vs, e1, e2, e3⟩ := ex.agg_inv
    obtain ⟨inf, d, hi, hs, hu', hd', _⟩ := hty
    cases agg with
    | true =>
      simp only [takeAgg, if_true] at hp
      split at hp
      · rename_i hle
        cases hp
        refine sim_val h hd (v := .agg ((vs.drop off).take m).toArray) ?_ (.inr (.inr (.inl ⟨_, _, rfl, rfl, by simp; omega, fun j q u hq hu => ?_⟩))) hk
        · simp only [execOp, ho, Instr.field, Sem.run_bind, run_underlying ht, Result.andThen_ok, hf, e1, asAgg, Sem.run_pure, part, run_isAgg hu', hd', if_true, run_sizeOf hi, hs, hoff]
          simp [List.extract_eq_take_drop]
        · rw [List.getElem?_take] at hq hu
          split at hq
          · rename_i hj
            rw [if_pos hj] at hu
            rw [List.getElem?_drop] at hq hu
            exact e3 _ q u hq hu
          · cases hq
      · simp at hp
    | false =>
      simp only [takeAgg, Bool.false_eq_true, if_false] at hp
      have hlt : off < vs.length := by have := (List.getElem?_eq_some_iff.1 hp).1; omega
      have hv : vs[off]? = some vs[off] := List.getElem?_eq_getElem hlt
      refine sim_val h hd (v := vs[off]) ?_ (.inr (.inl (e3 off p' _ hp hv).2)) hk
      simp only [execOp, ho, Instr.field, Sem.run_bind, run_underlying ht, Result.andThen_ok, hf, e1, asAgg, Sem.run_pure, part, run_isAgg hu', hd', Bool.false_eq_true, if_false, hoff]
      simp [hlt]
  · simp at hp

theorem sim_sidx {x i : Operand} {p : PV} {us : List (Nat × Obj)} (h : FR gl ph n B O g s a w) (hd : ∀ t, o.dst = some t → t < n) (hr : Rs P o (.sidx x i))
    (hp : pop (evalIn s.env) s.objs (o.dst.getD 0) (.sidx x i) = some (p, us)) (hk : Owed gl ph n B O g w ⟨put s.env o.dst p, updAll s.objs us⟩ K) : o.wp P a w K Q := by
  obtain ⟨t, ho, ht, hx, hi⟩ := hr
  have ex := h.opnd hx
  have ei := h.opnd hi
  simp only [pop] at hp
  split at hp
  · rename_i str k m hu hv
    rw [hu] at ex
    rw [hv] at ei
    split at hp
    · rename_i hm
      simp only [Option.map_eq_some_iff, Prod.mk.injEq] at hp
      obtain ⟨b, hb, rfl, rfl⟩ := hp
      have hlt : m.toNat < str.size := by
        have := (List.getElem?_eq_some_iff.1 hb).1
        simpa using this
      have hbb : str[m.toNat] = b := by
        have := (List.getElem?_eq_some_iff.1 hb).2
        simp at this
        exact this
      refine sim_val h hd (v := .int .u8 b.toNat) ?_ (.sc rfl) hk
      have hr := run_index_string (P := P) w t str k m ht
      rw [dif_pos ⟨hm, by omega⟩, hbb] at hr
      simp only [execOp, ho, ex.sc_inv.1, ei.sc_inv.1, Sem.run_bind, hr, Result.andThen_ok, Sem.run_pure]
    · simp at hp
  · simp at hp

theorem sim_iaddr {sz : Nat} {x i : Operand} {p : PV} {us : List (Nat × Obj)} (h : FR gl ph n B O g s a w) (hd : ∀ t, o.dst = some t → t < n) (hr : Rs P o (.iaddr sz x i))
    (hp : pop (evalIn s.env) s.objs (o.dst.getD 0) (.iaddr sz x i) = some (p, us)) (hk : Owed gl ph n B O g w ⟨put s.env o.dst p, updAll s.objs us⟩ K) : o.wp P a w K Q := by
  obtain ⟨t, e, inf, ho, ht, hinf, hsz, hx, hi⟩ := hr
  have ex := h.opnd hx
  have ei := h.opnd hi
  have key : ∀ (k : IntKind) (m : Int) (ad : Addr) (len cap : Nat), a.eval i = .int k m → a.eval x = .slice (some ad) len cap → 0 ≤ m → m < len →
      (execOp a.eval o).run P w = .ok (.value (.pointer (some (ad.add (m.toNat * sz))))) w := by
    intro k m ad len cap e1 e2 h0 h1
    simp [execOp, ho, Instr.indexAt, e1, asIntOf, run_underlying ht, e2, h0, h1, run_sizeOf hinf, hsz]
  simp only [pop] at hp
  split at hp
  · rename_i sz' es k m hu hv
    rw [hu] at ex
    rw [hv] at ei
    split at hp
    · rename_i hm
      obtain ⟨hss, hm⟩ := hm
      subst hss
      simp only [Option.map_eq_some_iff, Prod.mk.injEq] at hp
      obtain ⟨cs, hcs, rfl, rfl⟩ := hp
      have e1 := ex.lst_inv
      have hlt : m.toNat < es.length := (List.getElem?_eq_some_iff.1 hcs).1
      cases he : a.eval x with
      | slice q l c =>
        rw [he] at e1
        cases e1 with
        | lst vals hcap hm' hb hc hsz' hcell hci hv' =>
          rename_i b o'
          refine sim_val h hd (key k m _ _ _ ei.sc_inv.1 he hm (by omega)) (.inr (.inl (.inl ?_))) hk
          rw [add_lit]
          have hl := hsz' _ _ hcs
          have h3 : (m.toNat + 1) * sz' ≤ es.length * sz' := Nat.mul_le_mul_right sz' hlt
          rw [Nat.add_mul, Nat.one_mul] at h3
          have h4 := hc (by omega)
          refine VR.eptr (o := o' + m.toNat * sz') (off := 0) (vals m.toNat) hb (by omega) (fun j p hj => ?_) (fun j p hj => hci _ _ _ _ hcs hj) (fun j p hj => hv' _ _ _ _ hcs hj)
          rw [Nat.add_assoc]
          exact hcell _ _ _ _ hcs hj
      | _ => rw [he] at e1; cases e1
    · simp at hp
  · rename_i k st off len kk m hu hv
    rw [hu] at ex
    rw [hv] at ei
    split at hp
    · rename_i s' e' sz' es raw hob
      split at hp
      · rename_i hc
        obtain ⟨hs, hss, h0, h1⟩ := hc
        subst hs
        subst hss
        cases hp
        obtain ⟨e0, b, o', cap, e1, e2, e3, e4⟩ := ex.ref_inv (by simp [PV.key])
        obtain ⟨f1, f2, f3, f4⟩ := e4 _ _ _ _ hob
        refine sim_val (p := .kptr k st (off + m.toNat) 0) h hd (key kk m _ _ _ ei.sc_inv.1 e1 h0 h1) (.inr (.inl (.inr ⟨e0, _, rfl, fun e'' sz'' es'' raw'' hob' => ?_⟩))) hk
        rw [hob] at hob'
        cases hob'
        rw [add_lit, f2, f3 (.inl (by omega)), Nat.add_zero, Nat.add_mul]
      · simp at hp
    · simp at hp
  · simp at hp

theorem sim_isnil {neg : Bool} {x : Operand} {p : PV} {us : List (Nat × Obj)} (h : FR gl ph n B O g s a w) (hd : ∀ t, o.dst = some t → t < n) (hr : Rs P o (.isnil neg x))
    (hp : pop (evalIn s.env) s.objs (o.dst.getD 0) (.isnil neg x) = some (p, us)) (hk : Owed gl ph n B O g w ⟨put s.env o.dst p, updAll s.objs us⟩ K) : o.wp P a w K Q := by
  obtain ⟨t, yt, e, ho, ht, hx⟩ := hr
  have ex := h.opnd hx
  have key : ∀ (q : Option Addr) (l c : Nat), a.eval x = .slice q l c → (execOp a.eval o).run P w = .ok (.value (.bool (xor neg q.isNone))) w := by
    intro q l c e1
    have e2 : a.eval (.const (.slice none 0 0)) = .slice none 0 0 := rfl
    cases neg
    · simp only [eqOp, Bool.false_eq_true, if_false] at ho
      have h1 := Lib.run_eql_slice_nil (P := P) w t e q l c 0 0 ht
      simp only [execOp, ho, e1, e2, eqGuard, Sem.run_bind, Sem.run_pure]
      simp
      rw [h1]; simp
    · simp only [eqOp, if_true] at ho
      have h1 := run_neq_slice_nil_any (P := P) w t e q l c 0 0 ht
      simp only [execOp, ho, e1, e2, eqGuard, Sem.run_bind, Sem.run_pure]
      simp
      rw [h1]; simp
  simp only [pop] at hp
  split at hp
  · rename_i hu
    rw [hu] at ex
    cases hp
    have := key _ _ _ ex.sc_inv.1
    refine sim_val h hd (v := .bool !neg) (by rw [this]; cases neg <;> rfl) (.sc rfl) hk
  · rename_i sz es hu
    rw [hu] at ex
    cases hp
    have e1 := ex.lst_inv
    cases he : a.eval x with
    | slice q l c =>
      rw [he] at e1
      cases e1
      have := key _ _ _ he
      refine sim_val h hd (v := .bool neg) (by rw [this]; cases neg <;> rfl) (.sc rfl) hk
    | _ => rw [he] at e1; cases e1
  · rename_i hu
    rw [hu] at ex
    cases hp
    obtain ⟨_, b, o', cap, e1, _⟩ := ex.ref_inv (by simp [PV.key])
    have := key _ _ _ e1
    refine sim_val h hd (v := .bool neg) (by rw [this]; cases neg <;> rfl) (.sc rfl) hk
  · simp at hp
end
end Go.Pf

/- Pure frames, part G: comparing names, cutting strings and slices, bytes to a string, composite values: they do what the pure ones say. -/
import Derived.Test.YthiipifjdfmblaaGreatDoorPfF
set_option linter.unusedVariables false
set_option linter.unusedSimpArgs false
namespace Go.Pf
open Go.RowKit

section
variable {P : Program} {n B : Nat} {O : Option Nat} {gl : Gl} {ph : Option (Nat × Value)} {g : Gh} {s : St} {a : Act} {w : World} {o : Oper} {K : Act → World → Prop} {Q : Exit → Act → World → Prop}

theorem run_eqNames {t : TypeId} {f1 f2 : Field} (ht : P.underlying t = some (.struct #[f1, f2])) (n1 : f1.name ≠ "_") (n2 : f2.name ≠ "_") (o1 : f1.offset = 0) (o2 : f2.offset = 1)
    (u1 : P.underlying f1.type = some .string) (u2 : P.underlying f2.type = some .string) (hp : P.stoodInHeld t = false) (x1 x2 y1 y2 : ByteArray) :
    (Op.equalIn 10000 t (.agg #[.string x1, .string x2]) (.agg #[.string y1, .string y2])).run P w = .ok (x1.toList == y1.toList && x2.toList == y2.toList) w := by
  have hf : P.fieldsOf t = #[f1, f2] := by simp [Program.fieldsOf, ht]
  rw [run_equalIn_struct (P := P) w 9999 t _ _ (by rw [hf]; exact ht) hp, hf]
  have a1 : (Op.equalIn 9999 f1.type (.string x1) (.string y1)).run P w = .ok (x1.toList == y1.toList) w := run_equalIn_string (P := P) w 9998 f1.type x1 y1 u1
  have a2 : (Op.equalIn 9999 f2.type (.string x2) (.string y2)).run P w = .ok (x2.toList == y2.toList) w := run_equalIn_string (P := P) w 9998 f2.type x2 y2 u2
  have p1 : ∀ v1 v2 : Value, (part f1.type #[v1, v2] f1.offset).run P w = .ok v1 w := by intro v1 v2; simp [part, run_isAgg u1, aggD, o1]
  have p2 : ∀ v1 v2 : Value, (part f2.type #[v1, v2] f2.offset).run P w = .ok v2 w := by intro v1 v2; simp [part, run_isAgg u2, aggD, o2]
  simp only [Op.eqFields, ne_eq, n1, n2, not_false_eq_true, if_true, Sem.run_bind, p1, Result.andThen_ok, a1]
  cases x1.toList == y1.toList
  · simp
  · simp only [Bool.not_true, Bool.false_eq_true, if_false, Sem.run_bind, p2, Result.andThen_ok, a2, Bool.true_and]
    cases x2.toList == y2.toList <;> simp

theorem sim_eqs {neg : Bool} {x y : Operand} {p : PV} {us : List (Nat × Obj)} (h : FR gl ph n B O g s a w) (hd : ∀ t, o.dst = some t → t < n) (hr : Rs P o (.eqs neg x y))
    (hp : pop (evalIn s.env) s.objs (o.dst.getD 0) (.eqs neg x y) = some (p, us)) (hk : Owed gl ph n B O g w ⟨put s.env o.dst p, updAll s.objs us⟩ K) : o.wp P a w K Q := by
  obtain ⟨t, yt, f1, f2, ho, ht, n1, n2, o1, o2, u1, u2, hst, hg, hx, hy⟩ := hr
  have ex := h.opnd hx
  have ey := h.opnd hy
  have two : ∀ {q : PV} {v : Value} {b1 b2 : ByteArray}, q = .agg [.sc (.string b1), .sc (.string b2)] → XR g w s.objs q v → v = .agg #[.string b1, .string b2] := by
    intro q v b1 b2 hq hx
    subst hq
    obtain ⟨vs, rfl, hl, hv⟩ := hx.agg_inv
    match vs, hl with
    | [v1, v2], _ =>
      have a1 := (hv 0 _ v1 rfl rfl).2
      have a2 := (hv 1 _ v2 rfl rfl).2
      have b1' := (XR.sc_inv (.inr (.inl a1))).1
      have b2' := (XR.sc_inv (.inr (.inl a2))).1
      rw [b1', b2']
  simp only [pop] at hp
  split at hp
  · rename_i x1 x2 y1 y2 hu hv
    rw [hu] at ex
    rw [hv] at ey
    cases hp
    have e1 := two rfl ex
    have e2 := two rfl ey
    have hrun := run_eqNames (P := P) (w := w) ht n1 n2 o1 o2 u1 u2 hst x1 x2 y1 y2
    refine sim_val h hd (v := .bool (xor neg (x1.toList == y1.toList && x2.toList == y2.toList))) ?_ (.sc rfl) hk
    cases neg
    · simp only [eqOp, Bool.false_eq_true, if_false] at ho
      simp only [execOp, ho, e1, e2, Sem.run_bind, run_eqGuard_agg w .eql t x y _ _ hg, Result.andThen_ok, run_eql_struct, hrun, Sem.run_pure]
      simp
    · simp only [eqOp, if_true] at ho
      simp only [execOp, ho, e1, e2, Sem.run_bind, run_eqGuard_agg w .neq t x y _ _ hg, Result.andThen_ok, run_neq_struct, hrun, Sem.run_pure]
      simp
  · simp at hp

/-- A bound of a slice expression. -/
def BV (dflt : Nat) (ov : Option Value) (m : Nat) : Prop := (ov = none ∧ m = dflt) ∨ ∃ k i, ov = some (.int k i) ∧ 0 ≤ i ∧ m = i.toNat

theorem FR.bv (h : FR gl ph n B O g s a w) {dflt m : Nat} {ox : Option Operand} (hx : (optL ox).all opndOk = true) (hb : bound (evalIn s.env) dflt ox = some m) : BV dflt (ox.map a.eval) m := by
  cases ox with
  | none => simp only [bound, Option.some.injEq] at hb; exact .inl ⟨rfl, hb.symm⟩
  | some x =>
    have hx' : opndOk x = true := by simpa [optL] using hx
    have e := h.opnd hx'
    simp only [bound] at hb
    split at hb
    · rename_i k i hu
      rw [hu] at e
      split at hb
      · rename_i h0
        cases hb
        exact .inr ⟨k, i, by simp [e.sc_inv.1], h0, rfl⟩
      · simp at hb
    · simp at hb

theorem run_bounds (b : Bool) (len cap : Nat) (lo hi : Option Value) (l r : Nat) (hl : BV 0 lo l) (hr : BV len hi r) (h1 : l ≤ r) (h2 : r ≤ cap) :
    (Instr.sliceBounds b len cap lo hi none).run P w = .ok (l, r, cap) w := by
  have hh : ∀ (code : BoundsCode) (k : IntKind) (i : Int) (y : Nat), 0 ≤ i → i.toNat ≤ y → (Instr.sliceBound (.int k i) y code).run P w = .ok i.toNat w := by
    intro code k i y h0 hy
    exact run_sliceBound w k i y code h0 (by omega)
  rcases hl with ⟨rfl, rfl⟩ | ⟨k, i, rfl, hi0, rfl⟩ <;> rcases hr with ⟨rfl, rfl⟩ | ⟨k', i', rfl, hi0', rfl⟩
  · simp [Instr.sliceBounds]
  · simp [Instr.sliceBounds, hh _ k' i' cap hi0' h2]
  · simp [Instr.sliceBounds, hh _ k i r hi0 h1]
  · simp [Instr.sliceBounds, hh _ k' i' cap hi0' h2, hh _ k i i'.toNat hi0 h1]

theorem sim_sslice {x : Operand} {lo hi : Option Operand} {p : PV} {us : List (Nat × Obj)} (h : FR gl ph n B O g s a w) (hd : ∀ t, o.dst = some t → t < n) (hr : Rs P o (.sslice x lo hi))
    (hp : pop (evalIn s.env) s.objs (o.dst.getD 0) (.sslice x lo hi) = some (p, us)) (hk : Owed gl ph n B O g w ⟨put s.env o.dst p, updAll s.objs us⟩ K) : o.wp P a w K Q := by
  obtain ⟨t, ho, ht, hx, hlh⟩ := hr
  have ex := h.opnd hx
  simp only [List.all_append, Bool.and_eq_true] at hlh
  simp only [pop] at hp
  split at hp
  · rename_i str hu
    rw [hu] at ex
    split at hp
    · rename_i l r hl hr
      split at hp
      · rename_i hle
        cases hp
        refine sim_val h hd (v := .string (str.extract l r)) ?_ (.sc rfl) hk
        have hb := run_bounds (P := P) (w := w) false str.size str.size _ _ l r (h.bv hlh.1 hl) (h.bv hlh.2 hr) hle.1 hle.2
        simp only [execOp, ho, ex.sc_inv.1, Option.map_none, Sem.run_bind, run_sliceAt_string w t _ _ _ _ ht, Instr.slice, run_underlying ht, Result.andThen_ok]
        simp
        rw [hb]; simp
      · simp at hp
    · simp at hp
  · simp at hp

theorem sim_slc {sz : Nat} {x : Operand} {lo hi : Option Operand} {p : PV} {us : List (Nat × Obj)} (h : FR gl ph n B O g s a w) (hd : ∀ t, o.dst = some t → t < n) (hr : Rs P o (.slc sz x lo hi))
    (hp : pop (evalIn s.env) s.objs (o.dst.getD 0) (.slc sz x lo hi) = some (p, us)) (hk : Owed gl ph n B O g w ⟨put s.env o.dst p, updAll s.objs us⟩ K) : o.wp P a w K Q := by
  obtain ⟨t, e, i, ho, ht, hi', hsz, hx, hlh⟩ := hr
  have ex := h.opnd hx
  simp only [List.all_append, Bool.and_eq_true] at hlh
  have key : ∀ (q : Option Addr) (len cap l r : Nat), a.eval x = .slice q len cap → BV 0 (lo.map a.eval) l → BV len (hi.map a.eval) r → l ≤ r → r ≤ cap →
      (execOp a.eval o).run P w = .ok (.value (.slice (if cap = l then q else q.map (·.add (l * sz))) (r - l) (cap - l))) w := by
    intro q len cap l r e1 h1 h2 h3 h4
    have hb := run_bounds (P := P) (w := w) true len cap _ _ l r h1 h2 h3 h4
    simp only [execOp, ho, e1, Option.map_none, Instr.sliceAt, Instr.slice, Sem.run_bind, run_underlying ht, Result.andThen_ok, hb, run_sizeOf hi', hsz, Sem.run_pure]
  simp only [pop] at hp
  split at hp
  · rename_i sz' es hu
    rw [hu] at ex
    split at hp
    · rename_i l r hl hr
      split at hp
      · rename_i hle
        obtain ⟨rfl, hlr, hre⟩ := hle
        cases hp
        have e1 := ex.lst_inv
        cases he : a.eval x with
        | slice q l' c =>
          rw [he] at e1
          cases e1 with
          | lst vals hcap hm hb hc hsz' hcell hci hv =>
            rename_i b o'
            have hlen : ((es.drop l).take (r - l)).length = r - l := by simp; omega
            have hget : ∀ (k : Nat) (cs : List PV), ((es.drop l).take (r - l))[k]? = some cs → es[l + k]? = some cs ∧ k < r - l := by
              intro k cs hk'
              rw [List.getElem?_take] at hk'
              split at hk'
              · rename_i hlt; rw [List.getElem?_drop] at hk'; exact ⟨hk', hlt⟩
              · cases hk'
            refine sim_val h hd (key _ _ _ l r he (h.bv hlh.1 hl) (h.bv hlh.2 hr) hlr (by omega)) (.inr (.inl (.inl ?_))) hk
            by_cases hcl : c = l
            · rw [if_pos hcl]
              have hz : r - l = 0 := by omega
              have hnil : (es.drop l).take (r - l) = [] := by rw [hz]; simp
              rw [hnil]
              have : (PV.lst sz' []) = .lst sz' [] := rfl
              have hrl : r - l = ([] : List (List PV)).length := by simpa using hz
              rw [hrl]
              exact .lst (fun _ _ => undef) (by simp) (by omega) hb (by simp) (by simp) (by simp) (by simp) (by simp)
            · rw [if_neg hcl]
              simp only [Option.map_some, add_lit]
              have hgoal : VR g.c w (.lst sz' ((es.drop l).take (r - l))) (.slice (some ⟨b, o' + l * sz', none⟩) ((es.drop l).take (r - l)).length (c - l)) := by
                refine .lst (fun k j => vals (l + k) j) (by omega) (by omega) hb (fun hpos => ?_) (fun k cs hk' => hsz' _ _ (hget k cs hk').1) (fun k j cs q hk' hj => ?_) (fun k j cs q hk' hj => hci _ _ _ _ (hget k cs hk').1 hj) (fun k j cs q hk' hj => hv _ _ _ _ (hget k cs hk').1 hj)
                · have h5 := hc (by omega)
                  rw [hlen]
                  have h6 : (l + (r - l)) * sz' ≤ es.length * sz' := Nat.mul_le_mul_right _ (by omega)
                  rw [Nat.add_mul] at h6
                  omega
                · have := hcell (l + k) j cs q (hget k cs hk').1 hj
                  rw [Nat.add_mul] at this
                  rw [show o' + l * sz' + (k * sz' + j) = o' + (l * sz' + k * sz' + j) by omega]
                  exact this
              rw [hlen] at hgoal
              exact hgoal
        | _ => rw [he] at e1; cases e1
      · simp at hp
    · simp at hp
  · rename_i k st off len hu
    rw [hu] at ex
    split at hp
    · rename_i l r s' e' sz' es raw hl hr hob
      split at hp
      · rename_i hc
        obtain ⟨hs, hss, hlr, hrl⟩ := hc
        subst hs
        subst hss
        cases hp
        obtain ⟨e0, b, o', cap, e1, e2, e3, e4⟩ := ex.ref_inv (by simp [PV.key])
        obtain ⟨f1, f2, f3, f4⟩ := e4 _ _ _ _ hob
        have hrun := key _ _ _ l r e1 (h.bv hlh.1 hl) (h.bv hlh.2 hr) hlr (by omega)
        by_cases hcl : cap = l
        · rw [if_pos hcl] at hrun
          refine sim_val (p := .bld k st (off + l) (r - l)) h hd hrun (.inr (.inl (.inr ⟨e0, b, o', cap - l, rfl, by omega, by omega, fun e'' sz'' es'' raw'' hob' => ?_⟩))) hk
          rw [hob] at hob'
          cases hob'
          refine ⟨by omega, f2, fun hh => ?_, fun hh => ?_⟩
          · rcases hh with hh | hh
            · omega
            · have h1 : off = 0 := by omega
              have h2 : l = 0 := by omega
              subst h1; subst h2
              exact f3 (.inr rfl)
          · have h1 : off = 0 := by omega
            have h2 : l = 0 := by omega
            subst h2
            simpa using f4 h1
        · rw [if_neg hcl] at hrun
          simp only [Option.map_some, add_lit] at hrun
          refine sim_val (p := .bld k st (off + l) (r - l)) h hd hrun (.inr (.inl (.inr ⟨e0, b, o' + l * sz', cap - l, rfl, by omega, by omega, fun e'' sz'' es'' raw'' hob' => ?_⟩))) hk
          rw [hob] at hob'
          cases hob'
          refine ⟨by omega, f2, fun hh => ?_, fun hh => ?_⟩
          · have ho' : o' = off * sz' := by
              rcases hh with hh | hh
              · exact f3 (.inl (by omega))
              · exact f3 (.inr (by omega))
            rw [ho', Nat.add_mul]
          · have h1 : off = 0 := by omega
            have h2 : l = 0 := by omega
            subst h2
            simpa using f4 h1
      · simp at hp
    · simp at hp
  · rename_i hu
    rw [hu] at ex
    split at hp
    · rename_i hl hr
      cases hp
      have e1 := ex.sc_inv.1
      have hrun := key _ _ _ 0 0 e1 (h.bv hlh.1 hl) (h.bv hlh.2 hr) (Nat.le_refl _) (Nat.le_refl _)
      exact sim_val h hd hrun (.sc rfl) hk
    · simp at hp
  · simp at hp
end
end Go.Pf

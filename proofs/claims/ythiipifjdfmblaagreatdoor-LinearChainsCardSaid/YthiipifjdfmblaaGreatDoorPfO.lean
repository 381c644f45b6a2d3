/- Pure frames, part O: calls that are handed a slice to write in place, or to keep. -/
import Derived.Test.YthiipifjdfmblaaGreatDoorPfN
set_option linter.unusedVariables false
set_option linter.unusedSimpArgs false
namespace Go.Pf
open Go.RowKit

theorem updAll_ne : ∀ (us : List (Nat × Obj)) (f : Nat → Obj) (k : Nat), (∀ u ∈ us, u.1 ≠ k) → updAll f us k = f k
  | [], _, _, _ => rfl
  | (k', x) :: r, f, k, h => by
    simp only [updAll]
    rw [updAll_ne r _ k (fun u hu => h u (by simp [hu])), upd_ne _ _ (fun e => h (k', x) (by simp) e.symm)]

theorem shareCell_keys {ob : Nat → Obj} {p : PV} {u : Nat × Obj} (h : u ∈ shareCell ob p) : u.1 ∈ p.key := by
  cases p with
  | bld k s off len =>
    simp only [shareCell] at h
    split at h
    · simp at h; subst h; simp [PV.key]
    · simp at h
  | _ => simp [shareCell] at h

theorem shareVal_keys {ob : Nat → Obj} {p : PV} {u : Nat × Obj} (h : u ∈ shareVal ob p) : u.1 ∈ p.keys := by
  cases p with
  | agg cs =>
    simp only [shareVal, List.mem_flatMap] at h
    obtain ⟨q, hq, hu⟩ := h
    simp only [PV.keys, List.mem_flatMap]
    exact ⟨q, hq, shareCell_keys hu⟩
  | bld k s off len => exact shareCell_keys (p := .bld k s off len) h
  | _ => simp [shareVal, shareCell] at h

section
variable {P : Program} {n B : Nat} {O : Option Nat} {gl : Gl} {ph : Option (Nat × Value)} {g : Gh} {s : St} {a : Act} {w w' : World} {o : Oper} {K : Act → World → Prop} {Q : Exit → Act → World → Prop}

/-- Behind a call that was handed the slice of the object k. -/
theorem FR.calledOwn (h : FR gl ph n B O g s a w) {k st e sz : Nat} {es : List (List PV)} (hob : s.objs k = .bld st e sz es true) {c' : Nat → Nat} {w' : World} (hP : Pres g.c w c' w' (some (g.blk k))) (x : Obj)
    (hx : x.stamp = st) (hbox : ∀ cs, x ≠ .box st cs) (hbld : ∀ e' sz' es' raw', x = .bld st e' sz' es' raw' → e' = e ∧ sz' = sz ∧ es.length ≤ es'.length)
    (hobj : x.live → ObjR ⟨c', g.blk, g.cap⟩ w' (upd s.objs k x) k x) :
    FR gl ph n B O ⟨c', g.blk, g.cap⟩ ⟨s.env, upd s.objs k x⟩ a w' ∧ PB B O g.c w c' w' := by
  have hlive : (s.objs k).live := by rw [hob]; trivial
  have hc0 : g.c (g.blk k) = 0 := by
    have := h.obj k
    rw [hob] at this
    obtain ⟨_, _, _, _, _, _, _, r7, _⟩ := this
    exact r7 rfl
  have hE : Ext g.c w c' w' := by
    refine ⟨hP.size, fun b hb => ?_, fun b i hb hi => ?_⟩
    · by_cases e1 : b = g.blk k
      · subst e1; omega
      · rw [hP.c b hb (by simpa using fun x => e1 x.symm)]; exact Nat.le_refl _
    · by_cases e1 : b = g.blk k
      · subst e1; omega
      · simp only [World.cell?, hP.block b hb (by simpa using fun x => e1 x.symm)]
  have hS : ObStep g s.objs ⟨c', g.blk, g.cap⟩ (upd s.objs k x) := by
    intro k'
    by_cases hk : k' = k
    · subst hk
      rw [upd_same, hob]
      refine ⟨by rw [hx]; exact Nat.le_refl _, fun cs hc => absurd hc (hbox cs), fun e' sz' es' raw' hc => ?_⟩
      obtain ⟨rfl, rfl, hl⟩ := hbld _ _ _ _ hc
      exact ⟨⟨es, true, rfl, hl⟩, rfl, rfl⟩
    · rw [upd_ne _ _ hk]
      exact ⟨Nat.le_refl _, fun cs hc => ⟨⟨cs, hc⟩, rfl⟩, fun _ _ es raw hc => ⟨⟨es, raw, hc, Nat.le_refl _⟩, rfl, rfl⟩⟩
  refine ⟨h.pass (g' := ⟨c', g.blk, g.cap⟩) (upd s.objs k x) (· = k) hE hS (fun k' hk' => upd_ne _ _ hk') (fun k' hk' hl' => ?_) (fun k' hk' hl' => ?_), ⟨hP.os, hP.tape, hP.output, hP.size, fun b hb hO => hP.block b ?_ ?_, fun b hb hO => hP.c b ?_ ?_⟩⟩
  · have hne : g.blk k ≠ g.blk k' := fun e => hk' (h.inj k k' hlive hl' e).symm
    have hb := (h.fresh k' hl').2
    exact ⟨rfl, rfl, hP.c _ hb (by simpa using hne), hP.block _ hb (by simpa using hne)⟩
  · subst hk'
    rw [upd_same] at hl'
    refine ⟨by rw [upd_same]; exact hobj hl', (h.fresh k' hlive).1, Nat.lt_of_lt_of_le (h.fresh k' hlive).2 hP.size, fun k2 hk2 hl2 => ?_⟩
    rw [upd_ne _ _ hk2] at hl2
    exact fun e => hk2 (h.inj k2 k' hl2 hlive e)
  all_goals have hbase := h.base
  · omega
  · intro e1
    have e2 : g.blk k = b := by simpa using e1
    rcases (h.fresh k hlive).1 with h1 | h1
    · omega
    · rw [e2] at h1; exact hO h1
  · omega
  · intro e1
    have e2 : g.blk k = b := by simpa using e1
    rcases (h.fresh k hlive).1 with h1 | h1
    · omega
    · rw [e2] at h1; exact hO h1

theorem sim_call_own {f : Operand} {args : List Operand} {modes : List Mode} {fid : FuncId} {x y : Array Value} {ps : List PV} {us : List (Nat × Obj)} {res : PV} {out : List (List PV)} (h : FR gl ph n B O g s a w) (hd : ∀ t, o.dst = some t → t < n)
    (hr : Rs P o (.call f args modes)) (hf : evalIn s.env f = .sc (.func (.func fid) x y)) (hm : headMode modes ≠ .imm) (hprep : prep (evalIn s.env) s.objs (headMode modes) args = some (ps, us))
    (hRC : RC gl P fid (headMode modes) ps res out)
    (hk : Owed gl ph n B O g w ⟨put s.env o.dst (Pf.adopt s.objs (o.dst.getD 0) res).1, updAll s.objs (us ++ outUpd s.objs (headMode modes) (firstOf (evalIn s.env) args) out ++ (Pf.adopt s.objs (o.dst.getD 0) res).2)⟩ K) : o.wp P a w K Q := by
  obtain ⟨ts, ho, hfo, hargs⟩ := hr
  have ef := h.opnd hfo
  rw [hf] at ef
  obtain ⟨ef1, ef2⟩ := ef.sc_inv
  obtain ⟨rfl, rfl⟩ := func_inv ef2
  obtain ⟨hen, hcall⟩ := hRC
  generalize headMode modes = m at *
  match args, hprep with
  | [], hprep => cases m <;> simp [prep] at hprep; exact absurd rfl hm
  | x0 :: xs, hprep =>
    simp only [List.all_cons, Bool.and_eq_true] at hargs
    obtain ⟨q, qs, hq, hqs, hkeys, rfl, rfl⟩ : ∃ q qs, ownArg s.objs (evalIn s.env x0) = some q ∧ pureVals (evalIn s.env) s.objs xs = some qs ∧
        (evalIn s.env x0).keys.all (fun k => !(xs.any fun y => (evalIn s.env y).keys.contains k)) = true ∧ ps = q :: qs ∧ us = xs.flatMap fun y => shareVal s.objs (evalIn s.env y) := by
      cases m with
      | imm => exact absurd rfl hm
      | inout =>
        simp only [prep] at hprep
        split at hprep
        · rename_i q qs h1 h2
          split at hprep
          · rename_i h3; cases hprep; exact ⟨q, qs, h1, h2, h3, rfl, rfl⟩
          · simp at hprep
        · simp at hprep
      | eat =>
        simp only [prep] at hprep
        split at hprep
        · rename_i q qs h1 h2
          split at hprep
          · rename_i h3; cases hprep; exact ⟨q, qs, h1, h2, h3, rfl, rfl⟩
          · simp at hprep
        · simp at hprep
    obtain ⟨g1, F1, PB1, E1, S1, L1, V1⟩ := FR.shareOpnds xs qs g s h (Sh.refl _) hargs.2 hqs
    have ex0 := F1.opnd hargs.1
    have hrun := run_call (P := P) (w := w) ho ef1 hen
    simp only [firstOf] at hk
    have hV : ∀ (j : Nat) (q : PV) (u : Value), qs[j]? = some q → (xs.map a.eval)[j]? = some u → VR g1.c w q u := by
      intro j q u hq hu
      simp only [List.getElem?_map, Option.map_eq_some_iff] at hu
      obtain ⟨x, hx, rfl⟩ := hu
      exact V1 j q x hq hx
    unfold ownArg at hq
    split at hq
    · rename_i hx0
      cases hq
      change XR g1 w _ (evalIn s.env x0) _ at ex0
      rw [hx0] at ex0
      have e0 := ex0.sc_inv
      have hV' : ∀ (j : Nat) (q : PV) (u : Value), (nils :: qs)[j]? = some q → ((x0 :: xs).map a.eval)[j]? = some u → VR g1.c w q u := by
        intro j q u hq hu
        cases j with
        | zero => simp at hq hu; subst hq; subst hu; rw [e0.1]; exact .sc rfl
        | succ j => exact hV j q u (by simpa using hq) (by simpa using hu)
      have hblk := ownBlk_none hV'
      refine wp_enter hrun ((hcall g1.c w ((x0 :: xs).map a.eval) F1.glob ⟨by simp [L1], fun j q u hq hu => ArgR.of_VR (hV' j q u hq hu)⟩).mono ?_)
      rintro e w2 ⟨v, c', rfl, hP, hR, _⟩
      refine ⟨v, rfl, ?_⟩
      rw [hblk] at hP
      obtain ⟨F2, PB2, E2⟩ := F1.called hP
      obtain ⟨g3, F3, hc3⟩ := F2.finish (ob0 := s.objs) (fun k => S1.stamp k) hd hR (fun b hb => by
        rcases hb with hb | ⟨_, hb⟩
        · refine ⟨.inl (Nat.le_trans h.base hb), fun k hl e => ?_⟩
          have := (F1.fresh k hl).2
          have e' : g1.blk k = b := e
          omega
        · rw [hblk] at hb; cases hb)
      refine hk g3 _ w2 ?_ (PB1.trans (by rw [hc3]; exact PB2))
      have hout : outUpd s.objs m (evalIn s.env x0) out = [] := by rw [hx0]; cases m <;> rfl
      rw [hout]
      simp only [List.append_nil, updAll_append]
      exact F3
    · rename_i k st len hx0
      split at hq
      · rename_i st' e sz es hob
        split at hq
        · rename_i hc
          obtain ⟨rfl, rfl⟩ := hc
          cases hq
          change XR g1 w _ (evalIn s.env x0) _ at ex0
          rw [hx0] at ex0 hkeys
          simp only [PV.keys, PV.key, List.all_cons, List.all_nil, Bool.and_true, Bool.not_eq_true', List.any_eq_false, List.contains_eq_mem, decide_eq_true_eq] at hkeys
          have hob1 : updAll s.objs (xs.flatMap fun y => shareVal s.objs (evalIn s.env y)) k = .bld st e sz es true := by
            rw [updAll_ne _ _ _ (fun u hu => ?_), hob]
            simp only [List.mem_flatMap] at hu
            obtain ⟨y, hy, hu⟩ := hu
            intro e1
            subst e1
            exact hkeys y hy (shareVal_keys hu)
          obtain ⟨_, b, o', cap, e1, hlc, hcm, e4⟩ := ex0.ref_inv (by simp [PV.key])
          obtain ⟨f1, f2, f3, f4⟩ := e4 _ _ _ _ hob1
          have ho' : o' = 0 := by rw [f3 (.inr rfl)]; simp
          have hcap := f4 rfl
          subst f2
          subst ho'
          subst hcap
          have hO := F1.obj k
          change ObjR g1 w _ k (updAll s.objs (xs.flatMap fun y => shareVal s.objs (evalIn s.env y)) k) at hO
          rw [hob1] at hO
          obtain ⟨arr, r1, r2, r3, r4, r5, r6, r7, r8⟩ := hO
          have hown : OwnR g1.c w (a.eval x0) e sz true es := ⟨g1.blk k, g1.cap k, arr, e1, r1, r2, r3, r4, r5, r6, r7, r8⟩
          have hblk : ownBlk (.own e sz true es :: qs) ((x0 :: xs).map a.eval) = some (g1.blk k) := by simp only [List.map_cons, e1, ownBlk]
          have hlive : (updAll s.objs (xs.flatMap fun y => shareVal s.objs (evalIn s.env y)) k).live := by rw [hob1]; trivial
          refine wp_enter hrun ((hcall g1.c w ((x0 :: xs).map a.eval) F1.glob ⟨by simp [L1], fun j q u hq hu => ?_⟩).mono ?_)
          · cases j with
            | zero => simp at hq hu; subst hq; subst hu; exact hown
            | succ j => exact ArgR.of_VR (hV j q u (by simpa using hq) (by simpa using hu))
          rintro ee w2 ⟨v, c', rfl, hP, hR, hIO⟩
          refine ⟨v, rfl, ?_⟩
          rw [hblk] at hP
          have fin : ∀ (x : Obj), x.stamp = st → outUpd s.objs m (.bld k st 0 es.length) out = [(k, x)] → FR gl ph n B O ⟨c', g1.blk, g1.cap⟩ ⟨s.env, upd (updAll s.objs (xs.flatMap fun y => shareVal s.objs (evalIn s.env y))) k x⟩ a w2 ∧ PB B O g1.c w c' w2 →
              (m = .eat → ¬ x.live) → K (a.put o.dst v) w2 := by
            intro x hxs hout ⟨F2, PB2⟩ hdead
            obtain ⟨g3, F3, hc3⟩ := F2.finish (ob0 := s.objs) (fun k' => by
              by_cases hkk : k' = k
              · subst hkk; show (upd _ k' x k').stamp = _; rw [upd_same, hxs, hob]; rfl
              · show (upd _ k x k').stamp = _; rw [upd_ne _ _ hkk]; exact S1.stamp k') hd hR (fun b hb => by
              rcases hb with hb | ⟨hb1, hb⟩
              · refine ⟨.inl (Nat.le_trans h.base hb), fun k' hl e => ?_⟩
                have e' : g1.blk k' = b := e
                by_cases hkk : k' = k
                · subst hkk; have := (F1.fresh k' hlive).2; omega
                · have hl2 : (updAll s.objs (xs.flatMap fun y => shareVal s.objs (evalIn s.env y)) k').live := by
                    have : (upd (updAll s.objs (xs.flatMap fun y => shareVal s.objs (evalIn s.env y))) k x k').live := hl
                    rwa [upd_ne _ _ hkk] at this
                  have := (F1.fresh k' hl2).2
                  omega
              · rw [hblk] at hb
                have hb' : g1.blk k = b := by simpa using hb
                refine ⟨by rw [← hb']; exact (F1.fresh k hlive).1, fun k' hl e => ?_⟩
                have e' : g1.blk k' = b := e
                by_cases hkk : k' = k
                · subst hkk
                  have : (upd (updAll s.objs (xs.flatMap fun y => shareVal s.objs (evalIn s.env y))) k' x k').live := hl
                  rw [upd_same] at this
                  exact hdead hb1 this
                · have hl2 : (updAll s.objs (xs.flatMap fun y => shareVal s.objs (evalIn s.env y)) k').live := by
                    have : (upd (updAll s.objs (xs.flatMap fun y => shareVal s.objs (evalIn s.env y))) k x k').live := hl
                    rwa [upd_ne _ _ hkk] at this
                  exact hkk (F1.inj k' k hl2 hlive (by rw [e', hb'])))
            refine hk g3 _ w2 ?_ (PB1.trans (by rw [hc3]; exact PB2))
            rw [hx0, hout]
            simp only [updAll_append]
            exact F3
          cases m with
          | imm => exact absurd rfl hm
          | inout =>
            obtain ⟨b2, cap2, arr2, q1, q2, q3, q4, q5, q6, q7, q8, q9⟩ := hIO rfl _ _ _ _ _ _ _ rfl rfl
            rw [e1] at q1
            simp only [Value.slice.injEq, Option.some.injEq, Addr.mk.injEq, and_true] at q1
            obtain ⟨rfl, hlen, rfl⟩ := q1
            refine fin (.bld st e sz out true) rfl (by simp only [outUpd, hob]) (F1.calledOwn hob1 hP _ rfl (by simp) (fun e' sz' es' raw' hh => ?_) (fun _ => ?_)) (by simp)
            · cases hh; exact ⟨rfl, rfl, by omega⟩
            · exact ⟨arr2, q2, q3, q4, q5, q6, q7, q8, q9⟩
          | eat =>
            exact fin (.no st) rfl (by simp only [outUpd]) (F1.calledOwn hob1 hP _ rfl (by simp) (by simp) (fun hh => hh.elim)) (fun _ hh => hh)
        · simp at hq
      · simp at hq
    · simp at hq
end
end Go.Pf

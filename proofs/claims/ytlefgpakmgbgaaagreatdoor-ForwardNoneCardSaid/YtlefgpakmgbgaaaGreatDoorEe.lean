/- Pure frames, part L: sharing local slices; composite slices; bytes to a string. -/
import Derived.Test.YtlefgpakmgbgaaaGreatDoorEd
set_option linter.unusedVariables false
set_option linter.unusedSimpArgs false
set_option linter.unusedSectionVars false
section
namespace Go.Hf
open Go.RowKit
theorem updAll_append (f : Nat → Obj) : ∀ (u v : List (Nat × Obj)), updAll f (u ++ v) = updAll (updAll f u) v
  | [], _ => rfl
  | (k, x) :: r, v => by simp only [List.cons_append, updAll]; exact updAll_append _ r v
theorem upd_self {α : Type} (f : Nat → α) (k : Nat) (x : α) (h : f k = x) : upd f k x = f := by
  funext j
  by_cases hj : j = k
  · subst hj; rw [upd_same, h]
  · rw [upd_ne _ _ hj]
def Sh (ob0 ob : Nat → Obj) : Prop := ∀ k, ob k = ob0 k ∨ ∃ st e sz es, ob0 k = .bld st e sz es true ∧ ob k = .bld st e sz es false
theorem Sh.refl (ob : Nat → Obj) : Sh ob ob := fun _ => .inl rfl
theorem Sh.stamp {ob0 ob : Nat → Obj} (h : Sh ob0 ob) (k : Nat) : (ob k).stamp = (ob0 k).stamp := by
  rcases h k with h | ⟨st, e, sz, es, h1, h2⟩
  · rw [h]
  · rw [h1, h2]; rfl
section
variable {P : Program} {n B bs : Nat} {O : Nat → Prop} {gl : Gl} {ph : Gh × (Nat → Obj) × World × List Deferred} {g : Gh} {s : St} {a : Act} {w w' : World} {o : Oper} {K : Act → World → Prop} {Q : Exit → Act → World → Prop}
theorem FR.share1 (h : FR gl ph n B O g s a w) {k st e sz : Nat} {es : List (List PV)} {raw : Bool} (hob : s.objs k = .bld st e sz es raw) :
    FR gl ph n B O ⟨upd g.c (g.blk k) (es.length * sz), g.blk, g.cap⟩ ⟨s.env, upd s.objs k (.bld st e sz es false)⟩ a w ∧ PB B O g.c w (upd g.c (g.blk k) (es.length * sz)) w ∧ Ext g.c w (upd g.c (g.blk k) (es.length * sz)) w ∧
      ObStep g s.objs ⟨upd g.c (g.blk k) (es.length * sz), g.blk, g.cap⟩ (upd s.objs k (.bld st e sz es false)) := by
  have hlive : (s.objs k).live := by rw [hob]; trivial
  have hO := h.obj k
  rw [hob] at hO
  obtain ⟨arr, r1, r2, r3, r4, r5, r6, r7, r8⟩ := hO
  have hE : Ext g.c w (upd g.c (g.blk k) (es.length * sz)) w := by
    refine ⟨Nat.le_refl _, fun b _ => ?_, fun _ _ _ _ => rfl⟩
    by_cases hb : b = g.blk k
    · subst hb; rw [upd_same]; exact r8
    · rw [upd_ne _ _ hb]; exact Nat.le_refl _
  have hS : ObStep g s.objs ⟨upd g.c (g.blk k) (es.length * sz), g.blk, g.cap⟩ (upd s.objs k (.bld st e sz es false)) := ObStep.bld g hob (Nat.le_refl _)
  refine ⟨h.pass (g' := ⟨upd g.c (g.blk k) (es.length * sz), g.blk, g.cap⟩) (upd s.objs k (.bld st e sz es false)) (· = k) hE hS (fun k' hk' => upd_ne _ _ hk') (fun k' hk' hl' => ?_) (fun k' hk' hl' => ?_), ⟨rfl, rfl, rfl, Nat.le_refl _, fun _ _ _ => rfl, fun b hb hO => ?_⟩, hE, hS⟩
  · have hne : g.blk k' ≠ g.blk k := fun e => hk' (h.inj k' k hl' hlive e)
    exact ⟨rfl, rfl, upd_ne _ _ hne, rfl⟩
  · subst hk'
    refine ⟨?_, (h.fresh k' hlive).1, (h.fresh k' hlive).2, fun k2 hk2 hl2 => ?_⟩
    · rw [upd_same]
      refine ⟨arr, r1, r2, r3, r4, r5, fun i j cs p hi hj => ?_, (fun hh => by cases hh), by simp [upd]⟩
      obtain ⟨u, q1, q2, q3⟩ := r6 i j cs p hi hj
      exact ⟨u, q1, q2, q3.mono hE⟩
    · rw [upd_ne _ _ hk2] at hl2
      exact fun e => hk2 (h.inj k2 k' hl2 hlive e)
  · have hne : b ≠ g.blk k := by
      intro e
      subst e
      rcases (h.fresh k hlive).1 with h1 | h1
      · omega
      · exact hO h1
    exact upd_ne _ _ hne
theorem Sh.share {ob0 ob : Nat → Obj} (h : Sh ob0 ob) (p : PV) : Sh ob0 (updAll ob (shareCell ob0 p)) := by
  cases p with
  | bld k s off len =>
    simp only [shareCell]
    split
    · rename_i s' e sz es hob
      intro k'
      simp only [updAll]
      by_cases hk : k' = k
      · subst hk; rw [upd_same]; exact .inr ⟨_, _, _, _, hob, rfl⟩
      · rw [upd_ne _ _ hk]; exact h k'
    · exact h
  | _ => exact h
theorem FR.shareCell (h : FR gl ph n B O g s a w) {ob0 : Nat → Obj} (hs : Sh ob0 s.objs) {p q : PV} {v : Value} (hx : KR g w s.objs p v) (hp : pureCell ob0 p = some q) :
    ∃ g', FR gl ph n B O g' ⟨s.env, updAll s.objs (Hf.shareCell ob0 p)⟩ a w ∧ PB B O g.c w g'.c w ∧ Ext g.c w g'.c w ∧ VR g'.c w q v ∧ ObStep g s.objs g' (updAll s.objs (Hf.shareCell ob0 p)) := by
  have hpure : ∀ {p : PV}, p.key = [] → KR g w s.objs p v → VR g.c w p v := fun hk hx => hx.elim id (fun r => absurd hk r.key_ne)
  cases p with
  | sc u => simp only [pureCell, Option.some.injEq] at hp; subst hp; exact ⟨g, h, PB.refl _ _ _ _, Ext.refl _ _, hpure rfl hx, ObStep.refl _ _⟩
  | lst sz es => simp only [pureCell, Option.some.injEq] at hp; subst hp; exact ⟨g, h, PB.refl _ _ _ _, Ext.refl _ _, hpure rfl hx, ObStep.refl _ _⟩
  | eptr cs off => simp only [pureCell, Option.some.injEq] at hp; subst hp; exact ⟨g, h, PB.refl _ _ _ _, Ext.refl _ _, hpure rfl hx, ObStep.refl _ _⟩
  | bld k st off len =>
    simp only [pureCell] at hp
    split at hp
    · rename_i s' e sz es raw0 hob0
      split at hp
      · rename_i hc
        obtain ⟨rfl, hle⟩ := hc
        cases hp
        obtain ⟨raw1, hob⟩ : ∃ raw1, s.objs k = .bld st e sz es raw1 := by
          rcases hs k with h1 | ⟨st', e', sz', es', h1, h2⟩
          · exact ⟨raw0, by rw [h1]; exact hob0⟩
          · rw [hob0] at h1; cases h1; exact ⟨false, h2⟩
        obtain ⟨hF, hPB, hE, hSt⟩ := h.share1 hob
        have hobj : updAll s.objs (Hf.shareCell ob0 (.bld k st off len)) = upd s.objs k (.bld st e sz es false) := by
          simp only [Hf.shareCell, hob0]
          cases raw0 with
          | true => rfl
          | false =>
            simp only [updAll]
            rcases hs k with h1 | ⟨st', e', sz', es', h1, h2⟩
            · exact (upd_self s.objs k _ (by rw [h1]; exact hob0)).symm
            · rw [hob0] at h1; cases h1
        refine ⟨_, by rw [hobj]; exact hF, hPB, hE, ?_, by rw [hobj]; exact hSt⟩
        have hr : RefR g s.objs (.bld k st off len) v := hx.elim (fun r => by cases r) id
        obtain ⟨_, b, o', cap, rfl, h1, h2, h3⟩ := hr
        obtain ⟨f1, f2, f3, f4⟩ := h3 _ _ _ _ hob
        subst f2
        have hO := h.obj k
        rw [hob] at hO
        obtain ⟨arr, r1, r2, r3, r4, r5, r6, r7, r8⟩ := hO
        have hlive : (s.objs k).live := by rw [hob]; trivial
        have hlen : ((es.drop off).take len).length = len := by simp; omega
        have hget : ∀ (i : Nat) (cs : List PV), ((es.drop off).take len)[i]? = some cs → es[off + i]? = some cs ∧ i < len := by
          intro i cs hi
          rw [List.getElem?_take] at hi
          split at hi
          · rename_i hlt; rw [List.getElem?_drop] at hi; exact ⟨hi, hlt⟩
          · cases hi
        have goal : VR (upd g.c (g.blk k) (es.length * sz)) w (.lst sz ((es.drop off).take len)) (.slice (some ⟨g.blk k, o', none⟩) ((es.drop off).take len).length cap) := by
          refine .lst (fun i j => arr.getD ((off + i) * sz + j) undef) (by omega) h2 (h.fresh k hlive).2 (fun hpos => ?_) (fun i cs hi => r5 _ _ (hget i cs hi).1) (fun i j cs p hi hj => ?_) (fun i j cs p hi hj => ?_) (fun i j cs p hi hj => ?_)
          · have ho' := f3 (.inl (by omega))
            rw [upd_same, hlen, ho', ← Nat.add_mul]
            exact Nat.mul_le_mul_right _ (by omega)
          · obtain ⟨u, q1, q2, q3⟩ := r6 (off + i) j cs p (hget i cs hi).1 hj
            have ho' := f3 (.inl (by have := (hget i cs hi).2; omega))
            rw [cell_of_heap r1, ho']
            have e1 : off * sz + (i * sz + j) = (off + i) * sz + j := by rw [Nat.add_mul]; omega
            rw [e1, q1]
            simp [Array.getD_eq_getD_getElem?, q1]
          · obtain ⟨u, q1, q2, q3⟩ := r6 (off + i) j cs p (hget i cs hi).1 hj
            exact q2
          · obtain ⟨u, q1, q2, q3⟩ := r6 (off + i) j cs p (hget i cs hi).1 hj
            have : arr.getD ((off + i) * sz + j) undef = u := by simp [Array.getD_eq_getD_getElem?, q1]
            rw [this]
            exact q3.mono hE
        rw [hlen] at goal
        exact goal
      · simp at hp
    · simp at hp
  | undef => simp [pureCell] at hp
  | agg => simp [pureCell] at hp
  | tup => simp [pureCell] at hp
  | bptr => simp [pureCell] at hp
  | kptr => simp [pureCell] at hp
  | mref => simp [pureCell] at hp
  | clo => simp [pureCell] at hp
theorem pureCell_isCell {ob0 : Nat → Obj} {p q : PV} (hc : p.isCell = true) (h : pureCell ob0 p = some q) : q.isCell = true := by
  cases p with
  | sc u => simp only [pureCell, Option.some.injEq] at h; subst h; exact hc
  | lst sz es => simp only [pureCell, Option.some.injEq] at h; subst h; rfl
  | eptr cs off => simp only [pureCell, Option.some.injEq] at h; subst h; rfl
  | bld k st off len =>
    simp only [pureCell] at h
    split at h
    · split at h
      · cases h; rfl
      · simp at h
    · simp at h
  | _ => simp [pureCell] at h
theorem FR.shareCells {ob0 : Nat → Obj} : ∀ (cs qs : List PV) (vs : List Value) (g : Gh) (s : St), FR gl ph n B O g s a w → Sh ob0 s.objs → cs.length = vs.length →
    (∀ (j : Nat) (q : PV) (u : Value), cs[j]? = some q → vs[j]? = some u → q.isCell = true ∧ KR g w s.objs q u) → pureCells ob0 cs = some qs →
    ∃ g', FR gl ph n B O g' ⟨s.env, updAll s.objs (cs.flatMap (Hf.shareCell ob0))⟩ a w ∧ PB B O g.c w g'.c w ∧ Ext g.c w g'.c w ∧ Sh ob0 (updAll s.objs (cs.flatMap (Hf.shareCell ob0))) ∧
      qs.length = vs.length ∧ (∀ (j : Nat) (q : PV), qs[j]? = some q → q.isCell = true) ∧ ∀ (j : Nat) (q : PV) (u : Value), qs[j]? = some q → vs[j]? = some u → VR g'.c w q u
  | [], qs, vs, g, s, h, hs, hl, _, hp => by
    simp only [pureCells, Option.some.injEq] at hp
    subst hp
    exact ⟨g, h, PB.refl _ _ _ _, Ext.refl _ _, hs, by simpa using hl, by simp, by simp⟩
  | p :: ps, qs, vs, g, s, h, hs, hl, hv, hp => by
    simp only [pureCells] at hp
    split at hp
    · rename_i q qs' h1 h2
      cases hp
      match vs, hl with
      | v :: vs', hl =>
        have hv0 := hv 0 p v rfl rfl
        obtain ⟨g1, F1, PB1, E1, V1, hS1⟩ := h.shareCell hs hv0.2 h1
        have hs1 := hs.share p
        obtain ⟨g2, F2, PB2, E2, S2, L2, C2, V2⟩ := FR.shareCells ps qs' vs' g1 ⟨s.env, updAll s.objs (Hf.shareCell ob0 p)⟩ F1 hs1 (by simpa using hl) (fun j q u hq hu => by
          have := hv (j + 1) q u (by simpa using hq) (by simpa using hu)
          exact ⟨this.1, this.2.step E1 hS1⟩) h2
        refine ⟨g2, ?_, PB1.trans PB2, E1.trans E2, ?_, by simpa using L2, fun j r hr => ?_, fun j r u hr hu => ?_⟩
        · simp only [List.flatMap_cons, updAll_append]; exact F2
        · simp only [List.flatMap_cons, updAll_append]; exact S2
        · cases j with
          | zero =>
            simp at hr; subst hr
            exact pureCell_isCell hv0.1 h1
          | succ j => exact C2 j r (by simpa using hr)
        · cases j with
          | zero => simp at hr hu; subst hr; subst hu; exact V1.mono E2
          | succ j => exact V2 j r u (by simpa using hr) (by simpa using hu)
    · simp at hp
theorem FR.shareVal (h : FR gl ph n B O g s a w) {ob0 : Nat → Obj} (hs : Sh ob0 s.objs) {p q : PV} {v : Value} (hx : XR g w s.objs p v) (hp : pureVal ob0 p = some q) :
    ∃ g', FR gl ph n B O g' ⟨s.env, updAll s.objs (Hf.shareVal ob0 p)⟩ a w ∧ PB B O g.c w g'.c w ∧ Ext g.c w g'.c w ∧ Sh ob0 (updAll s.objs (Hf.shareVal ob0 p)) ∧ VR g'.c w q v := by
  cases p with
  | agg cs =>
    simp only [pureVal, Option.map_eq_some_iff] at hp
    obtain ⟨qs, h1, rfl⟩ := hp
    obtain ⟨vs, rfl, hl, hv⟩ := hx.agg_inv
    obtain ⟨g', F, PB', E, S, L, C, V⟩ := FR.shareCells cs qs vs g s h hs hl hv h1
    exact ⟨g', F, PB', E, S, .agg L C V⟩
  | sc u =>
    obtain ⟨g', F, PB', E, V, _⟩ := h.shareCell hs (p := .sc u) (by obtain ⟨rfl, hsc⟩ := hx.sc_inv; exact .inl (.sc hsc)) hp
    exact ⟨g', F, PB', E, hs.share (.sc u), V⟩
  | lst sz es =>
    obtain ⟨g', F, PB', E, V, _⟩ := h.shareCell hs (p := .lst sz es) (.inl hx.lst_inv) hp
    exact ⟨g', F, PB', E, hs.share (.lst sz es), V⟩
  | eptr cs off =>
    obtain ⟨g', F, PB', E, V, _⟩ := h.shareCell hs (p := .eptr cs off) (.inl hx.eptr_inv) hp
    exact ⟨g', F, PB', E, hs.share (.eptr cs off), V⟩
  | bld k st off len =>
    obtain ⟨g', F, PB', E, V, _⟩ := h.shareCell hs (p := .bld k st off len) (.inr (hx.ref_inv (by simp [PV.key, PV.key0]))) hp
    exact ⟨g', F, PB', E, hs.share (.bld k st off len), V⟩
  | undef => simp [pureVal, pureCell] at hp
  | tup => simp [pureVal, pureCell] at hp
  | bptr => simp [pureVal, pureCell] at hp
  | kptr => simp [pureVal, pureCell] at hp
  | mref => simp [pureVal, pureCell] at hp
  | clo => simp [pureVal, pureCell] at hp
theorem prep_cons {ev : Operand → PV} {ob : Nat → Obj} {frz : List Bool} {x : Operand} {xs : List Operand} {qs : List PV} {us : List (Nat × Obj)} (h : prep ev ob frz (x :: xs) = some (qs, us)) :
    ∃ q qs' us', handArg ob (frz.getD 0 true) (ev x) = some q ∧ prep ev ob frz.tail xs = some (qs', us') ∧ qs = q :: qs' ∧ us = shareArg ob (frz.getD 0 true) (ev x) ++ us' := by
  cases frz with
  | nil =>
    simp only [prep] at h
    split at h
    · rename_i q qs' us' h1 h2; cases h; exact ⟨q, qs', us', h1, h2, rfl, rfl⟩
    · cases h
  | cons b bs =>
    simp only [prep] at h
    split at h
    · rename_i q qs' us' h1 h2; cases h; exact ⟨q, qs', us', h1, h2, rfl, rfl⟩
    · cases h
theorem getD_tail (frz : List Bool) (j : Nat) : frz.tail.getD j true = frz.getD (j + 1) true := by
  cases frz <;> simp
theorem FR.shareOpnds {ob0 : Nat → Obj} : ∀ (xs : List Operand) (frz : List Bool) (qs : List PV) (us : List (Nat × Obj)) (g : Gh) (s : St), FR gl ph n B O g s a w → Sh ob0 s.objs → xs.all opndOk = true → prep (evalIn s.env) ob0 frz xs = some (qs, us) →
    ∃ g', FR gl ph n B O g' ⟨s.env, updAll s.objs us⟩ a w ∧ PB B O g.c w g'.c w ∧ Ext g.c w g'.c w ∧ Sh ob0 (updAll s.objs us) ∧
      qs.length = xs.length ∧ ∀ (j : Nat) (q : PV) (x : Operand), qs[j]? = some q → xs[j]? = some x → VR g'.c w q (a.eval x) ∨ (frz.getD j true = false ∧ q = evalIn s.env x)
  | [], frz, qs, us, g, s, h, hs, _, hp => by
    simp only [prep, Option.some.injEq, Prod.mk.injEq] at hp
    obtain ⟨rfl, rfl⟩ := hp
    exact ⟨g, h, PB.refl _ _ _ _, Ext.refl _ _, hs, rfl, by simp⟩
  | x :: xs, frz, qs, us, g, s, h, hs, hok, hp => by
    obtain ⟨q, qs', us', h1, h2, rfl, rfl⟩ := prep_cons hp
    simp only [List.all_cons, Bool.and_eq_true] at hok
    cases hb : frz.getD 0 true with
    | true =>
      simp only [hb, handArg, if_true] at h1
      simp only [shareArg, if_true]
      obtain ⟨g1, F1, PB1, E1, S1, V1⟩ := h.shareVal hs (h.opnd hok.1) h1
      obtain ⟨g2, F2, PB2, E2, S2, L2, V2⟩ := FR.shareOpnds xs frz.tail qs' us' g1 ⟨s.env, updAll s.objs (Hf.shareVal ob0 (evalIn s.env x))⟩ F1 S1 hok.2 h2
      refine ⟨g2, ?_, PB1.trans PB2, E1.trans E2, ?_, by simp [L2], fun j r y hr hy => ?_⟩
      · simp only [updAll_append]; exact F2
      · simp only [updAll_append]; exact S2
      · cases j with
        | zero => simp at hr hy; subst hr; subst hy; exact .inl (V1.mono E2)
        | succ j =>
          rcases V2 j r y (by simpa using hr) (by simpa using hy) with h3 | ⟨h3, h4⟩
          · exact .inl h3
          · exact .inr ⟨by rw [← getD_tail]; exact h3, h4⟩
    | false =>
      simp only [hb, handArg, Bool.false_eq_true, if_false, Option.some.injEq] at h1
      subst h1
      simp only [shareArg, Bool.false_eq_true, if_false, List.nil_append]
      obtain ⟨g2, F2, PB2, E2, S2, L2, V2⟩ := FR.shareOpnds xs frz.tail qs' us' g s h hs hok.2 h2
      refine ⟨g2, F2, PB2, E2, S2, by simp [L2], fun j r y hr hy => ?_⟩
      cases j with
      | zero => simp at hr hy; subst hr; subst hy; exact .inr ⟨hb, rfl⟩
      | succ j =>
        rcases V2 j r y (by simpa using hr) (by simpa using hy) with h3 | ⟨h3, h4⟩
        · exact .inl h3
        · exact .inr ⟨by rw [← getD_tail]; exact h3, h4⟩
def pureVals (ev : Operand → PV) (ob : Nat → Obj) : List Operand → Option (List PV)
  | [] => some []
  | x :: xs => match pureVal ob (ev x), pureVals ev ob xs with
    | some q, some qs => some (q :: qs)
    | _, _ => none
theorem prep_pure {ev : Operand → PV} {ob : Nat → Obj} : ∀ {xs : List Operand} {qs : List PV}, pureVals ev ob xs = some qs → prep ev ob [] xs = some (qs, xs.flatMap fun x => Hf.shareVal ob (ev x))
  | [], qs, h => by simp only [pureVals, Option.some.injEq] at h; subst h; rfl
  | x :: xs, qs, h => by
    simp only [pureVals] at h
    split at h
    · rename_i q qs' h1 h2
      cases h
      simp only [prep, handArg, shareArg, if_true, h1, prep_pure h2, List.flatMap_cons]
    · cases h
theorem FR.sharePure {ob0 : Nat → Obj} (xs : List Operand) (qs : List PV) (g : Gh) (s : St) (h : FR gl ph n B O g s a w) (hs : Sh ob0 s.objs) (hok : xs.all opndOk = true) (hp : pureVals (evalIn s.env) ob0 xs = some qs) :
    ∃ g', FR gl ph n B O g' ⟨s.env, updAll s.objs (xs.flatMap fun x => Hf.shareVal ob0 (evalIn s.env x))⟩ a w ∧ PB B O g.c w g'.c w ∧ Ext g.c w g'.c w ∧ Sh ob0 (updAll s.objs (xs.flatMap fun x => Hf.shareVal ob0 (evalIn s.env x))) ∧
      qs.length = xs.length ∧ ∀ (j : Nat) (q : PV) (x : Operand), qs[j]? = some q → xs[j]? = some x → VR g'.c w q (a.eval x) := by
  obtain ⟨g', F, P1, E, S, L, V⟩ := FR.shareOpnds xs [] qs _ g s h hs hok (prep_pure hp)
  exact ⟨g', F, P1, E, S, L, fun j q x hq hx => (V j q x hq hx).elim id (fun hh => by simp at hh)⟩
end
end Go.Hf
end
section
namespace Go.Hf
open Go.RowKit
section
variable {P : Program} {n B bs : Nat} {O : Nat → Prop} {gl : Gl} {ph : Gh × (Nat → Obj) × World × List Deferred} {g : Gh} {s : St} {a : Act} {w w' : World} {o : Oper} {K : Act → World → Prop} {Q : Exit → Act → World → Prop}
theorem ERel.put {R : PV → Value → Prop} {sz : Nat} {es : List (List PV)} {arr : Array Value} {vs : List Value} {new : List PV} {i : Nat} (h : ERel R sz es arr) (hl : vs.length = new.length) (hn0 : new.length = sz) (hil : i < es.length)
    (hfit : es.length * sz ≤ arr.size) (hn : ∀ (j : Nat) (q : PV), new[j]? = some q → ∃ u, vs[j]? = some u ∧ q.isCell = true ∧ R q u) : ERel R sz (es.set i new) (setFrom arr (i * sz) vs) := by
  have hmul := Nat.mul_le_mul_right sz (show i + 1 ≤ es.length from hil)
  rw [Nat.add_mul, Nat.one_mul] at hmul
  refine ⟨fun k cs hk => ?_, fun k j cs p hk hj => ?_⟩
  · rw [List.getElem?_set] at hk
    split at hk
    · cases hk; exact hn0
    · exact h.1 k cs hk
  · rw [setFrom_get vs (i * sz) arr _ (by omega), hl, hn0]
    rw [List.getElem?_set] at hk
    split at hk
    · rename_i hik
      subst hik
      cases hk
      have hjl : j < sz := by have := (List.getElem?_eq_some_iff.1 hj).1; omega
      rw [if_neg (by omega), if_pos (by omega), Nat.add_sub_cancel_left]
      exact hn j p hj
    · rename_i hik
      have hjl : j < sz := by have := (List.getElem?_eq_some_iff.1 hj).1; have := h.1 k cs hk; omega
      have hout := block_lt (i := i) (i' := k) (sz := sz) (j := j) (off := 0) (m := sz) hjl (by omega) (fun x => hik x.symm)
      simp only [Nat.add_zero] at hout
      by_cases c1 : k * sz + j < i * sz
      · rw [if_pos c1]; exact h.2 k j cs p hk hj
      · rw [if_neg c1, if_neg (by omega)]; exact h.2 k j cs p hk hj
theorem fillElems_length {ev : Operand → PV} {ob : Nat → Obj} {sz : Nat} : ∀ {ps : List (Nat × Operand)} {es es' : List (List PV)}, fillElems ev ob sz es ps = some es' → es'.length = es.length
  | [], es, es', h => by simp only [fillElems, Option.some.injEq] at h; rw [h]
  | (i, x) :: r, es, es', h => by
    simp only [fillElems] at h
    split at h
    · split at h
      · rw [fillElems_length h]; simp
      · simp at h
    · simp at h
theorem VR.agg_inv {c : Nat → Nat} {cs : List PV} {v : Value} (h : VR c w (.agg cs) v) : ∃ vs : List Value, v = .agg vs.toArray ∧ cs.length = vs.length ∧ ∀ (j : Nat) (p : PV) (u : Value), cs[j]? = some p → vs[j]? = some u → VR c w p u := by
  cases h with
  | agg hl hci hv => exact ⟨_, rfl, hl, hv⟩
theorem VR.key {c : Nat → Nat} {p : PV} {v : Value} (h : VR c w p v) : p.key = [] := by cases h <;> rfl
theorem fillElems_rel {c : Nat → Nat} {ev : Operand → PV} {ob : Nat → Obj} {sz : Nat} : ∀ (ps : List (Nat × Operand)) (es es' : List (List PV)) (arr : Array Value), fillElems ev ob sz es ps = some es' →
    (∀ p ∈ ps, ∀ q, pureVal ob (ev p.2) = some q → VR c w q (a.eval p.2)) → ERel (VR c w) sz es arr → arr.size = es.length * sz →
    ∃ arr', Instr.fill (fun i => some (i * sz, sz)) arr (ps.map fun p => (p.1, a.eval p.2)) = some arr' ∧ ERel (VR c w) sz es' arr' ∧ arr'.size = arr.size
  | [], es, es', arr, h, _, hE, hs => by simp only [fillElems, Option.some.injEq] at h; subst h; exact ⟨arr, rfl, hE, rfl⟩
  | (i, x) :: r, es, es', arr, h, hv, hE, hs => by
    simp only [fillElems] at h
    split at h
    · rename_i new hnew
      split at h
      · rename_i hc
        obtain ⟨hl, hil⟩ := hc
        simp only [Option.bind_eq_some_iff] at hnew
        obtain ⟨q, hq, hnew⟩ := hnew
        have hV := hv (i, x) (by simp) q hq
        have hX : XR ⟨c, fun _ => 0, fun _ => 0⟩ w (fun _ => Obj.no 0) q (a.eval x) := .inr (.inl (.inl hV))
        obtain ⟨hn1, hn2⟩ := hX.cells hnew
        have hn3 : ∀ (j : Nat) (r : PV), new[j]? = some r → ∃ u, (a.eval x).cells.toList[j]? = some u ∧ r.isCell = true ∧ VR c w r u := by
          intro j r hr
          obtain ⟨u, q1, q2, q3⟩ := hn2 j r hr
          refine ⟨u, q1, q2, ?_⟩
          rcases q3 with q3 | q3
          · exact q3
          · exfalso
            cases q with
            | agg cs =>
              simp only [PV.cells, Option.some.injEq] at hnew
              subst hnew
              obtain ⟨vs, hvs, hl', hv'⟩ := hV.agg_inv
              have hj : j < cs.length := (List.getElem?_eq_some_iff.1 hr).1
              have := hv' j r vs[j] hr (List.getElem?_eq_getElem (by omega))
              have hk := q3.key_ne
              generalize vs[j] = vj at this
              cases this <;> simp [PV.key, PV.key0] at hk
            | sc _ => simp only [PV.cells, Option.some.injEq] at hnew; subst hnew; have := List.mem_of_getElem? hr; simp at this; subst this; exact q3.elim
            | lst _ _ => simp only [PV.cells, Option.some.injEq] at hnew; subst hnew; have := List.mem_of_getElem? hr; simp at this; subst this; exact q3.elim
            | eptr _ _ => simp only [PV.cells, Option.some.injEq] at hnew; subst hnew; have := List.mem_of_getElem? hr; simp at this; subst this; exact q3.elim
            | undef => exact absurd hV (fun hh => by generalize a.eval (i, x).2 = vv at hh; cases hh)
            | tup _ => exact absurd hV (fun hh => by generalize a.eval (i, x).2 = vv at hh; cases hh)
            | mref _ _ => exact absurd hV (fun hh => by generalize a.eval (i, x).2 = vv at hh; cases hh)
            | clo _ _ => exact absurd hV (fun hh => by generalize a.eval (i, x).2 = vv at hh; cases hh)
            | bptr _ _ _ => exact absurd hV (fun hh => by generalize a.eval (i, x).2 = vv at hh; cases hh)
            | bld _ _ _ _ => exact absurd hV (fun hh => by generalize a.eval (i, x).2 = vv at hh; cases hh)
            | kptr _ _ _ _ => exact absurd hV (fun hh => by generalize a.eval (i, x).2 = vv at hh; cases hh)
        have hE' := hE.put hn1 hl hil (by omega) hn3
        have hmul := Nat.mul_le_mul_right sz (show i + 1 ≤ es.length from hil)
        rw [Nat.add_mul, Nat.one_mul] at hmul
        obtain ⟨arr', ha, hb, hc'⟩ := fillElems_rel r _ es' (setFrom arr (i * sz) (a.eval x).cells.toList) h (fun p hp => hv p (by simp [hp])) hE' (by rw [setFrom_size]; simpa using hs)
        refine ⟨arr', ?_, hb, by rw [hc', setFrom_size]⟩
        simp only [List.map_cons]
        rw [fill_cons (fun i => some (i * sz, sz)) arr i (i * sz) sz (a.eval x) _ rfl (by simpa [hl] using hn1) (by omega)]
        exact ha
      · simp at h
    · simp at h
theorem pureVals_of_fill {ev : Operand → PV} {ob : Nat → Obj} {sz : Nat} : ∀ (ps : List (Nat × Operand)) (es es' : List (List PV)), fillElems ev ob sz es ps = some es' → ∃ qs, pureVals ev ob (ps.map (·.2)) = some qs
  | [], _, _, _ => ⟨[], rfl⟩
  | (i, x) :: r, es, es', h => by
    simp only [fillElems] at h
    split at h
    · rename_i new hnew
      split at h
      · simp only [Option.bind_eq_some_iff] at hnew
        obtain ⟨q, hq, _⟩ := hnew
        obtain ⟨qs, hqs⟩ := pureVals_of_fill r _ es' h
        exact ⟨q :: qs, by simp only [List.map_cons, pureVals, hq, hqs]⟩
      · simp at h
    · simp at h
theorem pureVals_get {ev : Operand → PV} {ob : Nat → Obj} : ∀ (xs : List Operand) (qs : List PV), pureVals ev ob xs = some qs → ∀ (j : Nat) (x : Operand), xs[j]? = some x → ∃ q, pureVal ob (ev x) = some q ∧ qs[j]? = some q
  | [], _, _, j, x, hx => by simp at hx
  | y :: ys, qs, h, j, x, hx => by
    simp only [pureVals] at h
    split at h
    · rename_i q qs' h1 h2
      cases h
      cases j with
      | zero => simp at hx; subst hx; exact ⟨q, h1, rfl⟩
      | succ j => exact pureVals_get ys qs' h2 j x (by simpa using hx)
    · simp at h
theorem zeroRow_get (zero : List Value) (m k : Nat) (hk : k < m) (hz : 0 < zero.length) : (((Array.range m).map (zero.toArray[· % zero.toArray.size]!)))[k]? = zero[k % zero.length]? := by
  have hlt : k % zero.length < zero.length := Nat.mod_lt _ hz
  simp [hk, getElem!_def, List.getElem?_eq_getElem hlt]
theorem sim_bslice {e sz len : Nat} {zero : List Value} {ps : List (Nat × Operand)} {raw : Bool} {p : PV} {us : List (Nat × Obj)} (h : FR gl ph n B O g s a w) (hd : ∀ t, o.dst = some t → t < n) (hr : Rs P o (.bslice e sz zero len ps raw))
    (hp : pop (evalIn s.env) s.objs (bs + o.dst.getD 0) (.bslice e sz zero len ps raw) = some (p, us)) (hk : Owed gl ph n B O g w ⟨put s.env o.dst p, updAll s.objs us⟩ K) : o.wp P a w K Q := by
  obtain ⟨t, parts, ho, _, ht, ⟨i, z, hi, hz, hzc, hisz, hzl, hall⟩, hpp, hsz0, hsmall, hok⟩ := hr
  subst hpp
  simp only [pop, Option.map_eq_some_iff, Prod.mk.injEq] at hp
  obtain ⟨es, hf, rfl, rfl⟩ := hp
  have hlen : es.length = len := by rw [fillElems_length hf]; simp
  obtain ⟨qs, hqs⟩ := pureVals_of_fill _ _ _ hf
  obtain ⟨g1, F1, PB1, E1, S1, L1, V1⟩ := FR.sharePure (parts.toList.map (·.2)) qs g s h (Sh.refl _) (by simpa [List.all_map] using hok) hqs
  have hsh : (parts.toList.map (·.2)).flatMap (fun x => Hf.shareVal s.objs (evalIn s.env x)) = parts.toList.flatMap fun p => Hf.shareVal s.objs (evalIn s.env p.2) := by rw [List.flatMap_map]
  rw [hsh] at F1 S1
  let arr0 : Array Value := (Array.range (len * sz)).map (zero.toArray[· % zero.toArray.size]!)
  have harr0 : arr0.size = len * sz := by simp [arr0]
  have hE0 : ERel (VR g1.c w) sz (List.replicate len (zero.map PV.sc)) arr0 := by
    refine ⟨fun k cs hk' => ?_, fun k j cs q hk' hj => ?_⟩
    · have := List.mem_of_getElem? hk'
      simp at this
      rw [this.2]; simpa using hzl
    · have hmem := List.mem_of_getElem? hk'
      simp at hmem
      obtain ⟨_, rfl⟩ := hmem
      have hkl : k < len := by have := (List.getElem?_eq_some_iff.1 hk').1; simpa using this
      simp only [List.getElem?_map, Option.map_eq_some_iff] at hj
      obtain ⟨v, hv, rfl⟩ := hj
      have hjl : j < sz := by have := (List.getElem?_eq_some_iff.1 hv).1; omega
      have hs : scalarV v = true := List.all_eq_true.1 hall v (List.mem_of_getElem? hv)
      have hlt : k * sz + j < len * sz := by
        have := Nat.mul_le_mul_right sz (show k + 1 ≤ len from hkl)
        rw [Nat.add_mul, Nat.one_mul] at this
        omega
      refine ⟨v, ?_, hs, .sc hs⟩
      simp only [arr0]
      rw [zeroRow_get zero _ _ hlt (by omega), hzl, (flat_idx hjl).2]
      exact hv
  obtain ⟨arr, ha, hb, hc⟩ := fillElems_rel (w := w) (a := a) (c := g1.c) parts.toList _ es arr0 hf (fun p hp q hq => by
    obtain ⟨j, hj⟩ := List.mem_iff_getElem?.1 hp
    obtain ⟨q', h1, h2⟩ := pureVals_get _ _ hqs j p.2 (by simp [hj])
    rw [hq] at h1
    cases h1
    exact V1 j q p.2 h2 (by simp [hj])) hE0 (by simp [harr0])
  have hst : ((updAll s.objs (parts.toList.flatMap fun p => Hf.shareVal s.objs (evalIn s.env p.2))) (bs + o.dst.getD 0)).stamp = (s.objs (bs + o.dst.getD 0)).stamp := S1.stamp _
  refine sim_newBld (w' := w.alloc (.cells arr e)) F1 hd (bs + o.dst.getD 0) len e sz es raw arr ?_ rfl rfl rfl rfl (hc.trans harr0) (by omega) (by simp only [maxLen]; have : len ≤ len * sz := Nat.le_mul_of_pos_right _ hsz0; omega) hb ?_
  · have hzz : z.cells = zero.toArray := by rw [← hzc]
    have hm : (parts.map fun (x : Nat × Operand) => (x.1, a.eval x.2)).toList = parts.toList.map fun p => (p.1, a.eval p.2) := by simp
    have hnb : ¬ (len * i.size > 16777216) := by rw [hisz]; omega
    simp only [execOp, ho, Instr.buildSlice, Sem.run_bind, run_underlying ht, Result.andThen_ok, run_sizeOf hi]
    have hpow : (2 : Nat) ^ 24 = 16777216 := by decide
    rw [hpow, if_neg hnb, hm, hisz, hlen]
    by_cases h0 : len * sz = 0
    · have hz0 : arr0 = (Array.range (len * sz)).map ((#[] : Array Value)[· % (#[] : Array Value).size]!) := by
        apply Array.ext'; simp [arr0, h0]
      rw [if_pos h0]
      simp only [Sem.run_bind, Sem.run_pure, Result.andThen_ok]
      rw [← hz0, ha]
      simp only [newRow, Sem.run_bind, run_newObj, Sem.run_pure, Result.andThen_ok]
    · rw [if_neg h0]
      simp only [Sem.run_bind, Sem.run_pure, Result.andThen_ok, run_zeroValue hi hz, hzz]
      have : Instr.fill (fun i => some (i * sz, sz)) (Array.map (fun x => zero.toArray[x % zero.toArray.size]!) (Array.range (len * sz))) (parts.toList.map fun p => (p.1, a.eval p.2)) = some arr := ha
      rw [this]
      simp only [newRow, Sem.run_bind, run_newObj, Sem.run_pure, Result.andThen_ok]
  · intro g' a' w' hF hPB
    refine hk g' a' w' ?_ (PB1.trans hPB)
    rw [hst] at hF
    rw [updAll_append]
    simp only [updAll]
    rw [hlen] at hF
    exact hF
end
end Go.Hf
end
section
namespace Go.Hf
open Go.RowKit
section
variable {P : Program} {n B bs : Nat} {O : Nat → Prop} {gl : Gl} {ph : Gh × (Nat → Obj) × World × List Deferred} {g : Gh} {s : St} {a : Act} {w w' : World} {o : Oper} {K : Act → World → Prop} {Q : Exit → Act → World → Prop}
theorem bytesOf_inv : ∀ {es : List (List PV)} {l : List UInt8}, bytesOf es = some l → ∃ ns : List Int, es = ns.map (fun m => [PV.sc (.int .u8 m)]) ∧ l = ns.map (fun m => UInt8.ofNat m.toNat)
  | [], l, h => by simp only [bytesOf, Option.some.injEq] at h; subst h; exact ⟨[], rfl, rfl⟩
  | cs :: r, l, h => by
    unfold bytesOf at h
    split at h
    · rename_i heq; cases heq
    · rename_i m r' heq
      cases heq
      simp only [Option.map_eq_some_iff] at h
      obtain ⟨l', h1, rfl⟩ := h
      obtain ⟨ns, rfl, rfl⟩ := bytesOf_inv h1
      exact ⟨m :: ns, rfl, rfl⟩
    · simp at h
theorem foldl_push_bytes : ∀ (ns : List Int) (b : ByteArray), ns.foldl (fun r m => r.push (UInt8.ofNat m.toNat)) b = ⟨(b.data.toList ++ ns.map (fun m => UInt8.ofNat m.toNat)).toArray⟩
  | [], b => by simp
  | m :: ns, b => by
    rw [List.foldl_cons, foldl_push_bytes ns]
    simp [ByteArray.push]
theorem sim_b2s {x : Operand} {p : PV} {us : List (Nat × Obj)} (h : FR gl ph n B O g s a w) (hd : ∀ t, o.dst = some t → t < n) (hr : Rs P o (.b2s x))
    (hp : pop (evalIn s.env) s.objs (bs + o.dst.getD 0) (.b2s x) = some (p, us)) (hk : Owed gl ph n B O g w ⟨put s.env o.dst p, updAll s.objs us⟩ K) : o.wp P a w K Q := by
  obtain ⟨t1, t2, e, ho, h1, h2, h3, hx⟩ := hr
  simp only [pop, Option.map_eq_some_iff, Prod.mk.injEq, Option.bind_eq_some_iff] at hp
  obtain ⟨l, ⟨es, hes, hl⟩, rfl, rfl⟩ := hp
  obtain ⟨ns, rfl, rfl⟩ := bytesOf_inv hl
  refine sim_val h hd (v := .string ⟨(ns.map (fun m => UInt8.ofNat m.toNat)).toArray⟩) ?_ (.sc rfl) hk
  rcases h.news hx hes with ⟨e1, e2⟩ | ⟨ad, cap, news, e1, e2, e3, e4, e5, e6⟩
  · have hns : ns = [] := by simpa using e2
    subst hns
    simp only [execOp, ho, e1, Sem.run_bind, run_convert_bytes_string w t1 t2 e none 0 0 h1 h2 h3, Conv.bytesToString, Sem.run_pure, Result.andThen_ok]
    rfl
  · have hnews : news = ns.map (Value.int .u8) := by
      apply List.ext_getElem?
      intro j
      by_cases hj : j < ns.length
      · obtain ⟨u, q1, q2, q3⟩ := e6 j 0 [.sc (.int .u8 ns[j])] (.sc (.int .u8 ns[j])) (by simp [hj]) rfl
        have := q3.sc_inv.1
        subst this
        simp only [Nat.mul_one, Nat.add_zero] at q1
        rw [q1]; simp [hj]
      · rw [List.getElem?_eq_none (by rw [e2]; simp; omega), List.getElem?_eq_none (by simp; omega)]
    subst hnews
    have hload := run_loadCells_list (P := P) w ad (ns.map (Value.int .u8)) e3
    have hlen : (ns.map fun m => [PV.sc (.int .u8 m)]).length = (ns.map (Value.int .u8)).length := by simp
    rw [hlen] at e1
    have hb := run_bytesToString (P := P) w ad (ns.map (Value.int .u8)).length cap ns hload
    simp only [execOp, ho, e1, Sem.run_bind, run_convert_bytes_string w t1 t2 e (some ad) _ _ h1 h2 h3, hb, Sem.run_pure, Result.andThen_ok]
    rw [foldl_push_bytes]
    simp [ByteArray.empty, ByteArray.emptyWithCapacity]
    rfl
theorem run_call {fid : FuncId} {f : Operand} {args : List Operand} {caps : List Value} {ts : Array TypeId} (ho : o.op = .call { callee := .value f, args := args.toArray, argTypes := ts }) (hf : a.eval f = .func (.func fid) #[] caps.toArray) (hen : Enters P fid) :
    (execOp a.eval o).run P w = .ok (.enter fid (args.map a.eval ++ caps).toArray) w := by
  obtain ⟨fn, h1, h2, h3⟩ := hen
  simp only [execOp, ho, resolve, hf, Deferred.ofValue, Sem.run_bind, Sem.run_pure, Result.andThen_ok, invoke, callFunc, program, Sem.run, h1, h2, h3, Bool.false_eq_true, if_false]
  simp
theorem XR.of_VR {g : Gh} {w : World} {ob : Nat → Obj} {p : PV} {v : Value} (h : VR g.c w p v) : XR g w ob p v := .inr (.inl (.inl h))
theorem FR.heap (h : FR gl ph n B O g s a w) : HeapR g w s.objs := ⟨h.obj, h.inj, fun k hl => (h.fresh k hl).2⟩
theorem FR.called (h : FR gl ph n B O g s a w) {g' : Gh} {ob' : Nat → Obj} (hA : After g w s.objs g' w' ob') : FR gl ph n B O g' ⟨s.env, ob'⟩ a w' ∧ PB B O g.c w g'.c w' := by
  have hb := h.base
  have hnot : ∀ b, b < B → ¬ O b → ¬ Blk g s.objs b := by
    rintro b hb' hO ⟨k, hl, rfl⟩
    rcases (h.fresh k hl).1 with h1 | h1
    · omega
    · exact hO h1
  refine ⟨⟨h.size, h.defers, Nat.le_trans h.base hA.ext.size, fun i => (h.env i).step hA.ext hA.step, hA.heap.obj, hA.heap.inj, fun k hl => ⟨?_, hA.heap.lt k hl⟩, ⟨h.home.1.trans hA.step, h.home.2.trans hA.ext⟩, gl.mono hA.ext h.glob⟩,
    ⟨hA.pres.os, hA.pres.tape, hA.pres.output, hA.pres.size, fun b hb' hO => hA.pres.block b (by omega) (hnot b hb' hO), fun b hb' hO => hA.pres.c b (by omega) (hnot b hb' hO)⟩⟩
  rcases hA.src k hl with h1 | ⟨k0, hl0, h1⟩
  · exact .inl (by omega)
  · rw [← h1]; exact (h.fresh k0 hl0).1
theorem After.frame {g g' : Gh} {ob : Nat → Obj} (hH : HeapR g w ob) (hA : After g w noOb g' w' noOb) : After g w ob ⟨g'.c, g.blk, g.cap⟩ w' ob := by
  have hn : ∀ b, ¬ Blk g noOb b := fun b hb => by obtain ⟨k, hl, _⟩ := hb; exact hl
  have hS : ObStep g ob ⟨g'.c, g.blk, g.cap⟩ ob := ObStep.refl g ob
  refine ⟨⟨hA.pres.os, hA.pres.tape, hA.pres.output, hA.pres.size, fun b hb _ => hA.pres.block b hb (hn b), fun b hb _ => hA.pres.c b hb (hn b)⟩, hA.ext, ⟨fun k => ?_, hH.inj, fun k hl => Nat.lt_of_lt_of_le (hH.lt k hl) hA.ext.size⟩, hS, fun k hl => .inr ⟨k, hl, rfl⟩⟩
  exact ObjR.keep (g' := ⟨g'.c, g.blk, g.cap⟩) hA.ext hS (fun hl => ⟨rfl, rfl, hA.pres.c _ (hH.lt k hl) (hn _), hA.pres.block _ (hH.lt k hl) (hn _)⟩) (hH.obj k)
theorem XR.noOb_any {g g2 : Gh} {w : World} {ob : Nat → Obj} {p : PV} {v : Value} (h : XR g w noOb p v) (hk : p.keys = []) (hc : g2.c = g.c) : XR g2 w ob p v := by
  have hK : ∀ {q : PV} {u : Value}, q.key = [] → KR g w noOb q u → KR g2 w ob q u := by
    intro q u hq hu
    rcases hu with hu | hu
    · exact .inl (by rw [hc]; exact hu)
    · exact absurd hq hu.key_ne
  rcases h with h | h | ⟨cs, vs, rfl, rfl, hl, hv⟩ | ⟨cs, vs, rfl, rfl, hl, hv⟩
  · exact .inl h
  · refine .inr (.inl ?_)
    rcases h with h | h
    · exact .inl (by rw [hc]; exact h)
    · exfalso
      cases p with
      | agg => exact h.elim
      | tup => exact h.elim
      | _ => exact h.key_ne hk
  · simp only [PV.keys, PV.keysA, List.flatMap_eq_nil_iff] at hk
    exact .inr (.inr (.inl ⟨cs, vs, rfl, rfl, hl, fun j q u hq hu => ⟨(hv j q u hq hu).1, hK (hk q (List.mem_of_getElem? hq)) (hv j q u hq hu).2⟩⟩))
  · simp only [PV.keys, PV.keysA, List.flatMap_eq_nil_iff] at hk
    refine .inr (.inr (.inr ⟨cs, vs, rfl, rfl, hl, fun j q u hq hu => ?_⟩))
    have hk' := hk q (List.mem_of_getElem? hq)
    rcases hv j q u hq hu with h1 | ⟨cs', vs', rfl, s2, s3, s4⟩
    · left
      rcases h1 with h1 | h1
      · exact .inl (by rw [hc]; exact h1)
      · exfalso
        cases q with
        | agg => exact h1.elim
        | _ => exact h1.key_ne hk'
    · right
      simp only [PV.keysA, List.flatMap_eq_nil_iff] at hk'
      exact ⟨cs', vs', rfl, s2, s3, fun j q u hq hu => ⟨(s4 j q u hq hu).1, hK (hk' q (List.mem_of_getElem? hq)) (s4 j q u hq hu).2⟩⟩
theorem func_inv {v : Value} {fid : FuncId} {x y : Array Value} (h : scalarV (.func (.func fid) x y) = true) : x = #[] ∧ y = #[] := by
  match x, y, h with
  | ⟨[]⟩, ⟨[]⟩, _ => exact ⟨rfl, rfl⟩
theorem HeapR.none {g : Gh} {w : World} : HeapR g w noOb := ⟨fun _ => trivial, fun _ _ h => h.elim, fun _ h => h.elim⟩
theorem sim_call {f : Operand} {args : List Operand} {fid : FuncId} {x y : Array Value} {ps : List PV} {us : List (Nat × Obj)} {res : PV} (h : FR gl ph n B O g s a w) (hd : ∀ t, o.dst = some t → t < n)
    (hr : Rs P o (.call f args)) (hf : evalIn s.env f = .sc (.func (.func fid) x y)) (hprep : prep (evalIn s.env) s.objs [] args = some (ps, us))
    (hRC : RC gl P fid ps res) (hk : Owed gl ph n B O g w ⟨put s.env o.dst res, updAll s.objs us⟩ K) : o.wp P a w K Q := by
  obtain ⟨ts, ho, hfo, hargs⟩ := hr
  have ef := h.opnd hfo
  rw [hf] at ef
  obtain ⟨ef1, ef2⟩ := ef.sc_inv
  obtain ⟨rfl, rfl⟩ := func_inv (v := a.eval f) ef2
  obtain ⟨⟨hen, hcall⟩, hkeys⟩ := hRC
  obtain ⟨g1, F1, PB1, E1, S1, L1, V1⟩ := FR.shareOpnds args [] ps us g s h (Sh.refl _) hargs hprep
  have hrun := run_call (P := P) (w := w) (caps := []) ho ef1 hen
  refine wp_enter hrun ((hcall g1 w (args.map a.eval ++ []) F1.glob HeapR.none ⟨by simp [L1], fun i p v hp hv => ?_⟩).mono ?_)
  · simp only [List.append_nil, List.getElem?_map, Option.map_eq_some_iff] at hv
    obtain ⟨x, hx, rfl⟩ := hv
    rcases V1 i p x hp hx with h1 | ⟨h1, _⟩
    · exact XR.of_VR h1
    · simp at h1
  · rintro e w2 ⟨v, g', rfl, hA, hX⟩
    refine ⟨v, rfl, ?_⟩
    obtain ⟨F2, PB2⟩ := F1.called (After.frame F1.heap hA)
    exact hk _ _ _ (F2.put o.dst hd (hX.noOb_any hkeys rfl)) (PB1.trans PB2)
theorem sim_hcall {f : Operand} {args : List Operand} {frz : List Bool} {fid : FuncId} {caps ps : List PV} {us : List (Nat × Obj)} {res : PV} {ob' : Nat → Obj} (h : FR gl ph n B O g s a w) (hd : ∀ t, o.dst = some t → t < n)
    (hr : Rs P o (.hcall f args frz)) (hf : fnOf (evalIn s.env f) = some (fid, caps)) (hprep : prep (evalIn s.env) s.objs frz args = some (ps, us))
    (hHC : HC gl P fid (ps ++ caps) (updAll s.objs us) res ob') (hk : Owed gl ph n B O g w ⟨put s.env o.dst res, ob'⟩ K) : o.wp P a w K Q := by
  obtain ⟨ts, ho, hfo, hargs⟩ := hr
  obtain ⟨hen, hcall⟩ := hHC
  obtain ⟨g1, F1, PB1, E1, S1, L1, V1⟩ := FR.shareOpnds args frz ps us g s h (Sh.refl _) hargs hprep
  have ef := F1.opnd hfo
  have hcaps : ∃ cv : List Value, a.eval f = .func (.func fid) #[] cv.toArray ∧ caps.length = cv.length ∧ ∀ (j : Nat) (q : PV) (u : Value), caps[j]? = some q → cv[j]? = some u → XR g1 w (updAll s.objs us) q u := by
    change XR g1 w _ (evalIn s.env f) _ at ef
    cases hev : evalIn s.env f with
    | clo f' caps' =>
      rw [hev] at ef hf
      simp only [fnOf, Option.some.injEq, Prod.mk.injEq] at hf
      obtain ⟨rfl, rfl⟩ := hf
      obtain ⟨_, vs, e1, e2, e3⟩ := ef.clo_inv
      refine ⟨vs, e1, e2, fun j q u hq hu => ?_⟩
      rcases e3 j q u hq hu with ⟨rfl, rfl⟩ | h1
      · exact XR.sc rfl
      · refine .inr (.inl (.inr ?_))
        cases q with
        | clo => exact h1.elim
        | _ => exact h1
    | sc v =>
      rw [hev] at ef hf
      obtain ⟨ef1, ef2⟩ := ef.sc_inv
      unfold fnOf at hf
      split at hf
      · rename_i f0 heq
        cases heq
        cases hf
        exact ⟨[], ef1, rfl, by simp⟩
      · rename_i heq; cases heq
      · cases hf
    | _ => rw [hev] at hf; simp [fnOf] at hf
  obtain ⟨cv, hc1, hc2, hc3⟩ := hcaps
  have hrun := run_call (P := P) (w := w) ho hc1 hen
  refine wp_enter hrun ((hcall g1 w (args.map a.eval ++ cv) F1.glob F1.heap ⟨by simp [L1, hc2], fun i p v hp hv => ?_⟩).mono ?_)
  · by_cases hi : i < ps.length
    · rw [List.getElem?_append_left hi] at hp
      rw [List.getElem?_append_left (by simp; omega)] at hv
      simp only [List.getElem?_map, Option.map_eq_some_iff] at hv
      obtain ⟨x, hx, rfl⟩ := hv
      rcases V1 i p x hp hx with h1 | ⟨_, rfl⟩
      · exact XR.of_VR h1
      · exact F1.opnd (List.all_eq_true.1 hargs x (List.mem_of_getElem? hx))
    · rw [List.getElem?_append_right (by omega)] at hp
      rw [List.getElem?_append_right (by simp; omega)] at hv
      simp only [List.length_map, ← L1] at hv
      exact hc3 _ p v hp hv
  · rintro e w2 ⟨v, g', rfl, hA, hX⟩
    refine ⟨v, rfl, ?_⟩
    obtain ⟨F2, PB2⟩ := F1.called hA
    exact hk _ _ _ (F2.put o.dst hd hX) (PB1.trans PB2)
end
end Go.Hf
end

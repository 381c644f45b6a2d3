/- Pure frames, part L: sharing local slices; composite slices; bytes to a string. -/
import Derived.Test.YthiipifjdfmblaaGreatDoorPfK
set_option linter.unusedVariables false
set_option linter.unusedSimpArgs false
namespace Go.Pf
open Go.RowKit

theorem updAll_append (f : Nat → Obj) : ∀ (u v : List (Nat × Obj)), updAll f (u ++ v) = updAll (updAll f u) v
  | [], _ => rfl
  | (k, x) :: r, v => by simp only [List.cons_append, updAll]; exact updAll_append _ r v

theorem upd_self {α : Type} (f : Nat → α) (k : Nat) (x : α) (h : f k = x) : upd f k x = f := by
  funext j
  by_cases hj : j = k
  · subst hj; rw [upd_same, h]
  · rw [upd_ne _ _ hj]

/-- Some slices that could be written in place no longer can. -/
def Sh (ob0 ob : Nat → Obj) : Prop := ∀ k, ob k = ob0 k ∨ ∃ st e sz es, ob0 k = .bld st e sz es true ∧ ob k = .bld st e sz es false

theorem Sh.refl (ob : Nat → Obj) : Sh ob ob := fun _ => .inl rfl
theorem Sh.stamp {ob0 ob : Nat → Obj} (h : Sh ob0 ob) (k : Nat) : (ob k).stamp = (ob0 k).stamp := by
  rcases h k with h | ⟨st, e, sz, es, h1, h2⟩
  · rw [h]
  · rw [h1, h2]; rfl

section
variable {P : Program} {n B : Nat} {O : Option Nat} {gl : Gl} {ph : Option (Nat × Value)} {g : Gh} {s : St} {a : Act} {w w' : World} {o : Oper} {K : Act → World → Prop} {Q : Exit → Act → World → Prop}

theorem FR.share1 (h : FR gl ph n B O g s a w) {k st e sz : Nat} {es : List (List PV)} {raw : Bool} (hob : s.objs k = .bld st e sz es raw) :
    FR gl ph n B O ⟨upd g.c (g.blk k) (es.length * sz), g.blk, g.cap⟩ ⟨s.env, upd s.objs k (.bld st e sz es false)⟩ a w ∧ PB B O g.c w (upd g.c (g.blk k) (es.length * sz)) w ∧ Ext g.c w (upd g.c (g.blk k) (es.length * sz)) w ∧
      ObStep g s.objs ⟨upd g.c (g.blk k) (es.length * sz), g.blk, g.cap⟩ (upd s.objs k (.bld st e sz es false)) := by
  have hlive : (s.objs k).live := by rw [hob]; trivial
  have hO := h.obj k
  rw [hob] at hO
  obtain ⟨arr, r1, r2, r3, r4, r5, r6, r7, r8⟩ := hO
  have hE : Ext g.c w (upd g.c (g.blk k) (es.length * sz)) w := by
    refine ⟨Nat.le_refl _, fun b _ => ?_, fun _ _ _ _ => rfl⟩
    by_cases hb : b = g.blk k
    · subst hb; rw [upd_same]; exact r8
    · rw [upd_ne _ _ hb]; exact Nat.le_refl _
  have hS : ObStep g s.objs ⟨upd g.c (g.blk k) (es.length * sz), g.blk, g.cap⟩ (upd s.objs k (.bld st e sz es false)) := ObStep.bld g hob (Nat.le_refl _)
  refine ⟨h.pass (g' := ⟨upd g.c (g.blk k) (es.length * sz), g.blk, g.cap⟩) (upd s.objs k (.bld st e sz es false)) (· = k) hE hS (fun k' hk' => upd_ne _ _ hk') (fun k' hk' hl' => ?_) (fun k' hk' hl' => ?_), ⟨rfl, rfl, rfl, Nat.le_refl _, fun _ _ _ => rfl, fun b hb hO => ?_⟩, hE, hS⟩
  · have hne : g.blk k' ≠ g.blk k := fun e => hk' (h.inj k' k hl' hlive e)
    exact ⟨rfl, rfl, upd_ne _ _ hne, rfl⟩
  · subst hk'
    refine ⟨?_, (h.fresh k' hlive).1, (h.fresh k' hlive).2, fun k2 hk2 hl2 => ?_⟩
    · rw [upd_same]
      refine ⟨arr, r1, r2, r3, r4, r5, fun i j cs p hi hj => ?_, (fun hh => by cases hh), by simp [upd]⟩
      obtain ⟨u, q1, q2, q3⟩ := r6 i j cs p hi hj
      exact ⟨u, q1, q2, q3.mono hE⟩
    · rw [upd_ne _ _ hk2] at hl2
      exact fun e => hk2 (h.inj k2 k' hl2 hlive e)
  · have hne : b ≠ g.blk k := by
      intro e
      subst e
      rcases (h.fresh k hlive).1 with h1 | h1
      · omega
      · exact hO h1
    exact upd_ne _ _ hne

theorem Sh.share {ob0 ob : Nat → Obj} (h : Sh ob0 ob) (p : PV) : Sh ob0 (updAll ob (shareCell ob0 p)) := by
  cases p with
  | bld k s off len =>
    simp only [shareCell]
    split
    · rename_i s' e sz es hob
      intro k'
      simp only [updAll]
      by_cases hk : k' = k
      · subst hk; rw [upd_same]; exact .inr ⟨_, _, _, _, hob, rfl⟩
      · rw [upd_ne _ _ hk]; exact h k'
    · exact h
  | _ => exact h

theorem FR.shareCell (h : FR gl ph n B O g s a w) {ob0 : Nat → Obj} (hs : Sh ob0 s.objs) {p q : PV} {v : Value} (hx : KR g w s.objs p v) (hp : pureCell ob0 p = some q) :
    ∃ g', FR gl ph n B O g' ⟨s.env, updAll s.objs (Pf.shareCell ob0 p)⟩ a w ∧ PB B O g.c w g'.c w ∧ Ext g.c w g'.c w ∧ VR g'.c w q v ∧ ObStep g s.objs g' (updAll s.objs (Pf.shareCell ob0 p)) := by
  have hpure : ∀ {p : PV}, p.key = [] → KR g w s.objs p v → VR g.c w p v := fun hk hx => hx.elim id (fun r => absurd hk r.key_ne)
  cases p with
  | sc u => simp only [pureCell, Option.some.injEq] at hp; subst hp; exact ⟨g, h, PB.refl _ _ _ _, Ext.refl _ _, hpure rfl hx, ObStep.refl _ _⟩
  | lst sz es => simp only [pureCell, Option.some.injEq] at hp; subst hp; exact ⟨g, h, PB.refl _ _ _ _, Ext.refl _ _, hpure rfl hx, ObStep.refl _ _⟩
  | eptr cs off => simp only [pureCell, Option.some.injEq] at hp; subst hp; exact ⟨g, h, PB.refl _ _ _ _, Ext.refl _ _, hpure rfl hx, ObStep.refl _ _⟩
  | bld k st off len =>
    simp only [pureCell] at hp
    split at hp
    · rename_i s' e sz es raw0 hob0
      split at hp
      · rename_i hc
        obtain ⟨rfl, hle⟩ := hc
        cases hp
        obtain ⟨raw1, hob⟩ : ∃ raw1, s.objs k = .bld st e sz es raw1 := by
          rcases hs k with h1 | ⟨st', e', sz', es', h1, h2⟩
          · exact ⟨raw0, by rw [h1]; exact hob0⟩
          · rw [hob0] at h1; cases h1; exact ⟨false, h2⟩
        obtain ⟨hF, hPB, hE, hSt⟩ := h.share1 hob
        have hobj : updAll s.objs (Pf.shareCell ob0 (.bld k st off len)) = upd s.objs k (.bld st e sz es false) := by
          simp only [Pf.shareCell, hob0]
          cases raw0 with
          | true => rfl
          | false =>
            simp only [updAll]
            rcases hs k with h1 | ⟨st', e', sz', es', h1, h2⟩
            · exact (upd_self s.objs k _ (by rw [h1]; exact hob0)).symm
            · rw [hob0] at h1; cases h1
        refine ⟨_, by rw [hobj]; exact hF, hPB, hE, ?_, by rw [hobj]; exact hSt⟩
        have hr : RefR g s.objs (.bld k st off len) v := hx.elim (fun r => by cases r) id
        obtain ⟨_, b, o', cap, rfl, h1, h2, h3⟩ := hr
        obtain ⟨f1, f2, f3, f4⟩ := h3 _ _ _ _ hob
        subst f2
        have hO := h.obj k
        rw [hob] at hO
        obtain ⟨arr, r1, r2, r3, r4, r5, r6, r7, r8⟩ := hO
        have hlive : (s.objs k).live := by rw [hob]; trivial
        have hlen : ((es.drop off).take len).length = len := by simp; omega
        have hget : ∀ (i : Nat) (cs : List PV), ((es.drop off).take len)[i]? = some cs → es[off + i]? = some cs ∧ i < len := by
          intro i cs hi
          rw [List.getElem?_take] at hi
          split at hi
          · rename_i hlt; rw [List.getElem?_drop] at hi; exact ⟨hi, hlt⟩
          · cases hi
        have goal : VR (upd g.c (g.blk k) (es.length * sz)) w (.lst sz ((es.drop off).take len)) (.slice (some ⟨g.blk k, o', none⟩) ((es.drop off).take len).length cap) := by
          refine .lst (fun i j => arr.getD ((off + i) * sz + j) undef) (by omega) h2 (h.fresh k hlive).2 (fun hpos => ?_) (fun i cs hi => r5 _ _ (hget i cs hi).1) (fun i j cs p hi hj => ?_) (fun i j cs p hi hj => ?_) (fun i j cs p hi hj => ?_)
          · have ho' := f3 (.inl (by omega))
            rw [upd_same, hlen, ho', ← Nat.add_mul]
            exact Nat.mul_le_mul_right _ (by omega)
          · obtain ⟨u, q1, q2, q3⟩ := r6 (off + i) j cs p (hget i cs hi).1 hj
            have ho' := f3 (.inl (by have := (hget i cs hi).2; omega))
            rw [cell_of_heap r1, ho']
            have e1 : off * sz + (i * sz + j) = (off + i) * sz + j := by rw [Nat.add_mul]; omega
            rw [e1, q1]
            simp [Array.getD_eq_getD_getElem?, q1]
          · obtain ⟨u, q1, q2, q3⟩ := r6 (off + i) j cs p (hget i cs hi).1 hj
            exact q2
          · obtain ⟨u, q1, q2, q3⟩ := r6 (off + i) j cs p (hget i cs hi).1 hj
            have : arr.getD ((off + i) * sz + j) undef = u := by simp [Array.getD_eq_getD_getElem?, q1]
            rw [this]
            exact q3.mono hE
        rw [hlen] at goal
        exact goal
      · simp at hp
    · simp at hp
  | undef => simp [pureCell] at hp
  | agg => simp [pureCell] at hp
  | tup => simp [pureCell] at hp
  | own => simp [pureCell] at hp
  | bptr => simp [pureCell] at hp
  | kptr => simp [pureCell] at hp

theorem pureCell_isCell {ob0 : Nat → Obj} {p q : PV} (hc : p.isCell = true) (h : pureCell ob0 p = some q) : q.isCell = true := by
  cases p with
  | sc u => simp only [pureCell, Option.some.injEq] at h; subst h; exact hc
  | lst sz es => simp only [pureCell, Option.some.injEq] at h; subst h; rfl
  | eptr cs off => simp only [pureCell, Option.some.injEq] at h; subst h; rfl
  | bld k st off len =>
    simp only [pureCell] at h
    split at h
    · split at h
      · cases h; rfl
      · simp at h
    · simp at h
  | _ => simp [pureCell] at h

theorem FR.shareCells {ob0 : Nat → Obj} : ∀ (cs qs : List PV) (vs : List Value) (g : Gh) (s : St), FR gl ph n B O g s a w → Sh ob0 s.objs → cs.length = vs.length →
    (∀ (j : Nat) (q : PV) (u : Value), cs[j]? = some q → vs[j]? = some u → q.isCell = true ∧ KR g w s.objs q u) → pureCells ob0 cs = some qs →
    ∃ g', FR gl ph n B O g' ⟨s.env, updAll s.objs (cs.flatMap (Pf.shareCell ob0))⟩ a w ∧ PB B O g.c w g'.c w ∧ Ext g.c w g'.c w ∧ Sh ob0 (updAll s.objs (cs.flatMap (Pf.shareCell ob0))) ∧
      qs.length = vs.length ∧ (∀ (j : Nat) (q : PV), qs[j]? = some q → q.isCell = true) ∧ ∀ (j : Nat) (q : PV) (u : Value), qs[j]? = some q → vs[j]? = some u → VR g'.c w q u
  | [], qs, vs, g, s, h, hs, hl, _, hp => by
    simp only [pureCells, Option.some.injEq] at hp
    subst hp
    exact ⟨g, h, PB.refl _ _ _ _, Ext.refl _ _, hs, by simpa using hl, by simp, by simp⟩
  | p :: ps, qs, vs, g, s, h, hs, hl, hv, hp => by
    simp only [pureCells] at hp
    split at hp
    · rename_i q qs' h1 h2
      cases hp
      match vs, hl with
      | v :: vs', hl =>
        have hv0 := hv 0 p v rfl rfl
        obtain ⟨g1, F1, PB1, E1, V1, hS1⟩ := h.shareCell hs hv0.2 h1
        have hs1 := hs.share p
        obtain ⟨g2, F2, PB2, E2, S2, L2, C2, V2⟩ := FR.shareCells ps qs' vs' g1 ⟨s.env, updAll s.objs (Pf.shareCell ob0 p)⟩ F1 hs1 (by simpa using hl) (fun j q u hq hu => by
          have := hv (j + 1) q u (by simpa using hq) (by simpa using hu)
          exact ⟨this.1, this.2.step E1 hS1⟩) h2
        refine ⟨g2, ?_, PB1.trans PB2, E1.trans E2, ?_, by simpa using L2, fun j r hr => ?_, fun j r u hr hu => ?_⟩
        · simp only [List.flatMap_cons, updAll_append]; exact F2
        · simp only [List.flatMap_cons, updAll_append]; exact S2
        · cases j with
          | zero =>
            simp at hr; subst hr
            exact pureCell_isCell hv0.1 h1
          | succ j => exact C2 j r (by simpa using hr)
        · cases j with
          | zero => simp at hr hu; subst hr; subst hu; exact V1.mono E2
          | succ j => exact V2 j r u (by simpa using hr) (by simpa using hu)
    · simp at hp

/-- A value that is handed on. -/
theorem FR.shareVal (h : FR gl ph n B O g s a w) {ob0 : Nat → Obj} (hs : Sh ob0 s.objs) {p q : PV} {v : Value} (hx : XR g w s.objs p v) (hp : pureVal ob0 p = some q) :
    ∃ g', FR gl ph n B O g' ⟨s.env, updAll s.objs (Pf.shareVal ob0 p)⟩ a w ∧ PB B O g.c w g'.c w ∧ Ext g.c w g'.c w ∧ Sh ob0 (updAll s.objs (Pf.shareVal ob0 p)) ∧ VR g'.c w q v := by
  cases p with
  | agg cs =>
    simp only [pureVal, Option.map_eq_some_iff] at hp
    obtain ⟨qs, h1, rfl⟩ := hp
    obtain ⟨vs, rfl, hl, hv⟩ := hx.agg_inv
    obtain ⟨g', F, PB', E, S, L, C, V⟩ := FR.shareCells cs qs vs g s h hs hl hv h1
    exact ⟨g', F, PB', E, S, .agg L C V⟩
  | sc u =>
    obtain ⟨g', F, PB', E, V, _⟩ := h.shareCell hs (p := .sc u) (by obtain ⟨rfl, hsc⟩ := hx.sc_inv; exact .inl (.sc hsc)) hp
    exact ⟨g', F, PB', E, hs.share (.sc u), V⟩
  | lst sz es =>
    obtain ⟨g', F, PB', E, V, _⟩ := h.shareCell hs (p := .lst sz es) (.inl hx.lst_inv) hp
    exact ⟨g', F, PB', E, hs.share (.lst sz es), V⟩
  | eptr cs off =>
    obtain ⟨g', F, PB', E, V, _⟩ := h.shareCell hs (p := .eptr cs off) (.inl hx.eptr_inv) hp
    exact ⟨g', F, PB', E, hs.share (.eptr cs off), V⟩
  | bld k st off len =>
    obtain ⟨g', F, PB', E, V, _⟩ := h.shareCell hs (p := .bld k st off len) (.inr (hx.ref_inv (by simp [PV.key]))) hp
    exact ⟨g', F, PB', E, hs.share (.bld k st off len), V⟩
  | undef => simp [pureVal, pureCell] at hp
  | tup => simp [pureVal, pureCell] at hp
  | own => simp [pureVal, pureCell] at hp
  | bptr => simp [pureVal, pureCell] at hp
  | kptr => simp [pureVal, pureCell] at hp

/-- The values of some operands, handed on. -/
theorem FR.shareOpnds {ob0 : Nat → Obj} : ∀ (xs : List Operand) (qs : List PV) (g : Gh) (s : St), FR gl ph n B O g s a w → Sh ob0 s.objs → xs.all opndOk = true → pureVals (evalIn s.env) ob0 xs = some qs →
    ∃ g', FR gl ph n B O g' ⟨s.env, updAll s.objs (xs.flatMap fun x => Pf.shareVal ob0 (evalIn s.env x))⟩ a w ∧ PB B O g.c w g'.c w ∧ Ext g.c w g'.c w ∧ Sh ob0 (updAll s.objs (xs.flatMap fun x => Pf.shareVal ob0 (evalIn s.env x))) ∧
      qs.length = xs.length ∧ ∀ (j : Nat) (q : PV) (x : Operand), qs[j]? = some q → xs[j]? = some x → VR g'.c w q (a.eval x)
  | [], qs, g, s, h, hs, _, hp => by
    simp only [pureVals, Option.some.injEq] at hp
    subst hp
    exact ⟨g, h, PB.refl _ _ _ _, Ext.refl _ _, hs, rfl, by simp⟩
  | x :: xs, qs, g, s, h, hs, hok, hp => by
    simp only [pureVals] at hp
    simp only [List.all_cons, Bool.and_eq_true] at hok
    split at hp
    · rename_i q qs' h1 h2
      cases hp
      obtain ⟨g1, F1, PB1, E1, S1, V1⟩ := h.shareVal hs (h.opnd hok.1) h1
      obtain ⟨g2, F2, PB2, E2, S2, L2, V2⟩ := FR.shareOpnds xs qs' g1 ⟨s.env, updAll s.objs (Pf.shareVal ob0 (evalIn s.env x))⟩ F1 S1 hok.2 h2
      refine ⟨g2, ?_, PB1.trans PB2, E1.trans E2, ?_, by simp [L2], fun j r y hr hy => ?_⟩
      · simp only [List.flatMap_cons, updAll_append]; exact F2
      · simp only [List.flatMap_cons, updAll_append]; exact S2
      · cases j with
        | zero => simp at hr hy; subst hr; subst hy; exact V1.mono E2
        | succ j => exact V2 j r y (by simpa using hr) (by simpa using hy)
    · simp at hp
end
end Go.Pf

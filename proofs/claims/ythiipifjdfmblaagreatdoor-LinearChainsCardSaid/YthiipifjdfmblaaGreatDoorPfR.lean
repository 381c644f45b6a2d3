/- Pure frames, part Q: an operation reads and turns only what it names. -/
import Derived.Test.YthiipifjdfmblaaGreatDoorPfP
set_option linter.unusedVariables false
set_option linter.unusedSimpArgs false
namespace Go.Pf
open Go.RowKit

section
variable {ob ob' : Nat → Obj}

theorem pureCell_congr {p : PV} (h : ∀ k ∈ p.key, ob' k = ob k) : pureCell ob' p = pureCell ob p := by
  cases p with
  | bld k s off len => simp only [pureCell]; rw [h k (by simp [PV.key])]
  | _ => rfl

theorem pureCells_congr : ∀ {cs : List PV}, (∀ k ∈ cs.flatMap PV.key, ob' k = ob k) → pureCells ob' cs = pureCells ob cs
  | [], _ => rfl
  | p :: ps, h => by
    simp only [pureCells]
    rw [pureCell_congr (fun k hk => h k (by simp [hk])), pureCells_congr (fun k hk => h k (by simp only [List.flatMap_cons, List.mem_append]; exact .inr hk))]

theorem pureVal_congr {p : PV} (h : ∀ k ∈ p.keys, ob' k = ob k) : pureVal ob' p = pureVal ob p := by
  cases p with
  | agg cs => simp only [pureVal]; rw [pureCells_congr h]
  | bld k s off len => exact pureCell_congr (p := .bld k s off len) h
  | _ => rfl

theorem shareCell_congr {p : PV} (h : ∀ k ∈ p.key, ob' k = ob k) : shareCell ob' p = shareCell ob p := by
  cases p with
  | bld k s off len => simp only [shareCell]; rw [h k (by simp [PV.key])]
  | _ => rfl

theorem flatMap_congr' {α β : Type} {f f' : α → List β} : ∀ {l : List α}, (∀ x ∈ l, f' x = f x) → l.flatMap f' = l.flatMap f
  | [], _ => rfl
  | x :: xs, h => by simp only [List.flatMap_cons]; rw [h x (by simp), flatMap_congr' (fun y hy => h y (by simp [hy]))]

theorem shareVal_congr {p : PV} (h : ∀ k ∈ p.keys, ob' k = ob k) : shareVal ob' p = shareVal ob p := by
  cases p with
  | agg cs =>
    simp only [shareVal]
    exact flatMap_congr' (fun q hq => shareCell_congr (fun k hk => h k (by simp only [PV.keys, List.mem_flatMap]; exact ⟨q, hq, hk⟩)))
  | bld k s off len => exact shareCell_congr (p := .bld k s off len) h
  | _ => rfl

theorem elems_congr {sz : Nat} {p : PV} (h : ∀ k ∈ p.keys, ob' k = ob k) : elems ob' sz p = elems ob sz p := by
  unfold elems
  split
  · rfl
  · rfl
  · rename_i k s off len; rw [h k (by simp [PV.keys, PV.key])]
  · rfl

variable {ev ev' : Operand → PV}

theorem bound_congr {dflt : Nat} {ox : Option Operand} (h : ∀ x ∈ optL ox, ev' x = ev x) : bound ev' dflt ox = bound ev dflt ox := by
  cases ox with
  | none => rfl
  | some x => simp only [bound]; rw [h x (by simp [optL])]

theorem fillParts_congr : ∀ {ps : List (Nat × Nat × Operand)} {cs : List PV}, (∀ x ∈ ps.map (·.2.2), ev' x = ev x) → fillParts ev' cs ps = fillParts ev cs ps
  | [], _, _ => rfl
  | (off, m, x) :: r, cs, h => by
    simp only [fillParts]
    rw [h x (by simp)]
    split
    · split
      · exact fillParts_congr (fun y hy => h y (by simp only [List.map_cons, List.mem_cons]; exact .inr hy))
      · rfl
    · rfl

theorem fillElems_congr {sz : Nat} : ∀ {ps : List (Nat × Operand)} {es : List (List PV)}, (∀ x ∈ ps.map (·.2), ev' x = ev x) → (∀ x ∈ ps.map (·.2), ∀ k ∈ (ev x).keys, ob' k = ob k) → fillElems ev' ob' sz es ps = fillElems ev ob sz es ps
  | [], _, _, _ => rfl
  | (i, x) :: r, es, h, hk => by
    simp only [fillElems]
    rw [h x (by simp), pureVal_congr (hk x (by simp))]
    split
    · split
      · exact fillElems_congr (fun y hy => h y (by simp only [List.map_cons, List.mem_cons]; exact .inr hy)) (fun y hy => hk y (by simp only [List.map_cons, List.mem_cons]; exact .inr hy))
      · rfl
    · rfl

/-- Does the operation make an object? -/
def ROp.makes : ROp → Bool
  | .alloc _ => true
  | .box _ => true
  | .bslice _ _ _ _ _ _ => true
  | .mkslice _ _ _ _ _ _ => true
  | .append _ _ _ _ _ _ => true
  | .call _ _ _ => true
  | .appz _ _ _ _ _ _ _ => true
  | _ => false

theorem pop_congr {d : Nat} {r : ROp} (h : ∀ x ∈ r.opnds, ev' x = ev x) (hk : r.looks = true → ∀ x ∈ r.opnds, ∀ k ∈ (ev x).keys, ob' k = ob k) (hd : r.makes = true → ob' d = ob d) : pop ev' ob' d r = pop ev ob d r := by
  cases r with
  | mv x => simp only [pop]; rw [h x (by simp [ROp.opnds])]
  | pick c x y => simp only [pop]; rw [h c (by simp [ROp.opnds]), h x (by simp [ROp.opnds]), h y (by simp [ROp.opnds])]
  | alloc zero => simp only [pop]; rw [hd rfl]
  | box x => simp only [pop]; rw [h x (by simp [ROp.opnds]), hd rfl]
  | build zero ps => simp only [pop]; rw [fillParts_congr h]
  | bslice e sz zero len ps raw =>
    have hk := hk rfl
    simp only [pop]
    rw [fillElems_congr h hk, hd rfl]
    have : ps.flatMap (fun p => shareVal ob' (ev' p.2)) = ps.flatMap (fun p => shareVal ob (ev p.2)) :=
      flatMap_congr' (fun p hp => by rw [h p.2 (by simp only [ROp.opnds, List.mem_map]; exact ⟨p, hp, rfl⟩), shareVal_congr (hk p.2 (by simp only [ROp.opnds, List.mem_map]; exact ⟨p, hp, rfl⟩))])
    rw [this]
  | load agg m x =>
    have hx := hk rfl x (by simp [ROp.opnds])
    simp only [pop]; rw [h x (by simp [ROp.opnds])]
    generalize ev x = p at hx
    split
    · rename_i k s off; rw [hx k (by simp [PV.keys, PV.key])]
    · rename_i k s i off; rw [hx k (by simp [PV.keys, PV.key])]
    · rfl
    · rfl
  | store m x v =>
    have hx := hk rfl x (by simp [ROp.opnds])
    have hv := hk rfl v (by simp [ROp.opnds])
    simp only [pop]; rw [h x (by simp [ROp.opnds]), h v (by simp [ROp.opnds]), pureVal_congr hv]
    generalize ev x = p at hx
    split
    · rename_i k s off; rw [hx k (by simp [PV.keys, PV.key])]
    · rename_i k s i off; rw [hx k (by simp [PV.keys, PV.key])]
    · rfl
  | nilchk x => simp only [pop]; rw [h x (by simp [ROp.opnds])]
  | bin op x y => simp only [pop]; rw [h x (by simp [ROp.opnds]), h y (by simp [ROp.opnds])]
  | binb neg x y => simp only [pop]; rw [h x (by simp [ROp.opnds]), h y (by simp [ROp.opnds])]
  | eqs neg x y => simp only [pop]; rw [h x (by simp [ROp.opnds]), h y (by simp [ROp.opnds])]
  | isnil neg x => simp only [pop]; rw [h x (by simp [ROp.opnds])]
  | un op x => simp only [pop]; rw [h x (by simp [ROp.opnds])]
  | cint k x => simp only [pop]; rw [h x (by simp [ROp.opnds])]
  | b2s x => simp only [pop]; rw [h x (by simp [ROp.opnds]), elems_congr (hk rfl x (by simp [ROp.opnds]))]
  | mkslice e sz bytes zero l c => simp only [pop]; rw [h l (by simp [ROp.opnds]), h c (by simp [ROp.opnds]), hd rfl]
  | sslice x lo hi =>
    simp only [pop]
    rw [h x (by simp [ROp.opnds]), bound_congr (dflt := 0) (ox := lo) (fun y hy => h y (by simp [ROp.opnds, hy]))]
    have hb : ∀ dflt, bound ev' dflt hi = bound ev dflt hi := fun dflt => bound_congr (fun y hy => h y (by simp [ROp.opnds, hy]))
    simp only [hb]
  | slc sz x lo hi =>
    have hx := hk rfl x (by simp [ROp.opnds])
    simp only [pop]
    rw [h x (by simp [ROp.opnds]), bound_congr (dflt := 0) (ox := lo) (fun y hy => h y (by simp [ROp.opnds, hy]))]
    have hb : ∀ dflt, bound ev' dflt hi = bound ev dflt hi := fun dflt => bound_congr (fun y hy => h y (by simp [ROp.opnds, hy]))
    simp only [hb]
    generalize ev x = p at hx
    split
    · rfl
    · rename_i k s off len; rw [hx k (by simp [PV.keys, PV.key])]
    · rfl
    · rfl
  | faddr off x => simp only [pop]; rw [h x (by simp [ROp.opnds])]
  | fld agg off m x => simp only [pop]; rw [h x (by simp [ROp.opnds])]
  | iaddr sz x i =>
    have hx := hk rfl x (by simp [ROp.opnds])
    simp only [pop]; rw [h x (by simp [ROp.opnds]), h i (by simp [ROp.opnds])]
    generalize ev x = p at hx
    split
    · rfl
    · rename_i k s off len kk m hm; rw [hx k (by simp [PV.keys, PV.key])]
    · rfl
  | sidx x i => simp only [pop]; rw [h x (by simp [ROp.opnds]), h i (by simp [ROp.opnds])]
  | ext x i => simp only [pop]; rw [h x (by simp [ROp.opnds])]
  | len isStr x => simp only [pop]; rw [h x (by simp [ROp.opnds])]
  | append e sz bytes sl x raw =>
    have hk := hk rfl
    have hs := hk sl (by simp [ROp.opnds])
    simp only [pop]; rw [h sl (by simp [ROp.opnds]), h x (by simp [ROp.opnds]), elems_congr (hk x (by simp [ROp.opnds])), hd rfl]
    generalize ev sl = p at hs
    generalize elems ob sz (ev x) = q
    split
    · rfl
    · rename_i k st len ys; rw [hs k (by simp [PV.keys, PV.key])]
    · rfl
  | mx isMax x y => simp only [pop]; rw [h x (by simp [ROp.opnds]), h y (by simp [ROp.opnds])]
  | appz e sz bytes zero sl x raw => simp only [pop]; rw [h sl (by simp [ROp.opnds]), h x (by simp [ROp.opnds]), hd rfl]
  | cap0 x => simp only [pop]; rw [h x (by simp [ROp.opnds])]
  | clr e sz zero x =>
    have hx := hk rfl x (by simp [ROp.opnds])
    simp only [pop]; rw [h x (by simp [ROp.opnds])]
    generalize ev x = p at hx
    split
    · rfl
    · rename_i k s off len; rw [hx k (by simp [PV.keys, PV.key])]
    · rfl
  | aaddr m sz x i => simp only [pop]; rw [h x (by simp [ROp.opnds]), h i (by simp [ROp.opnds])]
  | aslc m x =>
    have hx := hk rfl x (by simp [ROp.opnds])
    simp only [pop]; rw [h x (by simp [ROp.opnds])]
    generalize ev x = p at hx
    split
    · rename_i k s; rw [hx k (by simp [PV.keys, PV.key])]
    · rfl
  | call f args modes => rfl
  | bad => rfl

theorem pureVals_congr : ∀ {xs : List Operand}, (∀ x ∈ xs, ev' x = ev x) → (∀ x ∈ xs, ∀ k ∈ (ev x).keys, ob' k = ob k) → pureVals ev' ob' xs = pureVals ev ob xs
  | [], _, _ => rfl
  | x :: xs, h, hk => by
    simp only [pureVals]
    rw [h x (by simp), pureVal_congr (hk x (by simp)), pureVals_congr (fun y hy => h y (by simp [hy])) (fun y hy => hk y (by simp [hy]))]

theorem ownArg_congr {p : PV} (h : ∀ k ∈ p.keys, ob' k = ob k) : ownArg ob' p = ownArg ob p := by
  unfold ownArg
  split
  · rfl
  · rename_i k s len; rw [h k (by simp [PV.keys, PV.key])]
  · rfl

theorem prep_congr {m : Mode} {xs : List Operand} (h : ∀ x ∈ xs, ev' x = ev x) (hk : ∀ x ∈ xs, ∀ k ∈ (ev x).keys, ob' k = ob k) : prep ev' ob' m xs = prep ev ob m xs := by
  have hsh : ∀ {ys : List Operand}, (∀ y ∈ ys, y ∈ xs) → ys.flatMap (fun x => shareVal ob' (ev' x)) = ys.flatMap (fun x => shareVal ob (ev x)) := fun hy => flatMap_congr' (fun y hy' => by rw [h y (hy y hy'), shareVal_congr (hk y (hy y hy'))])
  cases m with
  | imm => simp only [prep]; rw [pureVals_congr h hk, hsh (fun y hy => hy)]
  | inout =>
    cases xs with
    | nil => rfl
    | cons x ys =>
      simp only [prep]
      rw [h x (by simp), ownArg_congr (hk x (by simp)), pureVals_congr (fun y hy => h y (by simp [hy])) (fun y hy => hk y (by simp [hy])), hsh (fun y hy => by simp [hy])]
      have hany : (fun k => !ys.any fun y => (ev' y).keys.contains k) = fun k => !ys.any fun y => (ev y).keys.contains k := by
        funext k
        congr 1
        rw [Bool.eq_iff_iff]
        simp only [List.any_eq_true]
        constructor
        · rintro ⟨y, hy, hc⟩; exact ⟨y, hy, by rw [← h y (by simp [hy])]; exact hc⟩
        · rintro ⟨y, hy, hc⟩; exact ⟨y, hy, by rw [h y (by simp [hy])]; exact hc⟩
      rw [hany]
  | eat =>
    cases xs with
    | nil => rfl
    | cons x ys =>
      simp only [prep]
      rw [h x (by simp), ownArg_congr (hk x (by simp)), pureVals_congr (fun y hy => h y (by simp [hy])) (fun y hy => hk y (by simp [hy])), hsh (fun y hy => by simp [hy])]
      have hany : (fun k => !ys.any fun y => (ev' y).keys.contains k) = fun k => !ys.any fun y => (ev y).keys.contains k := by
        funext k
        congr 1
        rw [Bool.eq_iff_iff]
        simp only [List.any_eq_true]
        constructor
        · rintro ⟨y, hy, hc⟩; exact ⟨y, hy, by rw [← h y (by simp [hy])]; exact hc⟩
        · rintro ⟨y, hy, hc⟩; exact ⟨y, hy, by rw [h y (by simp [hy])]; exact hc⟩
      rw [hany]

theorem outUpd_congr {m : Mode} {p : PV} {out : List (List PV)} (h : ∀ k ∈ p.keys, ob' k = ob k) : outUpd ob' m p out = outUpd ob m p out := by
  cases m <;> cases p <;> first | rfl | (simp only [outUpd]; rw [h _ (by simp [PV.keys, PV.key])])

theorem adopt_congr {d : Nat} {res : PV} (h : ob' d = ob d) : adopt ob' d res = adopt ob d res := by
  unfold adopt; rw [h]
end
end Go.Pf
/- Pure frames, part R: a region whose order is drawn: every order that its edges allow ends as the order of the text does, if operations that meet are ordered. -/
namespace Go.Pf
open Go.RowKit

/-- A place of a pure frame: a slot or an object. -/
abbrev Loc := Nat ⊕ Nat
def lk (s : St) : Loc → PV ⊕ Obj
  | .inl t => .inl (s.env t)
  | .inr k => .inr (s.objs k)

theorem St.ext_lk {s t : St} (h : ∀ l, lk s l = lk t l) : s = t := by
  obtain ⟨e1, o1⟩ := s
  obtain ⟨e2, o2⟩ := t
  congr
  · funext i; have := h (.inl i); simpa [lk] using this
  · funext i; have := h (.inr i); simpa [lk] using this

def opndTmp : Operand → List Nat
  | .tmp t => [t]
  | _ => []
def slotsOf (po : POper) : List Nat := po.r.opnds.flatMap opndTmp ++ (match po.guard with | some (t, _) => [t] | none => [])
def readsOf (po : POper) : List Loc := (slotsOf po).map .inl ++ po.rk.map .inr
def writesOf (po : POper) : List Loc := po.dst.toList.map .inl ++ po.wk.map .inr

/-- What a step does depends on what the operation reads, and turns what it writes. -/
def StepLoc (gl : Gl) (P : Program) (po : POper) (s s' : St) : Prop :=
  PStep gl P po s s' ∧ (∀ l, l ∉ writesOf po → lk s' l = lk s l) ∧
  ∀ t, (∀ l ∈ readsOf po ++ writesOf po, lk t l = lk s l) → ∃ t', PStep gl P po t t' ∧ (∀ l ∈ writesOf po, lk t' l = lk s' l) ∧ ∀ l, l ∉ writesOf po → lk t' l = lk t l

theorem updAll_get : ∀ (us : List (Nat × Obj)) (f f' : Nat → Obj) (k : Nat), f' k = f k → updAll f' us k = updAll f us k
  | [], _, _, _, h => h
  | (k', x) :: r, f, f', k, h => by
    simp only [updAll]
    refine updAll_get r _ _ k ?_
    by_cases hk : k = k'
    · subst hk; rw [upd_same, upd_same]
    · rw [upd_ne _ _ hk, upd_ne _ _ hk, h]

theorem step_lk {po : POper} {s : St} {v : PV} {us : List (Nat × Obj)} (hu : ∀ u ∈ us, u.1 ∈ po.wk) : ∀ l, l ∉ writesOf po → lk ⟨put s.env po.dst v, updAll s.objs us⟩ l = lk s l := by
  intro l hl
  cases l with
  | inl t =>
    simp only [lk, Sum.inl.injEq]
    cases hd : po.dst with
    | none => rfl
    | some d =>
      have : t ≠ d := by rintro rfl; exact hl (by simp [writesOf, hd])
      simp only [put]; rw [upd_ne _ _ this]
  | inr k =>
    simp only [lk, Sum.inr.injEq]
    exact updAll_ne _ _ _ (fun u hu' e => hl (by simp only [writesOf, List.mem_append, List.mem_map]; exact .inr ⟨k, e ▸ hu u hu', rfl⟩))

theorem step_same {po : POper} {s t : St} {v : PV} {us : List (Nat × Obj)} (hw : ∀ l ∈ writesOf po, lk t l = lk s l) : ∀ l ∈ writesOf po, lk ⟨put t.env po.dst v, updAll t.objs us⟩ l = lk ⟨put s.env po.dst v, updAll s.objs us⟩ l := by
  intro l hl
  cases l with
  | inl i =>
    simp only [lk, Sum.inl.injEq]
    simp only [writesOf, List.mem_append, List.mem_map] at hl
    rcases hl with ⟨d, hd, e⟩ | ⟨_, _, e⟩
    · cases e
      have : po.dst = some i := by simpa using hd
      rw [this]; simp [put, upd]
    · cases e
  | inr k =>
    simp only [lk, Sum.inr.injEq]
    have := hw _ hl
    simp only [lk, Sum.inr.injEq] at this
    exact updAll_get _ _ _ _ this

theorem eval_agree {po : POper} {s t : St} (h : ∀ l ∈ readsOf po, lk t l = lk s l) : ∀ x ∈ po.r.opnds, evalIn t.env x = evalIn s.env x := by
  intro x hx
  cases x with
  | tmp i =>
    have := h (.inl i) (by simp only [readsOf, slotsOf, List.mem_append, List.mem_map, List.mem_flatMap]; exact .inl ⟨i, .inl ⟨_, hx, by simp [opndTmp]⟩, rfl⟩)
    simpa [lk, evalIn] using this
  | _ => rfl

theorem wanted_agree {po : POper} {s t : St} (h : ∀ l ∈ readsOf po, lk t l = lk s l) : wantedIn t.env po.guard = wantedIn s.env po.guard := by
  cases hg : po.guard with
  | none => rfl
  | some x =>
    obtain ⟨i, b⟩ := x
    have := h (.inl i) (by simp [readsOf, slotsOf, hg])
    have e : t.env i = s.env i := by simpa [lk] using this
    simp only [wantedIn, e]

theorem firstOf_agree {ev ev' : Operand → PV} {args : List Operand} (h : ∀ x ∈ args, ev' x = ev x) : firstOf ev' args = firstOf ev args := by
  cases args with
  | nil => rfl
  | cons x xs => exact h x (by simp)

/-- A step in a drawn region names what it meets. -/
theorem StepLoc.of_pwOp {P : Program} {gl : Gl} {po : POper} {s : St} {Kp : St → Prop} (hmk : po.r.makes = true → po.dst.getD 0 ∈ po.wk) (h : pwOp gl P true po s Kp) : ∃ s', StepLoc gl P po s s' ∧ Kp s' := by
  unfold pwOp at h
  split at h
  · rename_i hw
    obtain ⟨hmet, h⟩ := h
    have agree : ∀ t, (∀ l ∈ readsOf po ++ writesOf po, lk t l = lk s l) → (∀ x ∈ po.r.opnds, evalIn t.env x = evalIn s.env x) ∧ (po.r.looks = true → ∀ x ∈ po.r.opnds, ∀ k ∈ (evalIn s.env x).keys, t.objs k = s.objs k) ∧ (po.r.makes = true → t.objs (po.dst.getD 0) = s.objs (po.dst.getD 0)) ∧ wantedIn t.env po.guard = some true := by
      intro t ht
      have hr : ∀ l ∈ readsOf po, lk t l = lk s l := fun l hl => ht l (by simp [hl])
      refine ⟨eval_agree hr, fun hlk x hx k hk => ?_, fun hm => ?_, by rw [wanted_agree hr]; exact hw⟩
      · have := ht (.inr k) (by simp only [readsOf, List.mem_append, List.mem_map]; exact .inl (.inr ⟨k, hmet rfl hlk x hx k hk, rfl⟩))
        simpa [lk] using this
      · have := ht (.inr (po.dst.getD 0)) (by simp only [writesOf, List.mem_append, List.mem_map]; exact .inr (.inr ⟨_, hmk hm, rfl⟩))
        simpa [lk] using this
    split at h
    · rename_i f args modes hr
      split at h
      · rename_i fid x y hf
        split at h
        · rename_i ps us hprep
          obtain ⟨res, out, hRC, hturn, hK⟩ := h
          refine ⟨_, ⟨.call hw hr hf hprep hRC, step_lk (fun u hu => hturn rfl u hu), fun t ht => ?_⟩, hK⟩
          obtain ⟨a1, a2, a3, a4⟩ := agree t ht
          rw [hr] at a1 a2 a3
          have a2 := a2 rfl
          have hf' : evalIn t.env f = .sc (.func (.func fid) x y) := by rw [a1 f (by simp [ROp.opnds])]; exact hf
          have hp' : prep (evalIn t.env) t.objs (headMode modes) args = some (ps, us) := by
            rw [prep_congr (fun z hz => a1 z (by simp [ROp.opnds, hz])) (fun z hz => a2 z (by simp [ROp.opnds, hz]))]; exact hprep
          have hfo : firstOf (evalIn t.env) args = firstOf (evalIn s.env) args := firstOf_agree (fun z hz => a1 z (by simp [ROp.opnds, hz]))
          have hou : outUpd t.objs (headMode modes) (firstOf (evalIn s.env) args) out = outUpd s.objs (headMode modes) (firstOf (evalIn s.env) args) out := by
            refine outUpd_congr (fun k hk => ?_)
            cases args with
            | nil => simp [firstOf, PV.keys, PV.key] at hk
            | cons z zs => exact a2 z (by simp [ROp.opnds]) k hk
          have had : adopt t.objs (po.dst.getD 0) res = adopt s.objs (po.dst.getD 0) res := adopt_congr (a3 rfl)
          have hst := PStep.call a4 hr hf' hp' hRC
          rw [hfo, hou, had] at hst
          exact ⟨_, hst, step_same (fun l hl => ht l (by simp [hl])), step_lk (fun u hu => hturn rfl u hu)⟩
        · exact h.elim
      · exact h.elim
    · split at h
      · rename_i v us hp
        refine ⟨_, ⟨.pop hw hp, step_lk (fun u hu => h.1 rfl u hu), fun t ht => ?_⟩, h.2⟩
        obtain ⟨a1, a2, a3, a4⟩ := agree t ht
        have hp' : pop (evalIn t.env) t.objs (po.dst.getD 0) po.r = some (v, us) := by rw [pop_congr a1 a2 a3]; exact hp
        exact ⟨_, .pop a4 hp', step_same (fun l hl => ht l (by simp [hl])), step_lk (fun u hu => h.1 rfl u hu)⟩
      · exact h.elim
  · rename_i hw
    refine ⟨_, ⟨.skip hw, fun l hl => step_lk (us := []) (by simp) l hl, fun t ht => ?_⟩, h⟩
    have hw' : wantedIn t.env po.guard = some false := by rw [wanted_agree (fun l hl => ht l (by simp [hl]))]; exact hw
    exact ⟨_, .skip hw', fun l hl => step_same (us := []) (fun l hl => ht l (by simp [hl])) l hl, fun l hl => step_lk (us := []) (by simp) l hl⟩
  · exact h.elim

theorem trace_of {P : Program} {gl : Gl} {Kp : St → Prop} : ∀ (pos : List POper) (s : St), (∀ po ∈ pos, po.r.makes = true → po.dst.getD 0 ∈ po.wk) → pwOps gl P true pos s Kp →
    ∃ tr : Nat → St, tr 0 = s ∧ Kp (tr pos.length) ∧ ∀ (i : Nat) (po : POper), pos[i]? = some po → StepLoc gl P po (tr i) (tr (i + 1))
  | [], s, _, h => ⟨fun _ => s, rfl, h, by simp⟩
  | po :: pos, s, hmk, h => by
    obtain ⟨s', hs, hk⟩ := StepLoc.of_pwOp (hmk po (by simp)) h
    obtain ⟨tr, h0, hn, hst⟩ := trace_of pos s' (fun q hq => hmk q (by simp [hq])) hk
    refine ⟨fun i => match i with | 0 => s | i + 1 => tr i, rfl, hn, fun i q hq => ?_⟩
    cases i with
    | zero => simp at hq; subst hq; show StepLoc gl P po s (tr 0); rw [h0]; exact hs
    | succ i => exact hst i q (by simpa using hq)
end Go.Pf

/- Pure frames, part S: a region whose order is drawn, in whatever order its edges allow. -/
import Derived.Test.YthiipifjdfmblaaGreatDoorPfR
set_option linter.unusedVariables false
set_option linter.unusedSimpArgs false
namespace Go.Pf
open Go.RowKit

/-- The operation j comes behind i, by the region's edges. -/
inductive Anc (ops : Array Oper) : Nat → Nat → Prop where
  | edge {i j : Nat} {o : Oper} {e : Edge} (ho : ops[j]? = some o) (he : e ∈ o.after) (hb : Region.binds .any e = true) (hi : e.on = i) : Anc ops i j
  | trans {i j k : Nat} (h : Anc ops i j) (h' : Anc ops j k) : Anc ops i k

def Conf (p q : POper) : Prop := (∃ l ∈ writesOf p, l ∈ readsOf q ++ writesOf q) ∨ (∃ l ∈ readsOf p, l ∈ writesOf q)

/-- Operations that meet are ordered; every edge goes back. -/
structure DrawOk (ops : Array Oper) (pos : List POper) : Prop where
  size : ops.size = pos.length
  back : ∀ (j : Nat) (o : Oper), ops[j]? = some o → ∀ e ∈ o.after, Region.binds .any e = true → e.on < j
  conf : ∀ (i j : Nat) (p q : POper), i < j → pos[i]? = some p → pos[j]? = some q → Conf p q → Anc ops i j
  makes : ∀ po ∈ pos, po.r.makes = true → po.dst.getD 0 ∈ po.wk

def Ex (listed : Array Bool) (i : Nat) : Prop := listed.getD i false = true

theorem Anc.ex {ops : Array Oper} {listed : Array Bool} (hc : ∀ j, Ex listed j → ∀ o e, ops[j]? = some o → e ∈ o.after → Region.binds .any e = true → Ex listed e.on) {i j : Nat} (h : Anc ops i j) : Ex listed j → Ex listed i := by
  induction h with
  | edge ho he hb hi => intro hj; rw [← hi]; exact hc _ hj _ _ ho he hb
  | trans _ _ ih1 ih2 => exact fun h => ih1 (ih2 h)

/-- What has been done so far, whatever the order. -/
structure SInv (ops : Array Oper) (pos : List POper) (tr : Nat → St) (listed : Array Bool) (t : St) : Prop where
  size : listed.size = ops.size
  closed : ∀ j, Ex listed j → ∀ o e, ops[j]? = some o → e ∈ o.after → Region.binds .any e = true → Ex listed e.on
  none : ∀ l, (∀ i p, Ex listed i → pos[i]? = some p → l ∉ writesOf p) → lk t l = lk (tr 0) l
  last : ∀ l i p, Ex listed i → pos[i]? = some p → l ∈ writesOf p → (∀ j q, Ex listed j → i < j → pos[j]? = some q → l ∉ writesOf q) → lk t l = lk (tr (i + 1)) l

theorem tr_const {P : Program} {gl : Gl} {pos : List POper} {tr : Nat → St} (hst : ∀ (i : Nat) (po : POper), pos[i]? = some po → StepLoc gl P po (tr i) (tr (i + 1))) (l : Loc) (i : Nat) : ∀ d, i + d ≤ pos.length →
    (∀ j p, i ≤ j → j < i + d → pos[j]? = some p → l ∉ writesOf p) → lk (tr (i + d)) l = lk (tr i) l
  | 0, _, _ => rfl
  | d + 1, hle, h => by
    have hlt : i + d < pos.length := by omega
    have hp := List.getElem?_eq_getElem hlt
    rw [show i + (d + 1) = (i + d) + 1 by omega, (hst (i + d) _ hp).2.1 l (h (i + d) _ (by omega) (by omega) hp)]
    exact tr_const hst l i d (by omega) (fun j p h1 h2 => h j p h1 (by omega))

/-- The last of the operations before j that satisfies something. -/
theorem last_before (A : Nat → Prop) : ∀ j, (∀ i, i < j → ¬ A i) ∨ ∃ i, i < j ∧ A i ∧ ∀ k, i < k → k < j → ¬ A k
  | 0 => .inl (by omega)
  | j + 1 => by
    rcases Classical.em (A j) with h | h
    · exact .inr ⟨j, by omega, h, fun k h1 h2 => by omega⟩
    · rcases last_before A j with h1 | ⟨i, h1, h2, h3⟩
      · refine .inl (fun i hi => ?_)
        rcases Nat.lt_or_ge i j with hlt | hge
        · exact h1 i hlt
        · have : i = j := by omega
          subst this; exact h
      · refine .inr ⟨i, by omega, h2, fun k hk1 hk2 => ?_⟩
        rcases Nat.lt_or_ge k j with hlt | hge
        · exact h3 k hk1 hlt
        · have : k = j := by omega
          subst this; exact h

section
variable {P : Program} {n B : Nat} {O : Option Nat} {gl : Gl} {ph : Option (Nat × Value)} {Q : Exit → Act → World → Prop} {ops : Array Oper} {pos : List POper} {tr : Nat → St} {listed : Array Bool} {t : St}

/-- At an operation that is ready the places that it meets hold what they hold in the order of the text. -/
theorem SInv.agree (hD : DrawOk ops pos) (hst : ∀ (i : Nat) (po : POper), pos[i]? = some po → StepLoc gl P po (tr i) (tr (i + 1))) (h : SInv ops pos tr listed t) {j : Nat} {q : POper} (hq : pos[j]? = some q) (hnj : ¬ Ex listed j)
    (hrd : ∀ o e, ops[j]? = some o → e ∈ o.after → Region.binds .any e = true → Ex listed e.on) : ∀ l ∈ readsOf q ++ writesOf q, lk t l = lk (tr j) l := by
  intro l hl
  have hjl : j < pos.length := (List.getElem?_eq_some_iff.1 hq).1
  have before : ∀ i p, i < j → pos[i]? = some p → l ∈ writesOf p → Ex listed i := by
    intro i p hij hp hw
    have ha : Anc ops i j := hD.conf i j p q hij hp hq (.inl ⟨l, hw, hl⟩)
    have : ∀ {i j : Nat}, Anc ops i j → (∀ o e, ops[j]? = some o → e ∈ o.after → Region.binds .any e = true → Ex listed e.on) → Ex listed i := by
      intro i j ha
      induction ha with
      | edge ho he hb hi => intro hr; rw [← hi]; exact hr _ _ ho he hb
      | trans h1 h2 ih1 ih2 => intro hr; exact h1.ex h.closed (ih2 hr)
    exact this ha hrd
  have after : ∀ i p, j < i → pos[i]? = some p → l ∈ writesOf p → ¬ Ex listed i := by
    intro i p hij hp hw hex
    have hcf : Conf q p := by
      simp only [List.mem_append] at hl
      rcases hl with hl | hl
      · exact .inr ⟨l, hl, hw⟩
      · exact .inl ⟨l, hl, by simp [hw]⟩
    exact hnj ((hD.conf j i q p hij hq hp hcf).ex h.closed hex)
  rcases last_before (fun i => ∃ p, pos[i]? = some p ∧ l ∈ writesOf p) j with h1 | ⟨i, h1, ⟨p, hp, hw⟩, h2⟩
  · rw [h.none l (fun i p hex hp hw => ?_)]
    · have := tr_const hst l 0 j (by omega) (fun i p _ hi hp hw => h1 i (by omega) ⟨p, hp, hw⟩)
      rw [Nat.zero_add] at this
      exact this.symm
    · rcases Nat.lt_trichotomy i j with h3 | h3 | h3
      · exact h1 i h3 ⟨p, hp, hw⟩
      · subst h3; exact hnj hex
      · exact after i p h3 hp hw hex
  · rw [h.last l i p (before i p h1 hp hw) hp hw (fun k r hex hk hr hw' => ?_)]
    · have := tr_const hst l (i + 1) (j - (i + 1)) (by omega) (fun k r hk1 hk2 hr hw' => h2 k (by omega) (by omega) ⟨r, hr, hw'⟩)
      rw [show i + 1 + (j - (i + 1)) = j by omega] at this
      exact this.symm
    · rcases Nat.lt_trichotomy k j with h3 | h3 | h3
      · exact h2 k hk h3 ⟨r, hr, hw'⟩
      · subst h3; exact hnj hex
      · exact after k r h3 hr hw' hex

theorem ex_set {i j : Nat} (hlt : i < listed.size) : Ex (listed.setIfInBounds i true) j ↔ j = i ∨ Ex listed j := by
  by_cases hij : j = i
  · subst hij
    simp [Ex, hlt]
  · simp only [Ex, hij, false_or]
    rw [getD_set_ne false (fun e => hij e.symm)]

/-- One more operation is done. -/
theorem SInv.next (hD : DrawOk ops pos) (h : SInv ops pos tr listed t) {j : Nat} {q : POper} (hq : pos[j]? = some q) (hnj : ¬ Ex listed j)
    (hrd : ∀ o e, ops[j]? = some o → e ∈ o.after → Region.binds .any e = true → Ex listed e.on) {t' : St} (ht1 : ∀ l ∈ writesOf q, lk t' l = lk (tr (j + 1)) l) (ht2 : ∀ l, l ∉ writesOf q → lk t' l = lk t l) :
    SInv ops pos tr (listed.setIfInBounds j true) t' := by
  have hjl : j < pos.length := (List.getElem?_eq_some_iff.1 hq).1
  have hjs : j < listed.size := by rw [h.size, hD.size]; exact hjl
  have after : ∀ l i p, l ∈ writesOf q → j < i → pos[i]? = some p → l ∈ writesOf p → ¬ Ex listed i := by
    intro l i p hl hij hp hw hex
    exact hnj ((hD.conf j i q p hij hq hp (.inl ⟨l, hl, by simp [hw]⟩)).ex h.closed hex)
  refine ⟨by simp [h.size], fun i hi o e ho he hb => ?_, fun l hn => ?_, fun l i p hi hp hw hn => ?_⟩
  · rw [ex_set hjs] at hi ⊢
    rcases hi with rfl | hi
    · exact .inr (hrd o e ho he hb)
    · exact .inr (h.closed i hi o e ho he hb)
  · have hnw : l ∉ writesOf q := hn j q ((ex_set hjs).2 (.inl rfl)) hq
    rw [ht2 l hnw]
    exact h.none l (fun i p hi => hn i p ((ex_set hjs).2 (.inr hi)))
  · rw [ex_set hjs] at hi
    by_cases hij : i = j
    · subst hij
      rw [hq] at hp; cases hp
      exact ht1 l hw
    · have hi' : Ex listed i := hi.resolve_left hij
      have hnw : l ∉ writesOf q := by
        intro hl
        rcases Nat.lt_or_gt_of_ne hij with h1 | h1
        · exact hn j q ((ex_set hjs).2 (.inl rfl)) h1 hq hl
        · exact after l i p hl h1 hp hw hi'
      rw [ht2 l hnw]
      exact h.last l i p hi' hp hw (fun k r hk => hn k r ((ex_set hjs).2 (.inr hk)))

theorem SInv.done (hst : ∀ (i : Nat) (po : POper), pos[i]? = some po → StepLoc gl P po (tr i) (tr (i + 1))) (h : SInv ops pos tr listed t) (hall : ∀ j, j < pos.length → Ex listed j) : t = tr pos.length := by
  refine St.ext_lk (fun l => ?_)
  rcases last_before (fun i => ∃ p, pos[i]? = some p ∧ l ∈ writesOf p) pos.length with h1 | ⟨i, h1, ⟨p, hp, hw⟩, h2⟩
  · rw [h.none l (fun i p hex hp hw => h1 i (List.getElem?_eq_some_iff.1 hp).1 ⟨p, hp, hw⟩)]
    have := tr_const hst l 0 pos.length (by omega) (fun i p _ hi hp hw => h1 i (by omega) ⟨p, hp, hw⟩)
    rw [Nat.zero_add] at this
    exact this.symm
  · rw [h.last l i p (hall i h1) hp hw (fun k r hex hk hr hw' => h2 k hk (List.getElem?_eq_some_iff.1 hr).1 ⟨r, hr, hw'⟩)]
    have := tr_const hst l (i + 1) (pos.length - (i + 1)) (by omega) (fun k r hk1 hk2 hr hw' => h2 k (by omega) (by omega) ⟨r, hr, hw'⟩)
    rw [show i + 1 + (pos.length - (i + 1)) = pos.length by omega] at this
    exact this.symm

/-- Nothing is ready only where all is done. -/
theorem all_done (hD : DrawOk ops pos) (hs : listed.size = ops.size) (hr : Region.ready .any ops listed = []) : ∀ j, j < pos.length → Ex listed j := by
  intro j
  induction j using Nat.strongRecOn with
  | _ j ih =>
    intro hj
    rcases Classical.em (Ex listed j) with h | h
    · exact h
    · exfalso
      have hlt : j < ops.size := by rw [hD.size]; exact hj
      have ho := Array.getElem?_eq_getElem hlt
      have : j ∈ Region.ready .any ops listed := by
        rw [mem_ready]
        refine ⟨?_, _, ho, fun e he hb => ih e.on (hD.back j _ ho e he hb) (by have := hD.back j _ ho e he hb; omega)⟩
        have hjs : j < listed.size := by omega
        have h2 : ¬ listed.getD j false = true := h
        simp [Array.getD_eq_getD_getElem?, hjs] at h2 ⊢
        exact h2
      rw [hr] at this
      cases this
end
end Go.Pf
/- Pure frames, part T: a region whose order is drawn. -/
namespace Go.Pf
open Go.RowKit

theorem count_set : ∀ (l : List Bool) (i : Nat), l[i]? = some false → (l.set i true).count false + 1 = l.count false
  | [], i, h => by simp at h
  | x :: l, 0, h => by simp at h; subst h; simp
  | x :: l, i + 1, h => by
    have := count_set l i (by simpa using h)
    simp only [List.set_cons_succ, List.count_cons]
    omega

theorem FR.drew {n B : Nat} {O : Option Nat} {gl : Gl} {ph : Option (Nat × Value)} {g : Gh} {s : St} {a : Act} {w : World} (h : FR gl ph n B O g s a w) (k : Nat) : FR gl ph n B O g s a { w with drawn := k } := by
  have hE : Ext g.c w g.c { w with drawn := k } := ⟨Nat.le_refl _, fun _ _ => Nat.le_refl _, fun _ _ _ _ => rfl⟩
  exact h.pass s.objs (fun _ => False) hE (ObStep.refl g s.objs) (fun _ _ => rfl) (fun _ _ _ => ⟨rfl, rfl, rfl, rfl⟩) (fun _ hf => hf.elim)

theorem PB.drew (B : Nat) (O : Option Nat) (c : Nat → Nat) (w : World) (k : Nat) : PB B O c w c { w with drawn := k } := ⟨rfl, rfl, rfl, Nat.le_refl _, fun _ _ _ => rfl, fun _ _ _ => rfl⟩

section
variable {P : Program} {n B : Nat} {O : Option Nat} {gl : Gl} {ph : Option (Nat × Value)} {Q : Exit → Act → World → Prop} {ops : Array Oper} {pos : List POper} {tr : Nat → St} {c0 : Nat → Nat} {w0 : World}

theorem any_of (hD : DrawOk ops pos) (hops : ∀ (j : Nat) (po : POper), pos[j]? = some po → ∃ o, ops[j]? = some o ∧ RsO P n ops o po)
    (hst : ∀ (i : Nat) (po : POper), pos[i]? = some po → StepLoc gl P po (tr i) (tr (i + 1)))
    (hQ : ∀ g' a' w', FR gl ph n B O g' (tr pos.length) a' w' → PB B O c0 w0 g'.c w' → Q .normal a' w') :
    ∀ (fuel : Nat) (listed : Array Bool) (t : St) (g : Gh) (a : Act) (w : World), listed.toList.count false ≤ fuel → SInv ops pos tr listed t → FR gl ph n B O g t a w → PB B O c0 w0 g.c w → wpAny P .any ops Q fuel listed a w := by
  have fin : ∀ (listed : Array Bool) (t : St) (g : Gh) (a : Act) (w : World), SInv ops pos tr listed t → FR gl ph n B O g t a w → PB B O c0 w0 g.c w → Region.ready .any ops listed = [] → Q .normal a w := by
    intro listed t g a w hS hF hP hr
    have e := SInv.done hst hS (all_done hD hS.size hr)
    rw [e] at hF
    exact hQ g a w hF hP
  intro fuel
  induction fuel with
  | zero =>
    intro listed t g a w hc hS hF hP
    have hr : Region.ready .any ops listed = [] := by
      refine List.eq_nil_iff_forall_not_mem.2 (fun j hj => ?_)
      rw [mem_ready] at hj
      obtain ⟨h1, o, ho, _⟩ := hj
      have hjs : j < listed.size := by rw [hS.size]; exact (Array.getElem?_eq_some_iff.1 ho).1
      have : false ∈ listed.toList := by
        simp [Array.getD_eq_getD_getElem?, hjs] at h1
        exact h1 ▸ (by simp)
      have := List.count_pos_iff.2 this
      omega
    exact ⟨hr, fin listed t g a w hS hF hP hr⟩
  | succ fuel ih =>
    intro listed t g a w hc hS hF hP
    refine ⟨fin listed t g a w hS hF hP, fun j hj => ?_⟩
    rw [mem_ready] at hj
    obtain ⟨h1, o, ho, hrd⟩ := hj
    have hjo : j < ops.size := (Array.getElem?_eq_some_iff.1 ho).1
    have hjs : j < listed.size := by rw [hS.size]; exact hjo
    have hjp : j < pos.length := by rw [← hD.size]; exact hjo
    have hq := List.getElem?_eq_getElem hjp
    have hnj : ¬ Ex listed j := by
      simp [Array.getD_eq_getD_getElem?, hjs] at h1
      simp [Ex, Array.getD_eq_getD_getElem?, hjs, h1]
    have hrd' : ∀ o' e, ops[j]? = some o' → e ∈ o'.after → Region.binds .any e = true → Ex listed e.on := by
      intro o' e ho' he hb
      rw [ho] at ho'; cases ho'
      exact hrd e he hb
    obtain ⟨t', hp', ht1, ht2⟩ := (hst j _ hq).2.2 t (SInv.agree hD hst hS hq hnj hrd')
    obtain ⟨o', ho', hro⟩ := hops j _ hq
    rw [ho] at ho'; cases ho'
    refine sim_step hF ho hro hp' (fun g' a' w' hF' hP' => ?_)
    refine ih _ t' g' a' w' ?_ (SInv.next hD hS hq hnj hrd' ht1 ht2) hF' (hP.trans hP')
    have hget : listed.toList[j]? = some false := by
      simp [Array.getD_eq_getD_getElem?, hjs] at h1
      simp [hjs, h1]
    have := count_set listed.toList j hget
    rw [Array.toList_setIfInBounds]
    omega

/-- A region whose order is drawn. -/
theorem sim_draw {id : Nat} {g : Gh} {s : St} {a : Act} {w : World} {Kp : St → Prop} (hm : P.follows .mixedOrders = true) (hD : DrawOk ops pos)
    (hops : ∀ (j : Nat) (po : POper), pos[j]? = some po → ∃ o, ops[j]? = some o ∧ RsO P n ops o po) (hp : pwOps gl P true pos s Kp) (h : FR gl ph n B O g s a w) (hPB : PB B O c0 w0 g.c w)
    (hQ : ∀ g' s' a' w', Kp s' → FR gl ph n B O g' s' a' w' → PB B O c0 w0 g'.c w' → Q .normal a' w') : (Code.region id ops true).wp P Q a w := by
  obtain ⟨tr, h0, hn, hst⟩ := trace_of pos s hD.makes hp
  refine wp_region_any hm ?_
  refine any_of hD hops hst (fun g' a' w' hF hP => hQ g' _ a' w' hn hF hP) ops.size _ s g a _ ?_ ?_ (h.drew _) (hPB.trans (PB.drew _ _ _ _ _))
  · simp
  · have no : ∀ j, ¬ Ex (Array.replicate ops.size false) j := by
      intro j hj
      simp only [Ex, Array.getD_eq_getD_getElem?, Array.getElem?_replicate] at hj
      split at hj <;> simp at hj
    refine ⟨by simp, fun j hj => ?_, fun l _ => by rw [h0], fun l i p hi => ?_⟩
    · exact absurd hj (no j)
    · exact absurd hi (no i)
end
end Go.Pf

/- Pure frames, part R: a region whose order is drawn: every order that its edges allow ends as the order of the text does, if operations that meet are ordered. -/
import Derived.Test.YtlefgpakmgbgaaaGreatDoorEg
set_option linter.unusedVariables false
set_option linter.unusedSimpArgs false
set_option linter.unusedSectionVars false
section
namespace Go.Hf
open Go.RowKit
abbrev Loc := Nat ⊕ Nat
def obsAt (bs c : Nat) (ob : Nat → Obj) : Nat → Obj := fun k => if cls bs k = c then ob k else .no 0
def lk (bs : Nat) (s : St) : Loc → PV ⊕ (Nat → Obj)
  | .inl t => .inl (s.env t)
  | .inr c => .inr (obsAt bs c s.objs)
theorem obsAt_eq {bs c : Nat} {ob ob' : Nat → Obj} : obsAt bs c ob = obsAt bs c ob' ↔ ∀ k, cls bs k = c → ob k = ob' k := by
  constructor
  · intro h k hk
    have := congrFun h k
    simpa [obsAt, hk] using this
  · intro h
    funext k
    simp only [obsAt]
    split
    · rename_i hk; exact h k hk
    · rfl
theorem St.ext_lk {bs : Nat} {s t : St} (h : ∀ l, lk bs s l = lk bs t l) : s = t := by
  obtain ⟨e1, o1⟩ := s
  obtain ⟨e2, o2⟩ := t
  congr
  · funext i; have := h (.inl i); simpa [lk] using this
  · funext i; have := h (.inr (cls bs i)); simp only [lk, Sum.inr.injEq, obsAt_eq] at this; exact this i rfl
theorem updAll_ne : ∀ (us : List (Nat × Obj)) (f : Nat → Obj) (k : Nat), (∀ u ∈ us, u.1 ≠ k) → updAll f us k = f k
  | [], _, _, _ => rfl
  | (k', x) :: r, f, k, h => by
    simp only [updAll]
    rw [updAll_ne r _ k (fun u hu => h u (by simp [hu])), upd_ne _ _ (fun e => h (k', x) (by simp) e.symm)]
def opndTmp : Operand → List Nat
  | .tmp t => [t]
  | _ => []
def slotsOf (po : POper) : List Nat := po.r.opnds.flatMap opndTmp ++ (match po.guard with | some (t, _) => [t] | none => [])
def expand (rk : List Nat) : List Nat := if rk.contains 4097 then List.range 4099 else rk
theorem cls_le (bs k : Nat) : cls bs k ≤ 4098 := by unfold cls; split; omega; split <;> omega
theorem mem_expand {bs k : Nat} {rk : List Nat} (h : cls bs k ∈ rk) : cls bs k ∈ expand rk := by
  unfold expand
  split
  · have := cls_le bs k; simp; omega
  · exact h
theorem mem_expand_all {bs k : Nat} {rk : List Nat} (h : 4097 ∈ rk) : cls bs k ∈ expand rk := by
  unfold expand
  rw [if_pos (by simpa using h)]
  have := cls_le bs k; simp; omega
def readsOf (po : POper) : List Loc := (slotsOf po).map .inl ++ (expand po.rk).map .inr
def writesOf (po : POper) : List Loc := po.dst.toList.map .inl ++ po.wk.map .inr
def StepLoc (gl : Gl) (P : Program) (bs : Nat) (po : POper) (s s' : St) : Prop :=
  PStep gl P bs true po s s' ∧ (∀ l, l ∉ writesOf po → lk bs s' l = lk bs s l) ∧
  ∀ t, (∀ l ∈ readsOf po ++ writesOf po, lk bs t l = lk bs s l) → ∃ t', PStep gl P bs true po t t' ∧ (∀ l ∈ writesOf po, lk bs t' l = lk bs s' l) ∧ ∀ l, l ∉ writesOf po → lk bs t' l = lk bs t l
theorem updAll_get : ∀ (us : List (Nat × Obj)) (f f' : Nat → Obj) (k : Nat), f' k = f k → updAll f' us k = updAll f us k
  | [], _, _, _, h => h
  | (k', x) :: r, f, f', k, h => by
    simp only [updAll]
    refine updAll_get r _ _ k ?_
    by_cases hk : k = k'
    · subst hk; rw [upd_same, upd_same]
    · rw [upd_ne _ _ hk, upd_ne _ _ hk, h]
theorem step_lk {bs : Nat} {po : POper} {s : St} {v : PV} {us : List (Nat × Obj)} (hu : ∀ u ∈ us, cls bs u.1 ∈ po.wk) : ∀ l, l ∉ writesOf po → lk bs ⟨put s.env po.dst v, updAll s.objs us⟩ l = lk bs s l := by
  intro l hl
  cases l with
  | inl t =>
    simp only [lk, Sum.inl.injEq]
    cases hd : po.dst with
    | none => rfl
    | some d =>
      have : t ≠ d := by rintro rfl; exact hl (by simp [writesOf, hd])
      simp only [put]; rw [upd_ne _ _ this]
  | inr k =>
    simp only [lk, Sum.inr.injEq, obsAt_eq]
    intro k' hk'
    exact updAll_ne _ _ _ (fun u hu' e => hl (by simp only [writesOf, List.mem_append, List.mem_map]; exact .inr ⟨k, by rw [← hk', ← e]; exact hu u hu', rfl⟩))
theorem step_same {bs : Nat} {po : POper} {s t : St} {v : PV} {us : List (Nat × Obj)} (hw : ∀ l ∈ writesOf po, lk bs t l = lk bs s l) : ∀ l ∈ writesOf po, lk bs ⟨put t.env po.dst v, updAll t.objs us⟩ l = lk bs ⟨put s.env po.dst v, updAll s.objs us⟩ l := by
  intro l hl
  cases l with
  | inl i =>
    simp only [lk, Sum.inl.injEq]
    simp only [writesOf, List.mem_append, List.mem_map] at hl
    rcases hl with ⟨d, hd, e⟩ | ⟨_, _, e⟩
    · cases e
      have : po.dst = some i := by simpa using hd
      rw [this]; simp [put, upd]
    · cases e
  | inr k =>
    simp only [lk, Sum.inr.injEq, obsAt_eq]
    have := hw _ hl
    simp only [lk, Sum.inr.injEq, obsAt_eq] at this
    exact fun k' hk' => updAll_get _ _ _ _ (this k' hk')
theorem eval_agree {bs : Nat} {po : POper} {s t : St} (h : ∀ l ∈ readsOf po, lk bs t l = lk bs s l) : ∀ x ∈ po.r.opnds, evalIn t.env x = evalIn s.env x := by
  intro x hx
  cases x with
  | tmp i =>
    have := h (.inl i) (by simp only [readsOf, slotsOf, List.mem_append, List.mem_map, List.mem_flatMap]; exact .inl ⟨i, .inl ⟨_, hx, by simp [opndTmp]⟩, rfl⟩)
    simpa [lk, evalIn] using this
  | _ => rfl
theorem wanted_agree {bs : Nat} {po : POper} {s t : St} (h : ∀ l ∈ readsOf po, lk bs t l = lk bs s l) : wantedIn t.env po.guard = wantedIn s.env po.guard := by
  cases hg : po.guard with
  | none => rfl
  | some x =>
    obtain ⟨i, b⟩ := x
    have := h (.inl i) (by simp [readsOf, slotsOf, hg])
    have e : t.env i = s.env i := by simpa [lk] using this
    simp only [wantedIn, e]
theorem StepLoc.of_pwOp {P : Program} {gl : Gl} {bs : Nat} {po : POper} {s : St} {Kp : St → Prop} (hmk : po.r.makes = true → cls bs (bs + po.r.off + po.dst.getD 0) ∈ po.wk) (h : pwOp gl P bs true po s Kp) : ∃ s', StepLoc gl P bs po s s' ∧ Kp s' := by
  unfold pwOp at h
  split at h
  · rename_i hw
    obtain ⟨hmet, h⟩ := h
    have agree : ∀ t, (∀ l ∈ readsOf po ++ writesOf po, lk bs t l = lk bs s l) → (∀ x ∈ po.r.opnds, evalIn t.env x = evalIn s.env x) ∧ (po.r.looks = true → ∀ x ∈ po.r.lookOpnds, ∀ k ∈ (evalIn s.env x).keys, t.objs k = s.objs k) ∧ (po.r.makes = true → t.objs (bs + po.r.off + po.dst.getD 0) = s.objs (bs + po.r.off + po.dst.getD 0)) ∧ wantedIn t.env po.guard = some true := by
      intro t ht
      have hr : ∀ l ∈ readsOf po, lk bs t l = lk bs s l := fun l hl => ht l (by simp [hl])
      refine ⟨eval_agree hr, fun hlk x hx k hk => ?_, fun hm => ?_, by rw [wanted_agree hr]; exact hw⟩
      · have := ht (.inr (cls bs k)) (by simp only [readsOf, List.mem_append, List.mem_map]; exact .inl (.inr ⟨_, (hmet rfl hlk x hx k hk).elim mem_expand mem_expand_all, rfl⟩))
        simp only [lk, Sum.inr.injEq, obsAt_eq] at this
        exact this k rfl
      · have := ht (.inr (cls bs (bs + po.r.off + po.dst.getD 0))) (by simp only [writesOf, List.mem_append, List.mem_map]; exact .inr (.inr ⟨_, hmk hm, rfl⟩))
        simp only [lk, Sum.inr.injEq, obsAt_eq] at this
        exact this _ rfl
    split at h
    · rename_i f args hr
      split at h
      · rename_i fid x y hf
        split at h
        · rename_i ps us hprep
          obtain ⟨res, hRC, hturn, hK⟩ := h
          refine ⟨_, ⟨.call hw hr hf hprep hRC, step_lk (fun u hu => hturn rfl u hu), fun t ht => ?_⟩, hK⟩
          obtain ⟨a1, a2, a3, a4⟩ := agree t ht
          rw [hr] at a1 a2 a3
          have a2 := a2 rfl
          have hf' : evalIn t.env f = .sc (.func (.func fid) x y) := by rw [a1 f (by simp [ROpA.opnds])]; exact hf
          have hp' : prep (evalIn t.env) t.objs [] args = some (ps, us) := by
            rw [prep_congr (fun z hz => a1 z (by simp [ROpA.opnds, hz])) (fun z hz => a2 z (by simp [ROpA.lookOpnds, ROpA.opnds, hz]))]; exact hprep
          exact ⟨_, .call a4 hr hf' hp' hRC, step_same (fun l hl => ht l (by simp [hl])), step_lk (fun u hu => hturn rfl u hu)⟩
        · exact h.elim
      · exact h.elim
    · rename_i f args frz hr
      split at h
      · rename_i fid caps hf
        split at h
        · rename_i ps us hprep
          obtain ⟨res, ob', hHC, hdr, hK⟩ := h
          obtain ⟨hall, hturn⟩ := hdr rfl
          have slots : ∀ (s1 : St) (l : Loc), l ∉ writesOf po → lk bs ⟨put s1.env po.dst res, s1.objs⟩ l = lk bs s1 l := fun s1 l hl => step_lk (us := []) (by simp) l hl
          have objs : ∀ (s1 : St), s1.objs = s.objs → ∀ l, l ∉ writesOf po → lk bs ⟨put s1.env po.dst res, ob'⟩ l = lk bs s1 l := by
            intro s1 e l hl
            cases l with
            | inl t => exact slots s1 (.inl t) hl
            | inr c =>
              simp only [lk, Sum.inr.injEq, obsAt_eq]
              intro k hk
              rw [e]
              exact (hturn k).resolve_right fun hw => hl (by simp only [writesOf, List.mem_append, List.mem_map]; exact .inr ⟨c, by rw [← hk]; exact hw, rfl⟩)
          refine ⟨_, ⟨.hcall hw hr hf hprep hHC, objs s rfl, fun t ht => ?_⟩, hK⟩
          have eo : t.objs = s.objs := by
            funext k
            have := ht (.inr (cls bs k)) (by simp only [readsOf, List.mem_append, List.mem_map]; exact .inl (.inr ⟨_, mem_expand_all hall, rfl⟩))
            simp only [lk, Sum.inr.injEq, obsAt_eq] at this
            exact this k rfl
          obtain ⟨a1, a2, a3, a4⟩ := agree t ht
          rw [hr] at a1 a2 a3
          have a2 := a2 rfl
          have hf' : fnOf (evalIn t.env f) = some (fid, caps) := by rw [a1 f (by simp [ROpA.opnds])]; exact hf
          have hp' : prep (evalIn t.env) t.objs frz args = some (ps, us) := by
            rw [prep_congr (fun z hz => a1 z (by simp [ROpA.opnds, hz])) (fun z hz => a2 z (by simp [ROpA.lookOpnds, ROpA.opnds, hz]))]; exact hprep
          refine ⟨_, .hcall a4 hr hf' hp' (by rw [eo]; exact hHC), fun l hl => ?_, objs t eo⟩
          cases l with
          | inl i => exact step_same (us := []) (fun l hl => ht l (by simp [hl])) (.inl i) hl
          | inr c => rfl
        · exact h.elim
      · exact h.elim
    · split at h
      · rename_i v us hp
        refine ⟨_, ⟨.pop hw hp, step_lk (fun u hu => h.1 rfl u hu), fun t ht => ?_⟩, h.2⟩
        obtain ⟨a1, a2, a3, a4⟩ := agree t ht
        have hp' : pop (evalIn t.env) t.objs (bs + po.r.off + po.dst.getD 0) po.r = some (v, us) := by rw [pop_congr a1 a2 a3]; exact hp
        exact ⟨_, .pop a4 hp', step_same (fun l hl => ht l (by simp [hl])), step_lk (fun u hu => h.1 rfl u hu)⟩
      · exact h.elim
  · rename_i hw
    refine ⟨_, ⟨.skip hw, fun l hl => step_lk (us := []) (by simp) l hl, fun t ht => ?_⟩, h⟩
    have hw' : wantedIn t.env po.guard = some false := by rw [wanted_agree (fun l hl => ht l (by simp [hl]))]; exact hw
    exact ⟨_, .skip hw', fun l hl => step_same (us := []) (fun l hl => ht l (by simp [hl])) l hl, fun l hl => step_lk (us := []) (by simp) l hl⟩
  · exact h.elim
theorem trace_of {P : Program} {gl : Gl} {bs : Nat} {Kp : St → Prop} : ∀ (pos : List POper) (s : St), (∀ po ∈ pos, po.r.makes = true → cls bs (bs + po.r.off + po.dst.getD 0) ∈ po.wk) → pwOps gl P bs true pos s Kp →
    ∃ tr : Nat → St, tr 0 = s ∧ Kp (tr pos.length) ∧ ∀ (i : Nat) (po : POper), pos[i]? = some po → StepLoc gl P bs po (tr i) (tr (i + 1))
  | [], s, _, h => ⟨fun _ => s, rfl, h, by simp⟩
  | po :: pos, s, hmk, h => by
    obtain ⟨s', hs, hk⟩ := StepLoc.of_pwOp (hmk po (by simp)) h
    obtain ⟨tr, h0, hn, hst⟩ := trace_of pos s' (fun q hq => hmk q (by simp [hq])) hk
    refine ⟨fun i => match i with | 0 => s | i + 1 => tr i, rfl, hn, fun i q hq => ?_⟩
    cases i with
    | zero => simp at hq; subst hq; show StepLoc gl P bs po s (tr 0); rw [h0]; exact hs
    | succ i => exact hst i q (by simpa using hq)
end Go.Hf
end
section
namespace Go.Hf
open Go.RowKit
inductive Anc (ops : Array Oper) : Nat → Nat → Prop where
  | edge {i j : Nat} {o : Oper} {e : Edge} (ho : ops[j]? = some o) (he : e ∈ o.after) (hb : Region.binds .any e = true) (hi : e.on = i) : Anc ops i j
  | trans {i j k : Nat} (h : Anc ops i j) (h' : Anc ops j k) : Anc ops i k
def Conf (p q : POper) : Prop := (∃ l ∈ writesOf p, l ∈ readsOf q ++ writesOf q) ∨ (∃ l ∈ readsOf p, l ∈ writesOf q)
structure DrawOk (bs : Nat) (ops : Array Oper) (pos : List POper) : Prop where
  size : ops.size = pos.length
  back : ∀ (j : Nat) (o : Oper), ops[j]? = some o → ∀ e ∈ o.after, Region.binds .any e = true → e.on < j
  conf : ∀ (i j : Nat) (p q : POper), i < j → pos[i]? = some p → pos[j]? = some q → Conf p q → Anc ops i j
  makes : ∀ po ∈ pos, po.r.makes = true → cls bs (bs + po.r.off + po.dst.getD 0) ∈ po.wk
def Ex (listed : Array Bool) (i : Nat) : Prop := listed.getD i false = true
theorem Anc.ex {ops : Array Oper} {listed : Array Bool} (hc : ∀ j, Ex listed j → ∀ o e, ops[j]? = some o → e ∈ o.after → Region.binds .any e = true → Ex listed e.on) {i j : Nat} (h : Anc ops i j) : Ex listed j → Ex listed i := by
  induction h with
  | edge ho he hb hi => intro hj; rw [← hi]; exact hc _ hj _ _ ho he hb
  | trans _ _ ih1 ih2 => exact fun h => ih1 (ih2 h)
structure SInv (bs : Nat) (ops : Array Oper) (pos : List POper) (tr : Nat → St) (listed : Array Bool) (t : St) : Prop where
  size : listed.size = ops.size
  closed : ∀ j, Ex listed j → ∀ o e, ops[j]? = some o → e ∈ o.after → Region.binds .any e = true → Ex listed e.on
  none : ∀ l, (∀ i p, Ex listed i → pos[i]? = some p → l ∉ writesOf p) → lk bs t l = lk bs (tr 0) l
  last : ∀ l i p, Ex listed i → pos[i]? = some p → l ∈ writesOf p → (∀ j q, Ex listed j → i < j → pos[j]? = some q → l ∉ writesOf q) → lk bs t l = lk bs (tr (i + 1)) l
theorem tr_const {P : Program} {gl : Gl} {bs : Nat} {pos : List POper} {tr : Nat → St} (hst : ∀ (i : Nat) (po : POper), pos[i]? = some po → StepLoc gl P bs po (tr i) (tr (i + 1))) (l : Loc) (i : Nat) : ∀ d, i + d ≤ pos.length →
    (∀ j p, i ≤ j → j < i + d → pos[j]? = some p → l ∉ writesOf p) → lk bs (tr (i + d)) l = lk bs (tr i) l
  | 0, _, _ => rfl
  | d + 1, hle, h => by
    have hlt : i + d < pos.length := by omega
    have hp := List.getElem?_eq_getElem hlt
    rw [show i + (d + 1) = (i + d) + 1 by omega, (hst (i + d) _ hp).2.1 l (h (i + d) _ (by omega) (by omega) hp)]
    exact tr_const hst l i d (by omega) (fun j p h1 h2 => h j p h1 (by omega))
theorem last_before (A : Nat → Prop) : ∀ j, (∀ i, i < j → ¬ A i) ∨ ∃ i, i < j ∧ A i ∧ ∀ k, i < k → k < j → ¬ A k
  | 0 => .inl (by omega)
  | j + 1 => by
    rcases Classical.em (A j) with h | h
    · exact .inr ⟨j, by omega, h, fun k h1 h2 => by omega⟩
    · rcases last_before A j with h1 | ⟨i, h1, h2, h3⟩
      · refine .inl (fun i hi => ?_)
        rcases Nat.lt_or_ge i j with hlt | hge
        · exact h1 i hlt
        · have : i = j := by omega
          subst this; exact h
      · refine .inr ⟨i, by omega, h2, fun k hk1 hk2 => ?_⟩
        rcases Nat.lt_or_ge k j with hlt | hge
        · exact h3 k hk1 hlt
        · have : k = j := by omega
          subst this; exact h
section
variable {P : Program} {n B bs : Nat} {O : Nat → Prop} {gl : Gl} {ph : Gh × (Nat → Obj) × World × List Deferred} {Q : Exit → Act → World → Prop} {ops : Array Oper} {pos : List POper} {tr : Nat → St} {listed : Array Bool} {t : St}
theorem SInv.agree (hD : DrawOk bs ops pos) (hst : ∀ (i : Nat) (po : POper), pos[i]? = some po → StepLoc gl P bs po (tr i) (tr (i + 1))) (h : SInv bs ops pos tr listed t) {j : Nat} {q : POper} (hq : pos[j]? = some q) (hnj : ¬ Ex listed j)
    (hrd : ∀ o e, ops[j]? = some o → e ∈ o.after → Region.binds .any e = true → Ex listed e.on) : ∀ l ∈ readsOf q ++ writesOf q, lk bs t l = lk bs (tr j) l := by
  intro l hl
  have hjl : j < pos.length := (List.getElem?_eq_some_iff.1 hq).1
  have before : ∀ i p, i < j → pos[i]? = some p → l ∈ writesOf p → Ex listed i := by
    intro i p hij hp hw
    have ha : Anc ops i j := hD.conf i j p q hij hp hq (.inl ⟨l, hw, hl⟩)
    have : ∀ {i j : Nat}, Anc ops i j → (∀ o e, ops[j]? = some o → e ∈ o.after → Region.binds .any e = true → Ex listed e.on) → Ex listed i := by
      intro i j ha
      induction ha with
      | edge ho he hb hi => intro hr; rw [← hi]; exact hr _ _ ho he hb
      | trans h1 h2 ih1 ih2 => intro hr; exact h1.ex h.closed (ih2 hr)
    exact this ha hrd
  have after : ∀ i p, j < i → pos[i]? = some p → l ∈ writesOf p → ¬ Ex listed i := by
    intro i p hij hp hw hex
    have hcf : Conf q p := by
      simp only [List.mem_append] at hl
      rcases hl with hl | hl
      · exact .inr ⟨l, hl, hw⟩
      · exact .inl ⟨l, hl, by simp [hw]⟩
    exact hnj ((hD.conf j i q p hij hq hp hcf).ex h.closed hex)
  rcases last_before (fun i => ∃ p, pos[i]? = some p ∧ l ∈ writesOf p) j with h1 | ⟨i, h1, ⟨p, hp, hw⟩, h2⟩
  · rw [h.none l (fun i p hex hp hw => ?_)]
    · have := tr_const hst l 0 j (by omega) (fun i p _ hi hp hw => h1 i (by omega) ⟨p, hp, hw⟩)
      rw [Nat.zero_add] at this
      exact this.symm
    · rcases Nat.lt_trichotomy i j with h3 | h3 | h3
      · exact h1 i h3 ⟨p, hp, hw⟩
      · subst h3; exact hnj hex
      · exact after i p h3 hp hw hex
  · rw [h.last l i p (before i p h1 hp hw) hp hw (fun k r hex hk hr hw' => ?_)]
    · have := tr_const hst l (i + 1) (j - (i + 1)) (by omega) (fun k r hk1 hk2 hr hw' => h2 k (by omega) (by omega) ⟨r, hr, hw'⟩)
      rw [show i + 1 + (j - (i + 1)) = j by omega] at this
      exact this.symm
    · rcases Nat.lt_trichotomy k j with h3 | h3 | h3
      · exact h2 k hk h3 ⟨r, hr, hw'⟩
      · subst h3; exact hnj hex
      · exact after k r h3 hr hw' hex
theorem ex_set {i j : Nat} (hlt : i < listed.size) : Ex (listed.setIfInBounds i true) j ↔ j = i ∨ Ex listed j := by
  by_cases hij : j = i
  · subst hij
    simp [Ex, hlt]
  · simp only [Ex, hij, false_or]
    rw [getD_set_ne false (fun e => hij e.symm)]
theorem SInv.next (hD : DrawOk bs ops pos) (h : SInv bs ops pos tr listed t) {j : Nat} {q : POper} (hq : pos[j]? = some q) (hnj : ¬ Ex listed j)
    (hrd : ∀ o e, ops[j]? = some o → e ∈ o.after → Region.binds .any e = true → Ex listed e.on) {t' : St} (ht1 : ∀ l ∈ writesOf q, lk bs t' l = lk bs (tr (j + 1)) l) (ht2 : ∀ l, l ∉ writesOf q → lk bs t' l = lk bs t l) :
    SInv bs ops pos tr (listed.setIfInBounds j true) t' := by
  have hjl : j < pos.length := (List.getElem?_eq_some_iff.1 hq).1
  have hjs : j < listed.size := by rw [h.size, hD.size]; exact hjl
  have after : ∀ l i p, l ∈ writesOf q → j < i → pos[i]? = some p → l ∈ writesOf p → ¬ Ex listed i := by
    intro l i p hl hij hp hw hex
    exact hnj ((hD.conf j i q p hij hq hp (.inl ⟨l, hl, by simp [hw]⟩)).ex h.closed hex)
  refine ⟨by simp [h.size], fun i hi o e ho he hb => ?_, fun l hn => ?_, fun l i p hi hp hw hn => ?_⟩
  · rw [ex_set hjs] at hi ⊢
    rcases hi with rfl | hi
    · exact .inr (hrd o e ho he hb)
    · exact .inr (h.closed i hi o e ho he hb)
  · have hnw : l ∉ writesOf q := hn j q ((ex_set hjs).2 (.inl rfl)) hq
    rw [ht2 l hnw]
    exact h.none l (fun i p hi => hn i p ((ex_set hjs).2 (.inr hi)))
  · rw [ex_set hjs] at hi
    by_cases hij : i = j
    · subst hij
      rw [hq] at hp; cases hp
      exact ht1 l hw
    · have hi' : Ex listed i := hi.resolve_left hij
      have hnw : l ∉ writesOf q := by
        intro hl
        rcases Nat.lt_or_gt_of_ne hij with h1 | h1
        · exact hn j q ((ex_set hjs).2 (.inl rfl)) h1 hq hl
        · exact after l i p hl h1 hp hw hi'
      rw [ht2 l hnw]
      exact h.last l i p hi' hp hw (fun k r hk => hn k r ((ex_set hjs).2 (.inr hk)))
theorem SInv.done (hst : ∀ (i : Nat) (po : POper), pos[i]? = some po → StepLoc gl P bs po (tr i) (tr (i + 1))) (h : SInv bs ops pos tr listed t) (hall : ∀ j, j < pos.length → Ex listed j) : t = tr pos.length := by
  refine St.ext_lk (bs := bs) (fun l => ?_)
  rcases last_before (fun i => ∃ p, pos[i]? = some p ∧ l ∈ writesOf p) pos.length with h1 | ⟨i, h1, ⟨p, hp, hw⟩, h2⟩
  · rw [h.none l (fun i p hex hp hw => h1 i (List.getElem?_eq_some_iff.1 hp).1 ⟨p, hp, hw⟩)]
    have := tr_const hst l 0 pos.length (by omega) (fun i p _ hi hp hw => h1 i (by omega) ⟨p, hp, hw⟩)
    rw [Nat.zero_add] at this
    exact this.symm
  · rw [h.last l i p (hall i h1) hp hw (fun k r hex hk hr hw' => h2 k hk (List.getElem?_eq_some_iff.1 hr).1 ⟨r, hr, hw'⟩)]
    have := tr_const hst l (i + 1) (pos.length - (i + 1)) (by omega) (fun k r hk1 hk2 hr hw' => h2 k (by omega) (by omega) ⟨r, hr, hw'⟩)
    rw [show i + 1 + (pos.length - (i + 1)) = pos.length by omega] at this
    exact this.symm
theorem all_done (hD : DrawOk bs ops pos) (hs : listed.size = ops.size) (hr : Region.ready .any ops listed = []) : ∀ j, j < pos.length → Ex listed j := by
  intro j
  induction j using Nat.strongRecOn with
  | _ j ih =>
    intro hj
    rcases Classical.em (Ex listed j) with h | h
    · exact h
    · exfalso
      have hlt : j < ops.size := by rw [hD.size]; exact hj
      have ho := Array.getElem?_eq_getElem hlt
      have : j ∈ Region.ready .any ops listed := by
        rw [mem_ready]
        refine ⟨?_, _, ho, fun e he hb => ih e.on (hD.back j _ ho e he hb) (by have := hD.back j _ ho e he hb; omega)⟩
        have hjs : j < listed.size := by omega
        have h2 : ¬ listed.getD j false = true := h
        simp [Array.getD_eq_getD_getElem?, hjs] at h2 ⊢
        exact h2
      rw [hr] at this
      cases this
end
end Go.Hf
end
section
namespace Go.Hf
open Go.RowKit
theorem count_set : ∀ (l : List Bool) (i : Nat), l[i]? = some false → (l.set i true).count false + 1 = l.count false
  | [], i, h => by simp at h
  | x :: l, 0, h => by simp at h; subst h; simp
  | x :: l, i + 1, h => by
    have := count_set l i (by simpa using h)
    simp only [List.set_cons_succ, List.count_cons]
    omega
theorem FR.drew {n B : Nat} {O : Nat → Prop} {gl : Gl} {ph : Gh × (Nat → Obj) × World × List Deferred} {g : Gh} {s : St} {a : Act} {w : World} (h : FR gl ph n B O g s a w) (k : Nat) : FR gl ph n B O g s a { w with drawn := k } := by
  have hE : Ext g.c w g.c { w with drawn := k } := ⟨Nat.le_refl _, fun _ _ => Nat.le_refl _, fun _ _ _ _ => rfl⟩
  exact h.pass s.objs (fun _ => False) hE (ObStep.refl g s.objs) (fun _ _ => rfl) (fun _ _ _ => ⟨rfl, rfl, rfl, rfl⟩) (fun _ hf => hf.elim)
theorem PB.drew (B : Nat) (O : Nat → Prop) (c : Nat → Nat) (w : World) (k : Nat) : PB B O c w c { w with drawn := k } := ⟨rfl, rfl, rfl, Nat.le_refl _, fun _ _ _ => rfl, fun _ _ _ => rfl⟩
section
variable {P : Program} {n B bs : Nat} {O : Nat → Prop} {gl : Gl} {ph : Gh × (Nat → Obj) × World × List Deferred} {Q : Exit → Act → World → Prop} {ops : Array Oper} {pos : List POper} {tr : Nat → St} {c0 : Nat → Nat} {w0 : World}
theorem any_of (hD : DrawOk bs ops pos) (hops : ∀ (j : Nat) (po : POper), pos[j]? = some po → ∃ o, ops[j]? = some o ∧ RsO P n ops o po)
    (hst : ∀ (i : Nat) (po : POper), pos[i]? = some po → StepLoc gl P bs po (tr i) (tr (i + 1)))
    (hQ : ∀ g' a' w', FR gl ph n B O g' (tr pos.length) a' w' → PB B O c0 w0 g'.c w' → Q .normal a' w') :
    ∀ (fuel : Nat) (listed : Array Bool) (t : St) (g : Gh) (a : Act) (w : World), listed.toList.count false ≤ fuel → SInv bs ops pos tr listed t → FR gl ph n B O g t a w → PB B O c0 w0 g.c w → wpAny P .any ops Q fuel listed a w := by
  have fin : ∀ (listed : Array Bool) (t : St) (g : Gh) (a : Act) (w : World), SInv bs ops pos tr listed t → FR gl ph n B O g t a w → PB B O c0 w0 g.c w → Region.ready .any ops listed = [] → Q .normal a w := by
    intro listed t g a w hS hF hP hr
    have e := SInv.done hst hS (all_done hD hS.size hr)
    rw [e] at hF
    exact hQ g a w hF hP
  intro fuel
  induction fuel with
  | zero =>
    intro listed t g a w hc hS hF hP
    have hr : Region.ready .any ops listed = [] := by
      refine List.eq_nil_iff_forall_not_mem.2 (fun j hj => ?_)
      rw [mem_ready] at hj
      obtain ⟨h1, o, ho, _⟩ := hj
      have hjs : j < listed.size := by rw [hS.size]; exact (Array.getElem?_eq_some_iff.1 ho).1
      have : false ∈ listed.toList := by
        simp [Array.getD_eq_getD_getElem?, hjs] at h1
        exact h1 ▸ (by simp)
      have := List.count_pos_iff.2 this
      omega
    exact ⟨hr, fin listed t g a w hS hF hP hr⟩
  | succ fuel ih =>
    intro listed t g a w hc hS hF hP
    refine ⟨fin listed t g a w hS hF hP, fun j hj => ?_⟩
    rw [mem_ready] at hj
    obtain ⟨h1, o, ho, hrd⟩ := hj
    have hjo : j < ops.size := (Array.getElem?_eq_some_iff.1 ho).1
    have hjs : j < listed.size := by rw [hS.size]; exact hjo
    have hjp : j < pos.length := by rw [← hD.size]; exact hjo
    have hq := List.getElem?_eq_getElem hjp
    have hnj : ¬ Ex listed j := by
      simp [Array.getD_eq_getD_getElem?, hjs] at h1
      simp [Ex, Array.getD_eq_getD_getElem?, hjs, h1]
    have hrd' : ∀ o' e, ops[j]? = some o' → e ∈ o'.after → Region.binds .any e = true → Ex listed e.on := by
      intro o' e ho' he hb
      rw [ho] at ho'; cases ho'
      exact hrd e he hb
    obtain ⟨t', hp', ht1, ht2⟩ := (hst j _ hq).2.2 t (SInv.agree hD hst hS hq hnj hrd')
    obtain ⟨o', ho', hro⟩ := hops j _ hq
    rw [ho] at ho'; cases ho'
    refine sim_step hF ho hro hp' (fun g' a' w' hF' hP' => ?_)
    refine ih _ t' g' a' w' ?_ (SInv.next hD hS hq hnj hrd' ht1 ht2) hF' (hP.trans hP')
    have hget : listed.toList[j]? = some false := by
      simp [Array.getD_eq_getD_getElem?, hjs] at h1
      simp [hjs, h1]
    have := count_set listed.toList j hget
    rw [Array.toList_setIfInBounds]
    omega
theorem sim_draw {id : Nat} {g : Gh} {s : St} {a : Act} {w : World} {Kp : St → Prop} (hm : P.follows .mixedOrders = true) (hD : DrawOk bs ops pos)
    (hops : ∀ (j : Nat) (po : POper), pos[j]? = some po → ∃ o, ops[j]? = some o ∧ RsO P n ops o po) (hp : pwOps gl P bs true pos s Kp) (h : FR gl ph n B O g s a w) (hPB : PB B O c0 w0 g.c w)
    (hQ : ∀ g' s' a' w', Kp s' → FR gl ph n B O g' s' a' w' → PB B O c0 w0 g'.c w' → Q .normal a' w') : (Code.region id ops true).wp P Q a w := by
  obtain ⟨tr, h0, hn, hst⟩ := trace_of pos s hD.makes hp
  refine wp_region_any hm ?_
  refine any_of hD hops hst (fun g' a' w' hF hP => hQ g' _ a' w' hn hF hP) ops.size _ s g a _ ?_ ?_ (h.drew _) (hPB.trans (PB.drew _ _ _ _ _))
  · simp
  · have no : ∀ j, ¬ Ex (Array.replicate ops.size false) j := by
      intro j hj
      simp only [Ex, Array.getD_eq_getD_getElem?, Array.getElem?_replicate] at hj
      split at hj <;> simp at hj
    refine ⟨by simp, fun j hj => ?_, fun l _ => by rw [h0], fun l i p hi => ?_⟩
    · exact absurd hj (no j)
    · exact absurd hi (no i)
end
end Go.Hf
end

/- Fast values, part Q: functions: arguments, results, what is kept of the store. -/
import Derived.Test.YtlefgpakmgbgaaaGreatDoorFe
import Derived.KernelRfl
set_option linter.unusedVariables false
set_option linter.unusedSimpArgs false
set_option linter.unusedSectionVars false
section
namespace Go.Hf
open Go.RowKit
section
variable [Tok]
theorem flat_tup (i : Nat) : tupOk (Tok.τ i) = true := by
  rcases flat_ne (Tok.law i) with ⟨v, h⟩ | ⟨sz, es, h⟩ | ⟨cs, o, h⟩ <;> rw [h] <;> rfl
noncomputable def argK (l : List XV) (f : XV → List XV → Ans) : Ans := @List.rec XV (fun _ => Ans) .no (fun a r _ => f a r) l
noncomputable def argN (l : List XV) (x : Ans) : Ans := @List.rec XV (fun _ => Ans) x (fun _ _ _ => .no) l
noncomputable def stA (f : Env → Ans) : Nat → Nat → Env → List XV → Ans
  | 0, _, e, l => (fun (_ : Nat) => argN l (f e)) g30
  | m + 1, i, e, l => argK l fun a r => stA f m (i + 1) (updX e i a) r
theorem stA_ne {f : Env → Ans} : ∀ {m i : Nat} {e : Env} {l : List XV}, stA f m i e l ≠ .no → ∃ e', stA f m i e l = f e' ∧ l.length = m ∧ (∀ j, j < i → e' j = e j) ∧ (∀ j, i ≤ j → e' j = (l[j - i]?).getD (e j))
  | 0, i, e, [], _ => ⟨e, rfl, rfl, fun _ _ => rfl, fun j _ => by simp⟩
  | 0, _, _, _ :: _, h => absurd rfl h
  | _ + 1, _, _, [], h => absurd rfl h
  | m + 1, i, e, a :: r, h => by
    change stA f m (i + 1) (updX e i a) r ≠ .no at h
    obtain ⟨e', h1, h2, h3, h4⟩ := stA_ne h
    refine ⟨e', h1, by simp [h2], fun j hj => ?_, fun j hj => ?_⟩
    · rw [h3 j (by omega), updX_get, if_neg (by omega)]
    · by_cases hji : j = i
      · subst hji
        rw [h3 j (by omega), updX_get, if_pos rfl]; simp
      · rw [h4 j (by omega), updX_get, if_neg hji]
        congr 1
        rw [show j - i = (j - (i + 1)) + 1 by omega, List.getElem?_cons_succ]
noncomputable def kCell (ob : Nat → XObj) (x : XV) (agg : Bool) (n : Nat) (k : XV → Ans) : Ans :=
  onP x (fun _ _ => .no) (fun q s off => onBox (ob q) fun s' cs => bo (Nat.beq s s') (kTake agg n cs off k) .no) (fun _ _ _ _ => .no)
noncomputable def kRv (ob : Nat → XObj) (env : Env) (rv : RV) (k : XV → Ans) : Ans := match rv with
  | .tmp t => (fun (_ : Nat) => k (env t)) g30
  | .cell t agg n => kCell ob (env t) agg n k
theorem kRv_ne {h : HS} {env : Env} {rv : RV} {k : XV → Ans} (hn : kRv h.ob env rv k ≠ .no) : ∃ v, rvVal (stE env h) rv = some (dec v) ∧ kRv h.ob env rv k = k v := by
  cases rv with
  | tmp t => exact ⟨env t, rfl, rfl⟩
  | cell t agg n =>
    change onP (env t) (fun _ _ => .no) (fun q s off => onBox (h.ob q) fun s' cs => bo (Nat.beq s s') (kTake agg n cs off k) .no) (fun _ _ _ _ => .no) ≠ .no at hn
    show ∃ v, _ ∧ onP (env t) (fun _ _ => .no) (fun q s off => onBox (h.ob q) fun s' cs => bo (Nat.beq s s') (kTake agg n cs off k) .no) (fun _ _ _ _ => .no) = _
    rcases onP_ne hn with ⟨cs, off, h0, e⟩ | ⟨q, s, off, h0, e⟩ | ⟨q, s, i, off, h0, e⟩
    · rw [e] at hn; exact absurd rfl hn
    · rw [e] at hn ⊢
      obtain ⟨s', cs, h1, e⟩ := onBox_ne hn
      rw [e] at hn ⊢
      obtain ⟨h2, e⟩ := bo_ne hn
      rw [e] at hn ⊢
      obtain ⟨v, h3, e⟩ := kTake_sel _ _ _ _ _ hn
      refine ⟨v, ?_, e⟩
      have e1 : (stE env h).env t = .bptr q s off := by show dec (env t) = _; rw [h0]; simp only [dec]
      have e2 : (stE env h).objs q = .box s' (decL cs) := by show decO (h.ob q) = _; rw [h1]; rfl
      have e3 := Nat.eq_of_beq_eq_true h2
      simp only [rvVal, e1, e2, e3, if_true, takeAggX_ok h3]
    · rw [e] at hn; exact absurd rfl hn
noncomputable def kRets (ob : Nat → XObj) (env : Env) (f : List XV → List (Nat × XObj) → Ans) : List Bool → List RV → Ans
  | _, [] => (fun (_ : Nat) => f [] []) g30
  | [], x :: xs => kRv ob env x fun v => kHand ob v fun q sh => kRets ob env (fun qs us => f (q :: qs) (apL sh us)) [] xs
  | true :: bs, x :: xs => kRv ob env x fun v => kHand ob v fun q sh => kRets ob env (fun qs us => f (q :: qs) (apL sh us)) bs xs
  | false :: bs, x :: xs => kRv ob env x fun v => kRets ob env (fun qs us => f (v :: qs) us) bs xs
def Fz (q : XV) : Prop := q.keysA = [] ∧ q.keys = [] ∧ tupOk (dec q) = true
theorem pureCellX_fz {ob : Nat → XObj} {x q : XV} (h : pureCellX ob x = some q) : q.key = [] := by
  cases x with
  | bld k s off len =>
    simp only [pureCellX] at h
    split at h
    · rename_i s' e sz es raw hob
      cases hc : (Nat.beq s s' && Nat.ble (Nat.add off len) es.length) with
      | false => rw [hc] at h; simp at h
      | true => rw [hc] at h; simp only [cond_true, Option.some.injEq] at h; subst h; rfl
    · cases h
  | _ => simp [pureCellX] at h <;> subst h <;> rfl
theorem pureCellsX_fz {ob : Nat → XObj} : ∀ {xs qs : List XV}, pureCellsX ob xs = some qs → qs.flatMap XV.key = []
  | [], qs, h => by cases h; rfl
  | x :: xs, qs, h => by
    simp only [pureCellsX] at h
    split at h
    · rename_i q qs' h1 h2
      cases h
      rw [List.flatMap_cons, pureCellX_fz h1, pureCellsX_fz h2]; rfl
    · cases h
theorem pureValX_fz {ob : Nat → XObj} {x q : XV} (h : pureValX ob x = some q) : Fz q := by
  cases x with
  | agg cs =>
    simp only [pureValX] at h
    split at h
    · rename_i qs hq
      cases h
      have := pureCellsX_fz hq
      exact ⟨this, this, by simp [dec, tupOk]⟩
    · cases h
  | bld k s off len =>
    have h' : pureCellX ob (.bld k s off len) = some q := h
    simp only [pureCellX] at h'
    split at h'
    · rename_i s' e sz es raw hob
      cases hc : (Nat.beq s s' && Nat.ble (Nat.add off len) es.length) with
      | false => rw [hc] at h'; simp at h'
      | true => rw [hc] at h'; simp only [cond_true, Option.some.injEq] at h'; subst h'; exact ⟨rfl, rfl, by simp [dec, tupOk]⟩
    · cases h'
  | tok i => simp only [pureValX, pureCellX, Option.some.injEq] at h; subst h; exact ⟨rfl, rfl, by simp only [dec]; exact flat_tup i⟩
  | _ => simp [pureValX, pureCellX] at h <;> subst h <;> exact ⟨rfl, rfl, by simp [dec, tupOk, nils]⟩
theorem kRets_ne {h : HS} {env : Env} : ∀ {rfz : List Bool} {rvs : List RV} {f : List XV → List (Nat × XObj) → Ans}, kRets h.ob env f rfz rvs ≠ .no →
    ∃ vals qs us, rvVals (stE env h) rvs = some vals ∧ handAll h.dob rfz vals = some (qs.map dec, us.map decU) ∧ kRets h.ob env f rfz rvs = f qs us ∧ (rfz = [] → ∀ q ∈ qs, Fz q) := by
  have fz : ∀ {rfz : List Bool} {x : RV} {xs : List RV} {f : List XV → List (Nat × XObj) → Ans},
      (∀ {f : List XV → List (Nat × XObj) → Ans}, kRets h.ob env f rfz xs ≠ .no → ∃ vals qs us, rvVals (stE env h) xs = some vals ∧ handAll h.dob rfz vals = some (qs.map dec, us.map decU) ∧ kRets h.ob env f rfz xs = f qs us ∧ (rfz = [] → ∀ q ∈ qs, Fz q)) →
      (kRv h.ob env x fun v => kHand h.ob v fun q sh => kRets h.ob env (fun qs us => f (q :: qs) (apL sh us)) rfz xs) ≠ .no →
      ∃ v vals q qs us, rvVal (stE env h) x = some v ∧ rvVals (stE env h) xs = some vals ∧ pureVal h.dob v = some (dec q) ∧ handAll h.dob rfz vals = some (qs.map dec, us.map decU) ∧ Fz q ∧ (rfz = [] → ∀ q ∈ qs, Fz q) ∧
        ∃ sh, shareVal h.dob v = sh.map decU ∧ (kRv h.ob env x fun v => kHand h.ob v fun q sh => kRets h.ob env (fun qs us => f (q :: qs) (apL sh us)) rfz xs) = f (q :: qs) (sh ++ us) := by
    intro rfz x xs f ih hn
    obtain ⟨v, h1, e⟩ := kRv_ne hn
    rw [e] at hn ⊢
    obtain ⟨q, h2, e⟩ := kHand_ne hn
    rw [e] at hn ⊢
    obtain ⟨vals, qs, us, h3, h4, e, hz⟩ := ih hn
    refine ⟨dec v, vals, q, qs, us, h1, h3, pureValX_ok h2, h4, pureValX_fz h2, hz, shareValX h.ob v, shareValX_ok h.ob v, ?_⟩
    rw [e, apL_eq]
  intro rfz rvs
  induction rvs generalizing rfz with
  | nil => intro f _; cases rfz with
    | nil => exact ⟨[], [], [], rfl, rfl, rfl, fun _ => by simp⟩
    | cons _ _ => exact ⟨[], [], [], rfl, rfl, rfl, fun _ => by simp⟩
  | cons x xs ih =>
    intro f hn
    cases rfz with
    | nil =>
      obtain ⟨v, vals, q, qs, us, h1, h2, h3, h4, z1, z2, sh, h5, e⟩ := fz (rfz := []) (f := f) ih hn
      refine ⟨v :: vals, q :: qs, sh ++ us, by simp only [rvVals, h1, h2], ?_, e, fun _ q' hq => (List.mem_cons.1 hq).elim (fun e => e ▸ z1) (z2 rfl q')⟩
      simp only [handAll, handArg, shareArg, if_true, h3, h4, h5, List.map_cons, List.map_append]
    | cons c bs =>
      cases c with
      | true =>
        obtain ⟨v, vals, q, qs, us, h1, h2, h3, h4, _, _, sh, h5, e⟩ := fz (rfz := bs) (f := f) ih hn
        refine ⟨v :: vals, q :: qs, sh ++ us, by simp only [rvVals, h1, h2], ?_, e, fun h => by cases h⟩
        simp only [handAll, handArg, shareArg, if_true, h3, h4, h5, List.map_cons, List.map_append]
      | false =>
        change (kRv h.ob env x fun v => kRets h.ob env (fun qs us => f (v :: qs) us) bs xs) ≠ .no at hn
        show ∃ vals qs us, _ ∧ _ ∧ (kRv h.ob env x fun v => kRets h.ob env (fun qs us => f (v :: qs) us) bs xs) = _ ∧ _
        obtain ⟨v, h1, e⟩ := kRv_ne hn
        rw [e] at hn ⊢
        obtain ⟨vals, qs, us, h3, h4, e, _⟩ := ih hn
        refine ⟨dec v :: vals, v :: qs, us, by simp only [rvVals, h1, h3], ?_, e, fun h => by cases h⟩
        simp only [handAll, handArg, shareArg, Bool.false_eq_true, if_false, h4, List.map_cons, List.nil_append]
noncomputable def okT (l : List XV) : Bool :=
  @List.rec XV (fun _ => Bool) true (fun c _ ih => @XV.rec (fun _ => Bool) (fun _ => PUnit) (fun _ => PUnit) false (fun _ => ih) (fun _ _ => ih) (fun _ _ => ih) ih (fun _ => ih) (fun _ _ => ih) (fun _ _ => false) (fun _ _ _ => ih) (fun _ _ _ => ih) (fun _ _ _ => ih) (fun _ _ _ _ => ih) (fun _ _ _ _ => ih) (fun _ _ => ih) (fun _ _ _ => ih) (fun _ => ih) PUnit.unit (fun _ _ _ _ => PUnit.unit) PUnit.unit (fun _ _ _ _ => PUnit.unit) c) l
theorem okT_ok : ∀ {l : List XV}, okT l = true → (l.map dec).all tupOk = true
  | [], _ => rfl
  | c :: r, h => by
    have hr : okT r = true ∧ tupOk (dec c) = true := by
      cases c with
      | tok i => exact ⟨h, by simp only [dec]; exact flat_tup i⟩
      | _ => first | exact ⟨h, by simp [dec, tupOk, nils]⟩ | exact absurd h (by intro h; cases h)
    rw [List.map_cons, List.all_cons, hr.2, okT_ok hr.1]; rfl
noncomputable def packX (l : List XV) : XV := @List.rec XV (fun _ => XV) (.tup []) (fun v r _ => @List.rec XV (fun _ => XV) v (fun _ _ _ => .tup l) r) l
theorem packX_ok : ∀ (l : List XV), dec (packX l) = pack (l.map dec)
  | [] => by show dec (.tup []) = _; simp [dec, decL, pack]
  | [v] => rfl
  | a :: b :: r => by show dec (.tup (a :: b :: r)) = _; simp [dec, decL_map, pack]
noncomputable def lowC (b : Nat) (cs : List XV) : Bool :=
  @List.rec XV (fun _ => Bool) true (fun c _ ih => @XV.rec (fun _ => Bool) (fun _ => PUnit) (fun _ => PUnit) ih (fun _ => ih) (fun _ _ => ih) (fun _ _ => ih) ih (fun _ => ih) (fun _ _ => false) (fun _ _ => false) (fun _ _ _ => ih) (fun _ _ _ => ih) (fun k _ _ => an (Nat.ble (Nat.succ k) b) ih) (fun k _ _ _ => an (Nat.ble (Nat.succ k) b) ih) (fun k _ _ _ => an (Nat.ble (Nat.succ k) b) ih) (fun k _ => an (Nat.ble (Nat.succ k) b) ih) (fun _ _ _ => false) (fun _ => ih) PUnit.unit (fun _ _ _ _ => PUnit.unit) PUnit.unit (fun _ _ _ _ => PUnit.unit) c) cs
noncomputable def lowA (b : Nat) (x : XV) (r : Bool) : Bool :=
  @XV.rec (fun _ => Bool) (fun _ => PUnit) (fun _ => PUnit) r (fun _ => r) (fun _ _ => r) (fun _ _ => r) r (fun _ => r) (fun cs _ => an (lowC b cs) r) (fun _ _ => false) (fun _ _ _ => r) (fun _ _ _ => r) (fun k _ _ => an (Nat.ble (Nat.succ k) b) r) (fun k _ _ _ => an (Nat.ble (Nat.succ k) b) r) (fun k _ _ _ => an (Nat.ble (Nat.succ k) b) r) (fun k _ => an (Nat.ble (Nat.succ k) b) r) (fun _ cs _ => an (lowC b cs) r) (fun _ => r) PUnit.unit (fun _ _ _ _ => PUnit.unit) PUnit.unit (fun _ _ _ _ => PUnit.unit) x
noncomputable def lowT (b : Nat) (cs : List XV) : Bool := @List.rec XV (fun _ => Bool) true (fun c _ ih => lowA b c ih) cs
noncomputable def lowV (b : Nat) (x : XV) : Bool :=
  @XV.rec (fun _ => Bool) (fun _ => PUnit) (fun _ => PUnit) true (fun _ => true) (fun _ _ => true) (fun _ _ => true) true (fun _ => true) (fun cs _ => lowC b cs) (fun cs _ => lowT b cs) (fun _ _ _ => true) (fun _ _ _ => true) (fun k _ _ => Nat.ble (Nat.succ k) b) (fun k _ _ _ => Nat.ble (Nat.succ k) b) (fun k _ _ _ => Nat.ble (Nat.succ k) b) (fun k _ => Nat.ble (Nat.succ k) b) (fun _ cs _ => lowC b cs) (fun _ => true) PUnit.unit (fun _ _ _ _ => PUnit.unit) PUnit.unit (fun _ _ _ _ => PUnit.unit) x
theorem lowC_ok {b : Nat} : ∀ {cs : List XV}, lowC b cs = true → (∀ k ∈ cs.flatMap XV.key, k < b) ∧ (∀ k ∈ cs.flatMap XV.key0, k < b)
  | [], _ => ⟨by simp, by simp⟩
  | c :: r, h => by
    have hr : lowC b r = true ∧ (∀ k ∈ c.key, k < b) ∧ (∀ k ∈ c.key0, k < b) := by
      have one : ∀ {k : Nat}, an (Nat.ble (Nat.succ k) b) (lowC b r) = true → lowC b r = true ∧ k < b := by
        intro k h
        rw [an_eq, Bool.and_eq_true] at h
        exact ⟨h.2, Nat.le_of_ble_eq_true h.1⟩
      cases c with
      | bptr k s o => obtain ⟨h1, h2⟩ := one h; exact ⟨h1, by intro j hj; simp [XV.key, XV.key0] at hj; subst hj; exact h2, by intro j hj; simp [XV.key0] at hj; subst hj; exact h2⟩
      | bld k s o l => obtain ⟨h1, h2⟩ := one h; exact ⟨h1, by intro j hj; simp [XV.key, XV.key0] at hj; subst hj; exact h2, by intro j hj; simp [XV.key0] at hj; subst hj; exact h2⟩
      | kptr k s i o => obtain ⟨h1, h2⟩ := one h; exact ⟨h1, by intro j hj; simp [XV.key, XV.key0] at hj; subst hj; exact h2, by intro j hj; simp [XV.key0] at hj; subst hj; exact h2⟩
      | mref k s => obtain ⟨h1, h2⟩ := one h; exact ⟨h1, by intro j hj; simp [XV.key, XV.key0] at hj; subst hj; exact h2, by intro j hj; simp [XV.key0] at hj; subst hj; exact h2⟩
      | _ => first | exact ⟨h, by simp [XV.key, XV.key0], by simp [XV.key0]⟩ | exact absurd h (by intro h; cases h)
    obtain ⟨h1, h2⟩ := lowC_ok hr.1
    constructor
    · intro k hk
      rw [List.flatMap_cons, List.mem_append] at hk
      exact hk.elim (hr.2.1 k) (h1 k)
    · intro k hk
      rw [List.flatMap_cons, List.mem_append] at hk
      exact hk.elim (hr.2.2 k) (h2 k)
theorem lowA_ok {b : Nat} {x : XV} {r : Bool} (h : lowA b x r = true) : r = true ∧ ∀ k ∈ x.keysA, k < b := by
  have one : ∀ {k : Nat}, an (Nat.ble (Nat.succ k) b) r = true → r = true ∧ k < b := by
    intro k h
    rw [an_eq, Bool.and_eq_true] at h
    exact ⟨h.2, Nat.le_of_ble_eq_true h.1⟩
  cases x with
  | agg cs =>
    have h' : an (lowC b cs) r = true := h
    rw [an_eq, Bool.and_eq_true] at h'
    exact ⟨h'.2, (lowC_ok h'.1).1⟩
  | clo f cs =>
    have h' : an (lowC b cs) r = true := h
    rw [an_eq, Bool.and_eq_true] at h'
    exact ⟨h'.2, (lowC_ok h'.1).2⟩
  | bptr k s o => obtain ⟨h1, h2⟩ := one h; exact ⟨h1, by intro j hj; simp [XV.keysA, XV.key, XV.key0] at hj; subst hj; exact h2⟩
  | bld k s o l => obtain ⟨h1, h2⟩ := one h; exact ⟨h1, by intro j hj; simp [XV.keysA, XV.key, XV.key0] at hj; subst hj; exact h2⟩
  | kptr k s i o => obtain ⟨h1, h2⟩ := one h; exact ⟨h1, by intro j hj; simp [XV.keysA, XV.key, XV.key0] at hj; subst hj; exact h2⟩
  | mref k s => obtain ⟨h1, h2⟩ := one h; exact ⟨h1, by intro j hj; simp [XV.keysA, XV.key, XV.key0] at hj; subst hj; exact h2⟩
  | tup cs => cases h
  | _ => exact ⟨h, by simp [XV.keysA, XV.key, XV.key0]⟩
theorem lowT_ok {b : Nat} : ∀ {cs : List XV}, lowT b cs = true → ∀ k ∈ cs.flatMap XV.keysA, k < b
  | [], _ => by simp
  | c :: r, h => by
    have h' : lowA b c (lowT b r) = true := h
    obtain ⟨h1, h2⟩ := lowA_ok h'
    intro k hk
    rw [List.flatMap_cons, List.mem_append] at hk
    exact hk.elim (h2 k) (lowT_ok h1 k)
theorem lowV_ok {b : Nat} {x : XV} (h : lowV b x = true) : ∀ k ∈ x.keys, k < b := by
  cases x with
  | agg cs => exact (lowC_ok h).1
  | clo f cs => exact (lowC_ok h).2
  | tup cs => exact lowT_ok h
  | bptr k s o => intro j hj; simp [XV.keys, XV.keysA, XV.key, XV.key0] at hj; subst hj; exact Nat.le_of_ble_eq_true h
  | bld k s o l => intro j hj; simp [XV.keys, XV.keysA, XV.key, XV.key0] at hj; subst hj; exact Nat.le_of_ble_eq_true h
  | kptr k s i o => intro j hj; simp [XV.keys, XV.keysA, XV.key, XV.key0] at hj; subst hj; exact Nat.le_of_ble_eq_true h
  | mref k s => intro j hj; simp [XV.keys, XV.keysA, XV.key, XV.key0] at hj; subst hj; exact Nat.le_of_ble_eq_true h
  | _ => simp [XV.keys, XV.keysA, XV.key, XV.key0]
noncomputable def lowO (b : Nat) (o : XObj) : Bool := @XObj.rec (fun _ => Bool) (fun _ => true) (fun _ cs => lowC b cs) (fun _ _ _ _ _ => true) (fun _ _ => true) o
theorem lowO_ok {b : Nat} {o : XObj} (h : lowO b o = true) : ∀ k ∈ (decO o).keys, k < b := by
  cases o with
  | box s cs =>
    have := (lowC_ok h).1
    intro k hk
    refine this k ?_
    have e : (decL cs).flatMap PV.key = cs.flatMap XV.key := by
      rw [decL_map, List.flatMap_map]; congr 1; funext y; exact key_dec y
    rw [← e]; exact hk
  | _ => simp [decO, Obj.keys]
noncomputable def lowD (b : Nat) (segs : SL) (l : List Nat) : Bool := @List.rec Nat (fun _ => Bool) true (fun k _ ih => an (lowO b (segs.get k).o) ih) l
theorem lowD_ok {b : Nat} {segs : SL} : ∀ {l : List Nat}, lowD b segs l = true → ∀ k ∈ l, lowO b (segs.get k).o = true
  | x :: r, h, k, hk => by
    have h' : an (lowO b (segs.get x).o) (lowD b segs r) = true := h
    rw [an_eq, Bool.and_eq_true] at h'
    rcases List.mem_cons.1 hk with rfl | hk
    · exact h'.1
    · exact lowD_ok h'.2 k hk
noncomputable def endK (b : Nat) (res : XV) (h : HS) : Ans :=
  @HS.rec (fun _ => Ans) (fun ub segs dirty => @Bool.rec (fun _ => Ans) (bo (lowV ub res) (.ok res ub segs dirty) .no) (.ok res b (segs.drop b) dirty) (an (lowV b res) (lowD b segs dirty))) h
noncomputable def retK (b : Nat) (qs : List XV) (us : List (Nat × XObj)) (h : HS) : Ans := bo (okT qs) (kUpd b us h fun h' => endK b (packX qs) h') .no
noncomputable def endP (b : Nat) (res : XV) (h : HS) : Ans :=
  @HS.rec (fun _ => Ans) (fun ub segs dirty => @Bool.rec (fun _ => Ans) (.ok res ub segs dirty) (.ok res b (segs.drop b) dirty) (lowD b segs dirty)) h
noncomputable def retP (b : Nat) (res : XV) (us : List (Nat × XObj)) (h : HS) : Ans := kUpd b us h fun h' => endP b res h'
noncomputable def finK (b : Nat) (rvs : List RV) (rfz : List Bool) (env : Env) (h : HS) : Ans := match rfz with
  | [] => kRets h.ob env (fun qs us => retP b (packX qs) us h) [] rvs
  | x :: y => kRets h.ob env (fun qs us => retK b qs us h) (x :: y) rvs
theorem okT_fz : ∀ {l : List XV}, (∀ q ∈ l, Fz q) → (l.map dec).all tupOk = true
  | [], _ => rfl
  | c :: r, h => by
    rw [List.map_cons, List.all_cons, (h c List.mem_cons_self).2.2, okT_fz fun q hq => h q (List.mem_cons_of_mem _ hq)]; rfl
theorem packX_fz : ∀ {l : List XV}, (∀ q ∈ l, Fz q) → (packX l).keys = []
  | [], _ => rfl
  | [v], h => (h v List.mem_cons_self).2.1
  | a :: b :: r, h => by
    show (XV.tup (a :: b :: r)).keys = []
    have key : ∀ (l : List XV), (∀ q ∈ l, Fz q) → l.flatMap XV.keysA = [] := by
      intro l
      induction l with
      | nil => intro _; rfl
      | cons c r ih => intro h; rw [List.flatMap_cons, (h c List.mem_cons_self).1, ih fun q hq => h q (List.mem_cons_of_mem _ hq)]; rfl
    exact key _ h
noncomputable def hs0 (b : Nat) (segs : SL) : HS := .mk (Nat.add b 4096) (.cons b .nil segs) []
noncomputable def denF (np n : Nat) (c : AC) (rvs : List RV) (rfz : List Bool) (u : Fn) (args : List XV) (b : Nat) (segs : SL) : Ans :=
  stA (fun env => den u b n c env (hs0 b segs) (finK b rvs rfz) (fun _ _ _ => .no) (finK b rvs rfz)) np 0 noE args
theorem hs0_dob (b : Nat) (segs : SL) : (hs0 b segs).dob = dobX b segs := by
  funext k
  show decO (obX (b + 4096) (.cons b .nil segs) k) = decO (obX b segs k)
  congr 1
  by_cases h1 : k < b
  · rw [obX_lt (by omega), obX_lt h1]
    show (@Bool.rec (fun _ => SObj) (segs.get k) (AL.get .nil k) (Nat.ble b k)).o = _
    have : Nat.ble b k = false := by
      cases hh : Nat.ble b k with
      | true => have := Nat.le_of_ble_eq_true hh; omega
      | false => rfl
    rw [this]
  · rw [obX_ge (ub := b) (by omega)]
    by_cases h2 : k < b + 4096
    · rw [obX_lt h2]
      show (@Bool.rec (fun _ => SObj) (segs.get k) (AL.get .nil k) (Nat.ble b k)).o = _
      rw [Nat.ble_eq_true_of_le (by omega)]; rfl
    · rw [obX_ge (by omega)]
section
variable {gl : Gl} {P : Program}
theorem denF_okG {u : Fn} (hu : CallOk gl P u) {f m : Nat} {np n : Nat} {c : AC} {rvs : List RV} {rfz : List Bool} (hnp : np ≤ m)
    (hHC : ∀ (ub : Nat) (args : List PV) (ob obF : Nat → Obj) (res : PV), args.length ≤ m → pw gl P ub c.pc (Fin rfz rvs ob obF res) (initSt args ob) → HC gl P f args ob res obF)
    {args : List XV} {ub : Nat} {segs : SL} {res : XV} {ub' : Nat} {segs' : SL} {dirty : List Nat} (h : denF np n c rvs rfz u args ub segs = .ok res ub' segs' dirty) :
    HC gl P f (args.map dec) (dobX ub segs) (dec res) (dobX ub' segs') ∧ (∀ k, k < ub → k ∉ dirty → obX ub' segs' k = obX ub segs k) ∧ ∀ k ∈ res.keys, k < ub' := by
  have hne : denF np n c rvs rfz u args ub segs ≠ .no := by rw [h]; simp
  unfold denF at h hne
  obtain ⟨e0, e1, hl, _, h4⟩ := stA_ne hne
  rw [e1] at h hne
  have hst : stE e0 (hs0 ub segs) = initSt (args.map dec) (dobX ub segs) := by
    unfold stE initSt
    congr 1
    · funext i
      rw [h4 i (Nat.zero_le i), Nat.sub_zero, List.getElem?_map]
      cases args[i]? with
      | none => simp [noE, dec]
      | some v => rfl
    · exact hs0_dob ub segs
  obtain ⟨x, env', h', n1, e2, p1⟩ := den_ok hu (n := n) c e0 (hs0 ub segs) (finK ub rvs rfz) (fun _ _ _ => .no) (finK ub rvs rfz) (Nat.le_refl _) hne
  rw [e2] at h
  have key : finK ub rvs rfz env' h' = .ok res ub' segs' dirty → (x = .normal ∨ x = .ret) → HC gl P f (args.map dec) (dobX ub segs) (dec res) (dobX ub' segs') ∧ (∀ k, k < ub → k ∉ dirty → obX ub' segs' k = obX ub segs k) ∧ ∀ k ∈ res.keys, k < ub' := by
    intro h hx
    have hn : finK ub rvs rfz env' h' ≠ .no := by rw [h]; simp
    have split : ∃ vals qs us h2, rvVals (stE env' h') rvs = some vals ∧ handAll h'.dob rfz vals = some (qs.map dec, us.map decU) ∧ (qs.map dec).all tupOk = true ∧ Upd ub us h' h2 ∧
        (endK ub (packX qs) h2 = .ok res ub' segs' dirty ∨ (endP ub (packX qs) h2 = .ok res ub' segs' dirty ∧ (packX qs).keys = [])) := by
      unfold finK at h hn
      cases rfz with
      | nil =>
        obtain ⟨vals, qs, us, r1, r2, r3, r4⟩ := kRets_ne hn
        simp only [] at h hn
        rw [r3] at h hn
        obtain ⟨h2, r5, e4⟩ := kUpd_ne hn
        have h3 : kUpd ub us h' (fun h' => endP ub (packX qs) h') = .ok res ub' segs' dirty := h
        rw [e4] at h3
        exact ⟨vals, qs, us, h2, r1, r2, okT_fz (r4 rfl), r5, .inr ⟨h3, packX_fz (r4 rfl)⟩⟩
      | cons x y =>
        obtain ⟨vals, qs, us, r1, r2, r3, _⟩ := kRets_ne hn
        simp only [] at h hn
        rw [r3] at h hn
        unfold retK at h hn
        obtain ⟨r4, e3⟩ := bo_ne hn
        rw [e3] at h hn
        obtain ⟨h2, r5, e4⟩ := kUpd_ne hn
        rw [e4] at h
        exact ⟨vals, qs, us, h2, r1, r2, okT_ok r4, r5, .inl h⟩
    obtain ⟨vals, qs, us, h2, r1, r2, r4, r5, h⟩ := split
    obtain ⟨m1, m2, m3⟩ := r5
    have nx := n1.trans m1
    have hres : dec (packX qs) = pack (qs.map dec) := packX_ok qs
    have fin : ∀ obF, Kept (dobX ub segs) (updAll h'.dob (us.map decU)) obF (dec (packX qs)) → HC gl P f (args.map dec) (dobX ub segs) (dec (packX qs)) obF := by
      intro obF hK
      refine hHC ub _ _ _ _ (by rw [List.length_map, hl]; exact hnp) ?_
      rw [← hst]
      refine p1 _ ?_
      have hF : ∃ vals q us, rvVals (stE env' h') rvs = some vals ∧ handAll (stE env' h').objs rfz vals = some (q, us) ∧ q.all tupOk = true ∧ dec (packX qs) = pack q ∧ Kept (dobX ub segs) (updAll (stE env' h').objs us) obF (dec (packX qs)) := ⟨vals, qs.map dec, us.map decU, r1, r2, r4, hres, hK⟩
      rcases hx with rfl | rfl
      · exact hF
      · exact hF
    cases h2 with
    | mk ub2 segs2 d2 =>
      have hdob : updAll h'.dob (us.map decU) = dobX ub2 segs2 := by rw [← m2, dob_eq]; rfl
      have hub : ub + 4096 ≤ ub2 := nx.ub
      have same : ∀ k, k < ub → k ∉ d2 → obX ub2 segs2 k = obX ub segs k := by
        intro k hk hnd
        have e5 := nx.same k hk hnd
        have e6 : obX ub2 segs2 k = obX (ub + 4096) (.cons ub .nil segs) k := e5
        rw [e6, obX_lt (by omega), obX_lt hk]
        show (@Bool.rec (fun _ => SObj) (segs.get k) (AL.get .nil k) (Nat.ble ub k)).o = _
        have : Nat.ble ub k = false := by
          cases hh : Nat.ble ub k with
          | true => have := Nat.le_of_ble_eq_true hh; omega
          | false => rfl
        rw [this]
      have low : (∀ k ∈ (packX qs).keys, k < ub) → lowD ub segs2 d2 = true → (.ok (packX qs) ub (segs2.drop ub) d2 : Ans) = .ok res ub' segs' dirty →
          HC gl P f (args.map dec) (dobX ub segs) (dec res) (dobX ub' segs') ∧ (∀ k, k < ub → k ∉ dirty → obX ub' segs' k = obX ub segs k) ∧ ∀ k ∈ res.keys, k < ub' := by
        intro hlv hld h
        simp only [Ans.ok.injEq] at h
        obtain ⟨rfl, rfl, rfl, rfl⟩ := h
        have lo : ∀ k, k < ub → obX ub (segs2.drop ub) k = obX ub2 segs2 k := fun k hk => by
          rw [obX_lt hk, obX_lt (by omega), SL.get_drop ub segs2 k hk]
        refine ⟨fin _ ⟨fun k => ?_, fun k hk => ?_, fun k hk => ?_⟩, fun k hk hnd => by rw [lo k hk]; exact same k hk hnd, hlv⟩
        · by_cases hk : k < ub
          · left; rw [hdob]; show decO _ = decO _; rw [lo k hk]
          · right
            have e5 : dobX ub (segs2.drop ub) k = .no 0 := by show decO _ = _; rw [obX_ge (by omega)]; rfl
            have e6 : dobX ub segs k = .no 0 := by show decO _ = _; rw [obX_ge (by omega)]; rfl
            rw [e5, e6]
            exact ⟨fun h => h, Nat.le_refl _⟩
        · by_cases hkb : k < ub
          · by_cases hd : k ∈ d2
            · right
              intro k2 hk2
              have e5 : dobX ub (segs2.drop ub) k = decO (segs2.get k).o := by show decO _ = _; rw [obX_lt hkb, SL.get_drop ub segs2 k hkb]
              rw [e5] at hk2
              have hlt := lowO_ok (lowD_ok hld k hd) k2 hk2
              rw [hdob]; show decO _ = decO _; rw [lo k2 hlt]
            · left
              show decO _ = decO _
              rw [lo k hkb, same k hkb hd]
          · exfalso
            have e5 : dobX ub (segs2.drop ub) k = .no 0 := by show decO _ = _; rw [obX_ge (by omega)]; rfl
            rw [e5] at hk; exact hk
        · have hlt := hlv k (by rw [← keys_dec]; exact hk)
          rw [hdob]; show decO _ = decO _; rw [lo k hlt]
      have high : (∀ k ∈ (packX qs).keys, k < ub2) → (.ok (packX qs) ub2 segs2 d2 : Ans) = .ok res ub' segs' dirty →
          HC gl P f (args.map dec) (dobX ub segs) (dec res) (dobX ub' segs') ∧ (∀ k, k < ub → k ∉ dirty → obX ub' segs' k = obX ub segs k) ∧ ∀ k ∈ res.keys, k < ub' := by
        intro hlv h
        simp only [Ans.ok.injEq] at h
        obtain ⟨rfl, rfl, rfl, rfl⟩ := h
        exact ⟨fin _ ⟨fun k => .inl (by rw [hdob]), fun k _ => .inr fun k2 _ => by rw [hdob], fun k _ => by rw [hdob]⟩, same, hlv⟩
      rcases h with h | ⟨h, hk0⟩
      · change @Bool.rec (fun _ => Ans) (bo (lowV ub2 (packX qs)) (.ok (packX qs) ub2 segs2 d2) .no) (.ok (packX qs) ub (segs2.drop ub) d2) (an (lowV ub (packX qs)) (lowD ub segs2 d2)) = .ok res ub' segs' dirty at h
        cases hlow : an (lowV ub (packX qs)) (lowD ub segs2 d2) with
        | true =>
          rw [hlow] at h
          rw [an_eq, Bool.and_eq_true] at hlow
          exact low (lowV_ok hlow.1) hlow.2 h
        | false =>
          rw [hlow] at h
          change bo (lowV ub2 (packX qs)) (.ok (packX qs) ub2 segs2 d2) .no = .ok res ub' segs' dirty at h
          obtain ⟨hl2, e5⟩ := bo_ne (c := lowV ub2 (packX qs)) (x := .ok (packX qs) ub2 segs2 d2) (by rw [h]; simp)
          rw [e5] at h
          exact high (lowV_ok hl2) h
      · have hk0' : ∀ b, ∀ k ∈ (packX qs).keys, k < b := fun b k hk => by rw [hk0] at hk; cases hk
        change @Bool.rec (fun _ => Ans) (.ok (packX qs) ub2 segs2 d2) (.ok (packX qs) ub (segs2.drop ub) d2) (lowD ub segs2 d2) = .ok res ub' segs' dirty at h
        cases hlow : lowD ub segs2 d2 with
        | true => rw [hlow] at h; exact low (hk0' ub) hlow h
        | false => rw [hlow] at h; exact high (hk0' ub2) h
  cases x with
  | normal => exact key h (.inl rfl)
  | ret => exact key h (.inr rfl)
  | exit i => cases h
theorem denF_ok {u : Fn} (hu : CallOk gl P u) {H : Hints} {f : Nat} {fn : Func} {body : Code} {np n : Nat} {c : AC} {rvs : List RV} {rfz : List Bool} (hmix : P.follows .mixedOrders = true) (hf : P.funcs[f]? = some fn) (hb : fn.body = some body)
    (hname : (fn.name == "runtime.NumGoroutine") = false) (hnp : np ≤ fn.ntmps) (hrv : rvsOf P fn.results.toList = some rvs) (hc : c.pc = comp P H fn.ntmps body)
    {args : List XV} {ub : Nat} {segs : SL} {res : XV} {ub' : Nat} {segs' : SL} {dirty : List Nat} (h : denF np n c rvs rfz u args ub segs = .ok res ub' segs' dirty) :
    HC gl P f (args.map dec) (dobX ub segs) (dec res) (dobX ub' segs') ∧ (∀ k, k < ub → k ∉ dirty → obX ub' segs' k = obX ub segs k) ∧ ∀ k ∈ res.keys, k < ub' := by
  refine denF_okG hu hnp (fun ub args ob obF res hl hp => ?_) h
  rw [hc] at hp
  exact HC_of_pw ub rfz rvs hmix hf hb hname hl hrv hp
end
end
end Go.Hf
end
section
namespace Go.Hf
open Go.RowKit
section
variable [Tok]
def ann : PC → List (Option (List Nat)) → AC × List (Option (List Nat))
  | .skip, l => (.skip, l)
  | .region d o, l => (.region d o, l)
  | .seq a b, x :: l => match ann a l with
    | (a', l1) => match ann b l1 with
      | (b', l2) => match x with
        | none => (.seq a' b', l2)
        | some v => (.jn v a' b', l2)
  | .seq a b, [] => match ann a [] with
    | (a', _) => match ann b [] with
      | (b', _) => (.seq a' b', [])
  | .cond c a b, l => match ann a l with
    | (a', l1) => match ann b l1 with
      | (b', l2) => (.cond c a' b', l2)
  | .block id b, l => match ann b l with
    | (b', l1) => (.block id b', l1)
  | .loop b, x :: l => match ann b l with
    | (b', l1) => (.loop (x.getD []) b', l1)
  | .loop b, [] => match ann b [] with
    | (b', _) => (.loop [] b', [])
  | .exit id, l => (.exit id, l)
  | .ret, l => (.ret, l)
theorem ann_pc : ∀ (c : PC) (l : List (Option (List Nat))), (ann c l).1.pc = c
  | .skip, _ => rfl
  | .region _ _, _ => rfl
  | .seq a b, x :: l => by
    have ha := ann_pc a l
    have hb := ann_pc b (ann a l).2
    cases x with
    | none => show AC.pc (.seq (ann a l).1 (ann b (ann a l).2).1) = _; rw [AC.pc, ha, hb]
    | some v => show AC.pc (.jn v (ann a l).1 (ann b (ann a l).2).1) = _; rw [AC.pc, ha, hb]
  | .seq a b, [] => by
    show AC.pc (.seq (ann a []).1 (ann b []).1) = _
    rw [AC.pc, ann_pc a, ann_pc b]
  | .cond c a b, l => by
    show AC.pc (.cond c (ann a l).1 (ann b (ann a l).2).1) = _
    rw [AC.pc, ann_pc a, ann_pc b]
  | .block id b, l => by
    show AC.pc (.block id (ann b l).1) = _
    rw [AC.pc, ann_pc b]
  | .loop b, x :: l => by
    show AC.pc (.loop _ (ann b l).1) = _
    rw [AC.pc, ann_pc b]
  | .loop b, [] => by
    show AC.pc (.loop _ (ann b []).1) = _
    rw [AC.pc, ann_pc b]
  | .exit _, _ => rfl
  | .ret, _ => rfl
abbrev Bd := Fn → List XV → Nat → SL → Ans
def BodyOk (gl : Gl) (P : Program) (f : Nat) (g : Bd) : Prop :=
  ∀ u, CallOk gl P u → ∀ args ub segs res ub' segs' dirty, g u args ub segs = .ok res ub' segs' dirty → HC gl P f (args.map dec) (dobX ub segs) (dec res) (dobX ub' segs') ∧
    (∀ k, k < ub → k ∉ dirty → obX ub' segs' k = obX ub segs k) ∧ ∀ k ∈ res.keys, k < ub'
structure FnD where
  f : Nat
  fn : Func
  H : Hints
  np : Nat
  rvs : List RV
  rfz : List Bool
  lv : List (Option (List Nat))
def bodyOf (fn : Func) : Code := fn.body.getD .skip
noncomputable def FnD.den (P : Program) (d : FnD) : Bd := denF d.np 1000000 (ann (comp P d.H d.fn.ntmps (bodyOf d.fn)) d.lv).1 d.rvs d.rfz
theorem body_ok {gl : Gl} {P : Program} (d : FnD) {g : Bd} (hmix : P.follows .mixedOrders = true) (hf : P.funcs[d.f]? = some d.fn) (hb : d.fn.body.isSome = true)
    (hname : (d.fn.name == "runtime.NumGoroutine") = false) (hnp : Nat.ble d.np d.fn.ntmps = true) (hrv : rvsOf P d.fn.results.toList = some d.rvs) (hg : g = d.den P) : BodyOk gl P d.f g := by
  intro u hu args ub segs res ub' segs' dirty h
  subst hg
  have hb' : d.fn.body = some (bodyOf d.fn) := by
    unfold bodyOf
    cases hh : d.fn.body with
    | none => rw [hh] at hb; cases hb
    | some b => rfl
  exact denF_ok hu (H := d.H) hmix hf hb' hname (Nat.le_of_ble_eq_true hnp) hrv (ann_pc _ _) h
inductive W where
  | no
  | mk (g : Bd)
inductive DT where
  | leaf (f : Nat) (g : Bd)
  | node (m : Nat) (l r : DT)
noncomputable def look (t : DT) : Nat → W :=
  @DT.rec (fun _ => Nat → W) (fun k g f => @Bool.rec (fun _ => W) .no (.mk g) (Nat.beq f k)) (fun m _ _ il ir f => @Bool.rec (fun _ => W) (ir f) (il f) (Nat.ble f m)) t
noncomputable def tab (T : DT) (n : Nat) : Fn := @Nat.rec (fun _ => Fn) (fun _ _ _ _ => .no) (fun _ t f args b segs => @W.rec (fun _ => Ans) .no (fun g => g t args b segs) (look T f)) n
def AllOk (gl : Gl) (P : Program) : DT → Prop
  | .leaf f g => BodyOk gl P f g
  | .node _ l r => AllOk gl P l ∧ AllOk gl P r
theorem look_ok {gl : Gl} {P : Program} : ∀ {T : DT}, AllOk gl P T → ∀ {f : Nat} {g : Bd}, look T f = .mk g → BodyOk gl P f g
  | .leaf k g', hT, f, g, h => by
    change @Bool.rec (fun _ => W) .no (.mk g') (Nat.beq f k) = .mk g at h
    cases hb : Nat.beq f k with
    | true =>
      rw [hb] at h
      have e := Nat.eq_of_beq_eq_true hb
      subst e
      cases h
      exact hT
    | false => rw [hb] at h; cases h
  | .node m l r, hT, f, g, h => by
    change @Bool.rec (fun _ => W) (look r f) (look l f) (Nat.ble f m) = .mk g at h
    cases hb : Nat.ble f m with
    | true => rw [hb] at h; exact look_ok hT.1 h
    | false => rw [hb] at h; exact look_ok hT.2 h
theorem tab_ok {gl : Gl} {P : Program} {T : DT} (hT : AllOk gl P T) : ∀ n, CallOk gl P (tab T n)
  | 0 => by intro f args ub segs res ub' segs' dirty h; cases h
  | n + 1 => by
    intro f args ub segs res ub' segs' dirty h
    change @W.rec (fun _ => Ans) .no (fun g => g (tab T n) args ub segs) (look T f) = _ at h
    cases hl : look T f with
    | no => rw [hl] at h; cases h
    | mk g =>
      rw [hl] at h
      exact look_ok hT hl (tab T n) (tab_ok hT n) args ub segs res ub' segs' dirty h
theorem tab_RC {gl : Gl} {P : Program} {T : DT} (hT : AllOk gl P T) {n f : Nat} {args : List XV} {res : XV} {segs : SL} {dirty : List Nat} (h : tab T n f args 0 .nil = .ok res 0 segs dirty) : RC gl P f (args.map dec) (dec res) := by
  obtain ⟨h1, _, h3⟩ := tab_ok hT n f args 0 .nil res 0 segs dirty h
  rw [dobX_zero, dobX_zero] at h1
  refine ⟨h1, ?_⟩
  rw [keys_dec]
  exact List.eq_nil_iff_forall_not_mem.2 fun k hk => Nat.not_lt_zero k (h3 k hk)
end
end Go.Hf
end

/- Fast values, part L: the operations in continuation form: parts, frozen values, the store. -/
import Derived.Test.YtlefgpakmgbgaaaGreatDoorFc
set_option linter.unusedVariables false
set_option linter.unusedSimpArgs false
set_option linter.unusedSectionVars false
section
namespace Go.Hf
section
variable [Tok]
noncomputable def kBound (dflt : Nat) (x : Option XV) (f : Nat → Ans) : Ans :=
  @Option.rec XV (fun _ => Ans) (f dflt) (fun v => onI v fun _ n => bo (Nat.ble 18446744073709551616 n) (frc (Nat.sub n 18446744073709551616) f) .no) x
theorem kBound_ne {dflt : Nat} {x : Option XV} {f : Nat → Ans} (h : kBound dflt x f ≠ .no) : ∃ a, boundX dflt x = some a ∧ kBound dflt x f = f a := by
  cases x with
  | none => exact ⟨dflt, rfl, rfl⟩
  | some v =>
    change onI v (fun _ n => bo (Nat.ble 18446744073709551616 n) (frc (Nat.sub n 18446744073709551616) f) .no) ≠ .no at h
    show ∃ a, _ ∧ onI v (fun _ n => bo (Nat.ble 18446744073709551616 n) (frc (Nat.sub n 18446744073709551616) f) .no) = f a
    obtain ⟨_, n, rfl, e⟩ := onI_ne h
    rw [e] at h ⊢
    obtain ⟨h1, e⟩ := bo_ne h
    rw [e, frc_eq]
    exact ⟨_, by simp only [boundX, h1, cond_true], rfl⟩
noncomputable def kSslice (x : XV) (lo hi : Option XV) (k : XV → Ans) : Ans :=
  onS x fun l n => kBound 0 lo fun a => kBound l hi fun b => bo (Nat.ble a b) (bo (Nat.ble b l) (frc (Nat.sub b a) fun m => frc (Nat.mod (Nat.shiftRight n (Nat.mul 8 (Nat.sub l b))) (Nat.pow 256 m)) fun n' => k (.s m n')) .no) .no
theorem kSslice_sel (x : XV) (lo hi : Option XV) (k : XV → Ans) : Sel (kSslice x lo hi k) (vSslice x lo hi) k := by
  intro h
  unfold kSslice at h ⊢
  obtain ⟨l, n, rfl, e⟩ := onS_ne h
  rw [e] at h ⊢
  obtain ⟨a, h1, e⟩ := kBound_ne h
  rw [e] at h ⊢
  obtain ⟨b, h2, e⟩ := kBound_ne h
  rw [e] at h ⊢
  obtain ⟨h3, e⟩ := bo_ne h
  rw [e] at h ⊢
  obtain ⟨h4, e⟩ := bo_ne h
  rw [e, frc_eq, frc_eq] at h ⊢
  exact ⟨_, by simp only [vSslice, h1, h2, h3, h4, Bool.and_self, cond_true, shr8], rfl⟩
noncomputable def partF (es : List (List XV)) (off len : Nat) : List (List XV) :=
  @Bool.rec (fun _ => List (List XV)) (takeL len (dropL off es)) (dropL off es) (Nat.beq (Nat.add off len) (lenL es))
theorem partF_eq (es : List (List XV)) (off len : Nat) : partF es off len = part es off len := by
  rw [part_eq]
  unfold partF
  cases h : Nat.beq (Nat.add off len) (lenL es) with
  | false => show takeL len (dropL off es) = _; rw [takeL_eq, dropL_eq]
  | true =>
    show dropL off es = _
    have h2 := Nat.eq_of_beq_eq_true h
    rw [lenL_eq] at h2
    have h3 : off + len = es.length := h2
    rw [dropL_eq, List.take_of_length_le]
    rw [List.length_drop]; omega
noncomputable def kSlc (ob : Nat → XObj) (sz : Nat) (x : XV) (lo hi : Option XV) (k : XV → Ans) : Ans :=
  onL x (kBound 0 lo fun a => kBound 0 hi fun b => bo (Nat.beq a 0) (bo (Nat.beq b 0) (k .nl) .no) .no)
    (fun sz' es => kBound 0 lo fun l => kBound (lenL es) hi fun h => bo (Nat.beq sz' sz) (bo (Nat.ble l h) (bo (Nat.ble h (lenL es)) (k (.lst sz (partF es l (Nat.sub h l)))) .no) .no) .no)
    (fun q s off len => kBound 0 lo fun l => kBound len hi fun h => onBld (ob q) fun s' _ sz' _ _ => bo (Nat.beq s s') (bo (Nat.beq sz' sz) (bo (Nat.ble l h) (bo (Nat.ble h len) (k (.bld q s (Nat.add off l) (Nat.sub h l))) .no) .no) .no) .no)
theorem kSlc_sel (ob : Nat → XObj) (sz : Nat) (x : XV) (lo hi : Option XV) (k : XV → Ans) : Sel (kSlc ob sz x lo hi k) (vSlc ob sz x lo hi) k := by
  intro hn
  unfold kSlc at hn ⊢
  rcases onL_ne hn with ⟨rfl, e⟩ | ⟨sz', es, rfl, e⟩ | ⟨q, s, off, len, rfl, e⟩
  · rw [e] at hn ⊢
    obtain ⟨a, h1, e⟩ := kBound_ne hn
    rw [e] at hn ⊢
    obtain ⟨b, h2, e⟩ := kBound_ne hn
    rw [e] at hn ⊢
    obtain ⟨h3, e⟩ := bo_ne hn
    rw [e] at hn ⊢
    obtain ⟨h4, e⟩ := bo_ne hn
    have h5 := Nat.eq_of_beq_eq_true h3
    have h6 := Nat.eq_of_beq_eq_true h4
    subst h5; subst h6
    exact ⟨_, by simp only [vSlc, h1, h2], e⟩
  · rw [e, lenL_eq] at hn ⊢
    obtain ⟨a, h1, e⟩ := kBound_ne hn
    rw [e] at hn ⊢
    obtain ⟨b, h2, e⟩ := kBound_ne hn
    rw [e] at hn ⊢
    obtain ⟨h3, e⟩ := bo_ne hn
    rw [e] at hn ⊢
    obtain ⟨h4, e⟩ := bo_ne hn
    rw [e] at hn ⊢
    obtain ⟨h5, e⟩ := bo_ne hn
    rw [e, partF_eq]
    exact ⟨_, by simp only [vSlc, h1, h2, h3, h4, h5, Bool.and_self, cond_true], rfl⟩
  · rw [e] at hn ⊢
    obtain ⟨a, h1, e⟩ := kBound_ne hn
    rw [e] at hn ⊢
    obtain ⟨b, h2, e⟩ := kBound_ne hn
    rw [e] at hn ⊢
    obtain ⟨s', _, sz', _, _, h0, e⟩ := onBld_ne hn
    rw [e] at hn ⊢
    obtain ⟨h3, e⟩ := bo_ne hn
    rw [e] at hn ⊢
    obtain ⟨h4, e⟩ := bo_ne hn
    rw [e] at hn ⊢
    obtain ⟨h5, e⟩ := bo_ne hn
    rw [e] at hn ⊢
    obtain ⟨h6, e⟩ := bo_ne hn
    exact ⟨_, by simp only [vSlc, h0, h1, h2, h3, h4, h5, h6, Bool.and_self, cond_true], e⟩
noncomputable def kCells (x : XV) (f : List XV → Ans) : Ans :=
  @XV.rec (fun _ => Ans) (fun _ => PUnit) (fun _ => PUnit) .no (fun _ => f [x]) (fun _ _ => f [x]) (fun _ _ => f [x]) (f [x]) (fun _ => f [x]) (fun a1 _ => f a1) (fun _ _ => .no) (fun _ _ _ => f [x]) (fun _ _ _ => f [x]) (fun _ _ _ => f [x]) (fun _ _ _ _ => f [x]) (fun _ _ _ _ => f [x]) (fun _ _ => f [x]) (fun _ _ _ => f [x]) (fun _ => f [x]) PUnit.unit (fun _ _ _ _ => PUnit.unit) PUnit.unit (fun _ _ _ _ => PUnit.unit) x
theorem kCells_ne {x : XV} {f : List XV → Ans} (h : kCells x f ≠ .no) : ∃ cs, x.cells = some cs ∧ kCells x f = f cs := by
  cases x <;> first | exact absurd rfl h | exact ⟨_, rfl, rfl⟩
noncomputable def pureF (cs : List XV) : Bool :=
  @List.rec XV (fun _ => Bool) true (fun c _ ih => @XV.rec (fun _ => Bool) (fun _ => PUnit) (fun _ => PUnit) false (fun _ => ih) (fun _ _ => ih) (fun _ _ => ih) ih (fun _ => ih) (fun _ _ => false) (fun _ _ => false) (fun _ _ _ => ih) (fun _ _ _ => ih) (fun _ _ _ => false) (fun _ _ _ _ => false) (fun _ _ _ _ => false) (fun _ _ => false) (fun _ _ _ => false) (fun _ => ih) PUnit.unit (fun _ _ _ _ => PUnit.unit) PUnit.unit (fun _ _ _ _ => PUnit.unit) c) cs
theorem pureF_ok {ob : Nat → XObj} : ∀ {cs : List XV}, pureF cs = true → pureCellsX ob cs = some cs ∧ cs.flatMap (shareCellX ob) = []
  | [], _ => ⟨rfl, rfl⟩
  | c :: r, h => by
    have hr : pureF r = true ∧ pureCellX ob c = some c ∧ shareCellX ob c = [] := by
      cases c <;> first | exact ⟨h, rfl, rfl⟩ | exact absurd h (by intro h; cases h)
    obtain ⟨h1, h2, h3⟩ := hr
    obtain ⟨h4, h5⟩ := pureF_ok (ob := ob) h1
    refine ⟨by simp only [pureCellsX, h2, h4], by rw [List.flatMap_cons, h3, h5]; rfl⟩
noncomputable def frzL (ob : Nat → XObj) (cs : List XV) : (List XV → List (Nat × XObj) → Ans) → Ans :=
  @List.rec XV (fun _ => (List XV → List (Nat × XObj) → Ans) → Ans) (fun f => f [] []) (fun c _ ih f =>
    @XV.rec (fun _ => Ans) (fun _ => PUnit) (fun _ => PUnit) .no (fun _ => ih fun qs us => f (c :: qs) us) (fun _ _ => ih fun qs us => f (c :: qs) us) (fun _ _ => ih fun qs us => f (c :: qs) us) (ih fun qs us => f (c :: qs) us) (fun _ => ih fun qs us => f (c :: qs) us) (fun _ _ => .no) (fun _ _ => .no) (fun _ _ _ => ih fun qs us => f (c :: qs) us) (fun _ _ _ => ih fun qs us => f (c :: qs) us)
      (fun _ _ _ => .no) (fun q s off len => onBld (ob q) fun s' e sz es raw => bo (Nat.beq s s') (bo (Nat.ble (Nat.add off len) (lenL es)) (ih fun qs us => f (.lst sz (partF es off len) :: qs) (@Bool.rec (fun _ => List (Nat × XObj)) us ((q, .bld s' e sz es false) :: us) raw)) .no) .no)
      (fun _ _ _ _ => .no) (fun _ _ => .no) (fun _ _ _ => .no) (fun _ => ih fun qs us => f (c :: qs) us) PUnit.unit (fun _ _ _ _ => PUnit.unit) PUnit.unit (fun _ _ _ _ => PUnit.unit) c) cs
theorem frzL_ne {ob : Nat → XObj} : ∀ {cs : List XV} {f : List XV → List (Nat × XObj) → Ans}, frzL ob cs f ≠ .no → ∃ qs, pureCellsX ob cs = some qs ∧ frzL ob cs f = f qs (cs.flatMap (shareCellX ob))
  | [], f, _ => ⟨[], rfl, rfl⟩
  | c :: r, f, h => by
    have same : pureCellX ob c = some c → shareCellX ob c = [] → frzL ob (c :: r) f = frzL ob r (fun qs us => f (c :: qs) us) → ∃ qs, pureCellsX ob (c :: r) = some qs ∧ frzL ob (c :: r) f = f qs ((c :: r).flatMap (shareCellX ob)) := by
      intro h1 h2 e
      rw [e] at h ⊢
      obtain ⟨qs, h3, h4⟩ := frzL_ne h
      exact ⟨c :: qs, by simp only [pureCellsX, h1, h3], by rw [h4, List.flatMap_cons, h2]; rfl⟩
    cases c with
    | bld q s off len =>
      have e : frzL ob (.bld q s off len :: r) f = onBld (ob q) fun s' e sz es raw => bo (Nat.beq s s') (bo (Nat.ble (Nat.add off len) (lenL es)) (frzL ob r fun qs us => f (.lst sz (partF es off len) :: qs) (@Bool.rec (fun _ => List (Nat × XObj)) us ((q, .bld s' e sz es false) :: us) raw)) .no) .no := rfl
      rw [e] at h ⊢
      obtain ⟨s', el, sz, es, raw, h0, e1⟩ := onBld_ne h
      rw [e1] at h ⊢
      obtain ⟨h1, e1⟩ := bo_ne h
      rw [e1] at h ⊢
      obtain ⟨h2, e1⟩ := bo_ne h
      rw [e1] at h ⊢
      obtain ⟨qs, h3, h4⟩ := frzL_ne h
      rw [lenL_eq] at h2
      refine ⟨.lst sz (part es off len) :: qs, by simp only [pureCellsX, pureCellX, h0, h1, h2, h3, Bool.and_self, cond_true], ?_⟩
      rw [h4, partF_eq, List.flatMap_cons]
      simp only [shareCellX, h0]
      cases raw <;> rfl
    | b x => exact same rfl rfl rfl
    | i q n => exact same rfl rfl rfl
    | s l n => exact same rfl rfl rfl
    | nl => exact same rfl rfl rfl
    | sc v => exact same rfl rfl rfl
    | lst sz es => exact same rfl rfl rfl
    | eptr cs o => exact same rfl rfl rfl
    | tok i => exact same rfl rfl rfl
    | _ => exact absurd rfl h
noncomputable def kHand (ob : Nat → XObj) (x : XV) (f : XV → List (Nat × XObj) → Ans) : Ans :=
  @XV.rec (fun _ => Ans) (fun _ => PUnit) (fun _ => PUnit) .no (fun _ => f x []) (fun _ _ => f x []) (fun _ _ => f x []) (f x []) (fun _ => f x []) (fun cs _ => bo (pureF cs) (f x []) (frzL ob cs fun qs us => f (.agg qs) us)) (fun _ _ => .no) (fun _ _ _ => f x []) (fun _ _ _ => f x []) (fun _ _ _ => .no) (fun q s off len => onBld (ob q) fun s' e sz es raw => bo (Nat.beq s s') (bo (Nat.ble (Nat.add off len) (lenL es)) (f (.lst sz (partF es off len)) (@Bool.rec (fun _ => List (Nat × XObj)) [] [(q, .bld s' e sz es false)] raw)) .no) .no) (fun _ _ _ _ => .no) (fun _ _ => .no) (fun _ _ _ => .no) (fun _ => f x []) PUnit.unit (fun _ _ _ _ => PUnit.unit) PUnit.unit (fun _ _ _ _ => PUnit.unit) x
theorem kHand_ne {ob : Nat → XObj} {x : XV} {f : XV → List (Nat × XObj) → Ans} (h : kHand ob x f ≠ .no) : ∃ q, pureValX ob x = some q ∧ kHand ob x f = f q (shareValX ob x) := by
  cases x with
  | agg cs =>
    change bo (pureF cs) (f (.agg cs) []) (frzL ob cs fun qs us => f (.agg qs) us) ≠ .no at h
    show ∃ q, _ ∧ bo (pureF cs) (f (.agg cs) []) (frzL ob cs fun qs us => f (.agg qs) us) = _
    cases hp : pureF cs with
    | true =>
      obtain ⟨h1, h2⟩ := pureF_ok (ob := ob) hp
      refine ⟨.agg cs, by simp only [pureValX, h1], ?_⟩
      show f (.agg cs) [] = _
      simp only [shareValX, h2]
    | false =>
      rw [hp] at h
      obtain ⟨qs, h1, h2⟩ := frzL_ne (f := fun qs us => f (.agg qs) us) h
      exact ⟨.agg qs, by simp only [pureValX, h1], h2⟩
  | bld q s off len =>
    change onBld (ob q) (fun s' e sz es raw => bo (Nat.beq s s') (bo (Nat.ble (Nat.add off len) (lenL es)) (f (.lst sz (partF es off len)) (@Bool.rec (fun _ => List (Nat × XObj)) [] [(q, .bld s' e sz es false)] raw)) .no) .no) ≠ .no at h
    show ∃ v, _ ∧ onBld (ob q) (fun s' e sz es raw => bo (Nat.beq s s') (bo (Nat.ble (Nat.add off len) (lenL es)) (f (.lst sz (partF es off len)) (@Bool.rec (fun _ => List (Nat × XObj)) [] [(q, .bld s' e sz es false)] raw)) .no) .no) = _
    obtain ⟨s', e, sz, es, raw, h0, e1⟩ := onBld_ne h
    rw [e1] at h ⊢
    obtain ⟨h1, e1⟩ := bo_ne h
    rw [e1] at h ⊢
    obtain ⟨h2, e1⟩ := bo_ne h
    rw [e1, partF_eq]
    rw [lenL_eq] at h2
    refine ⟨.lst sz (part es off len), by simp only [pureValX, pureCellX, h0, h1, h2, Bool.and_self, cond_true], ?_⟩
    congr 1
    simp only [shareValX, shareCellX, h0]
    cases raw <;> rfl
  | _ => first | exact absurd rfl h | exact ⟨_, rfl, rfl⟩
def prepP (ob : Nat → XObj) : List Bool → List XV → Option (List XV × List (Nat × XObj))
  | _, [] => some ([], [])
  | [], x :: xs => match pureValX ob x, prepP ob [] xs with
    | some q, some (qs, us) => some (q :: qs, shareValX ob x ++ us)
    | _, _ => none
  | true :: bs, x :: xs => match pureValX ob x, prepP ob bs xs with
    | some q, some (qs, us) => some (q :: qs, shareValX ob x ++ us)
    | _, _ => none
  | false :: bs, x :: xs => match prepP ob bs xs with
    | some (qs, us) => some (x :: qs, us)
    | none => none
theorem prepP_ok {α : Type} {ev : α → XV} {ob : Nat → XObj} : ∀ {frz : List Bool} {xs : List α} {ps : List XV} {us : List (Nat × XObj)}, prepP ob frz (xs.map ev) = some (ps, us) → prep (fun x => dec (ev x)) (fun k => decO (ob k)) frz xs = some (ps.map dec, us.map decU)
  | [], [], ps, us, h => by cases h; rfl
  | _ :: _, [], ps, us, h => by cases h; rfl
  | [], x :: xs, ps, us, h => by
    simp only [List.map_cons, prepP] at h
    split at h
    · rename_i q qs us' h1 h2
      cases h
      simp only [prep, handArg, shareArg, if_true, pureValX_ok h1, shareValX_ok, prepP_ok h2, List.map_cons, List.map_append]
    · cases h
  | true :: bs, x :: xs, ps, us, h => by
    simp only [List.map_cons, prepP] at h
    split at h
    · rename_i q qs us' h1 h2
      cases h
      simp only [prep, handArg, shareArg, if_true, pureValX_ok h1, shareValX_ok, prepP_ok h2, List.map_cons, List.map_append]
    · cases h
  | false :: bs, x :: xs, ps, us, h => by
    simp only [List.map_cons, prepP] at h
    split at h
    · rename_i qs us' h2
      cases h
      simp only [prep, handArg, shareArg, Bool.false_eq_true, if_false, prepP_ok h2, List.map_cons, List.nil_append]
    · cases h
noncomputable def kPrep (ob : Nat → XObj) (f : List XV → List (Nat × XObj) → Ans) : List Bool → List XV → Ans
  | _, [] => (fun (_ : Nat) => f [] []) g30
  | [], x :: xs => kHand ob x fun q sh => kPrep ob (fun qs us => f (q :: qs) (apL sh us)) [] xs
  | true :: bs, x :: xs => kHand ob x fun q sh => kPrep ob (fun qs us => f (q :: qs) (apL sh us)) bs xs
  | false :: bs, x :: xs => kPrep ob (fun qs us => f (x :: qs) us) bs xs
theorem kPrep_ne {ob : Nat → XObj} : ∀ {frz : List Bool} {xs : List XV} {f : List XV → List (Nat × XObj) → Ans}, kPrep ob f frz xs ≠ .no → ∃ ps us, prepP ob frz xs = some (ps, us) ∧ kPrep ob f frz xs = f ps us
  | [], [], f, h => ⟨[], [], rfl, rfl⟩
  | _ :: _, [], f, h => ⟨[], [], rfl, rfl⟩
  | [], x :: xs, f, h => by
    change kHand ob x (fun q sh => kPrep ob (fun qs us => f (q :: qs) (apL sh us)) [] xs) ≠ .no at h
    show ∃ ps us, _ ∧ kHand ob x (fun q sh => kPrep ob (fun qs us => f (q :: qs) (apL sh us)) [] xs) = _
    obtain ⟨q, h1, e⟩ := kHand_ne h
    rw [e] at h ⊢
    obtain ⟨ps, us, h2, e⟩ := kPrep_ne h
    exact ⟨q :: ps, shareValX ob x ++ us, by simp only [prepP, h1, h2], by rw [e, apL_eq]⟩
  | true :: bs, x :: xs, f, h => by
    change kHand ob x (fun q sh => kPrep ob (fun qs us => f (q :: qs) (apL sh us)) bs xs) ≠ .no at h
    show ∃ ps us, _ ∧ kHand ob x (fun q sh => kPrep ob (fun qs us => f (q :: qs) (apL sh us)) bs xs) = _
    obtain ⟨q, h1, e⟩ := kHand_ne h
    rw [e] at h ⊢
    obtain ⟨ps, us, h2, e⟩ := kPrep_ne h
    exact ⟨q :: ps, shareValX ob x ++ us, by simp only [prepP, h1, h2], by rw [e, apL_eq]⟩
  | false :: bs, x :: xs, f, h => by
    change kPrep ob (fun qs us => f (x :: qs) us) bs xs ≠ .no at h
    obtain ⟨ps, us, h2, e⟩ := kPrep_ne h
    exact ⟨x :: ps, us, by simp only [prepP, h2], e⟩
noncomputable def noKC (cs : List XV) : Bool :=
  @List.rec XV (fun _ => Bool) true (fun c _ ih => @XV.rec (fun _ => Bool) (fun _ => PUnit) (fun _ => PUnit) ih (fun _ => ih) (fun _ _ => ih) (fun _ _ => ih) ih (fun _ => ih) (fun _ _ => false) (fun _ _ => false) (fun _ _ _ => ih) (fun _ _ _ => ih) (fun _ _ _ => false) (fun _ _ _ _ => false) (fun _ _ _ _ => false) (fun _ _ => false) (fun _ _ _ => false) (fun _ => ih) PUnit.unit (fun _ _ _ _ => PUnit.unit) PUnit.unit (fun _ _ _ _ => PUnit.unit) c) cs
theorem noKC_ok : ∀ {cs : List XV}, noKC cs = true → cs.flatMap XV.key = []
  | [], _ => rfl
  | c :: r, h => by
    have hr : noKC r = true ∧ c.key = [] := by
      cases c <;> first | exact ⟨h, rfl⟩ | exact absurd h (by intro h; cases h)
    rw [List.flatMap_cons, hr.2, noKC_ok hr.1]; rfl
noncomputable def noKT (cs : List XV) : Bool :=
  @List.rec XV (fun _ => Bool) true (fun c _ ih => @XV.rec (fun _ => Bool) (fun _ => PUnit) (fun _ => PUnit) ih (fun _ => ih) (fun _ _ => ih) (fun _ _ => ih) ih (fun _ => ih) (fun cs _ => an (noKC cs) ih) (fun _ _ => false) (fun _ _ _ => ih) (fun _ _ _ => ih) (fun _ _ _ => false) (fun _ _ _ _ => false) (fun _ _ _ _ => false) (fun _ _ => false) (fun _ _ _ => false) (fun _ => ih) PUnit.unit (fun _ _ _ _ => PUnit.unit) PUnit.unit (fun _ _ _ _ => PUnit.unit) c) cs
theorem noKT_ok : ∀ {cs : List XV}, noKT cs = true → cs.flatMap XV.keysA = []
  | [], _ => rfl
  | c :: r, h => by
    have hr : noKT r = true ∧ c.keysA = [] := by
      cases c with
      | agg cs =>
        have h' : an (noKC cs) (noKT r) = true := h
        rw [an_eq, Bool.and_eq_true] at h'
        exact ⟨h'.2, noKC_ok h'.1⟩
      | _ => first | exact ⟨h, rfl⟩ | exact absurd h (by intro h; cases h)
    rw [List.flatMap_cons, hr.2, noKT_ok hr.1]; rfl
noncomputable def noK (x : XV) : Bool :=
  @XV.rec (fun _ => Bool) (fun _ => PUnit) (fun _ => PUnit) true (fun _ => true) (fun _ _ => true) (fun _ _ => true) true (fun _ => true) (fun cs _ => noKC cs) (fun cs _ => noKT cs) (fun _ _ _ => true) (fun _ _ _ => true) (fun _ _ _ => false) (fun _ _ _ _ => false) (fun _ _ _ _ => false) (fun _ _ => false) (fun _ _ _ => false) (fun _ => true) PUnit.unit (fun _ _ _ _ => PUnit.unit) PUnit.unit (fun _ _ _ _ => PUnit.unit) x
theorem noK_ok {x : XV} (h : noK x = true) : x.keys = [] := by
  cases x with
  | agg cs => exact noKC_ok h
  | tup cs => exact noKT_ok h
  | _ => first | rfl | exact absurd h (by intro h; cases h)
end
end Go.Hf
end
section
namespace Go.Hf
section
variable [Tok]
abbrev KX := XV → HS → Ans
noncomputable def clsG (k : Nat) : Nat := @Bool.rec (fun _ => Nat) 4098 4096 (Nat.ble (Nat.succ (Nat.mod k 4096)) 2048)
noncomputable def clsX (b k : Nat) : Nat := @Bool.rec (fun _ => Nat) (clsG k) (@Bool.rec (fun _ => Nat) (clsG k) (Nat.sub k b) (Nat.ble (Nat.succ k) (Nat.add b 4096))) (Nat.ble b k)
theorem clsG_eq (k : Nat) : clsG k = if k % 4096 < 2048 then 4096 else 4098 := by
  unfold clsG
  cases h : Nat.ble (Nat.succ (Nat.mod k 4096)) 2048 with
  | true =>
    have : k % 4096 < 2048 := Nat.le_of_ble_eq_true h
    rw [if_pos this]
  | false =>
    have : ¬ k % 4096 < 2048 := fun hh => by
      have := Nat.ble_eq_true_of_le (show Nat.succ (Nat.mod k 4096) ≤ 2048 from hh)
      rw [h] at this; cases this
    rw [if_neg this]
theorem clsX_eq (b k : Nat) : clsX b k = cls b k := by
  unfold clsX cls
  rw [clsG_eq]
  cases h1 : Nat.ble b k with
  | false =>
    have : ¬ b ≤ k := by
      intro hh
      have := Nat.ble_eq_true_of_le hh
      rw [h1] at this; cases this
    rw [if_neg (c := b ≤ k ∧ _) (fun hh => this hh.1)]
  | true =>
    have hb := Nat.le_of_ble_eq_true h1
    cases h2 : Nat.ble (Nat.succ k) (Nat.add b 4096) with
    | true =>
      have h3 : k < b + 4096 := Nat.le_of_ble_eq_true h2
      rw [if_pos (c := b ≤ k ∧ _) ⟨hb, h3⟩]; rfl
    | false =>
      have h3 : ¬ k < b + 4096 := by
        intro hh
        have := Nat.ble_eq_true_of_le (show Nat.succ k ≤ Nat.add b 4096 from hh)
        rw [h2] at this; cases this
      rw [if_neg (c := b ≤ k ∧ _) (fun hh => h3 hh.2)]
noncomputable def memF (l : List Nat) (x : Nat) : Bool := @List.rec Nat (fun _ => Bool) false (fun y _ ih => @Bool.rec (fun _ => Bool) ih true (Nat.beq x y)) l
theorem memF_ok : ∀ {l : List Nat} {x : Nat}, memF l x = true → x ∈ l
  | y :: r, x, h => by
    have h' : @Bool.rec (fun _ => Bool) (memF r x) true (Nat.beq x y) = true := h
    cases hb : Nat.beq x y with
    | true => rw [Nat.eq_of_beq_eq_true hb]; exact List.mem_cons_self
    | false => rw [hb] at h'; exact List.mem_cons_of_mem _ (memF_ok h')
noncomputable def trn (b : Nat) (wk : Option (List Nat)) (us : List (Nat × XObj)) : Bool :=
  @Option.rec (List Nat) (fun _ => Bool) true (fun l => @List.rec (Nat × XObj) (fun _ => Bool) true (fun u _ ih => an (memF l (clsX b u.1)) ih) us) wk
theorem trn_ok {b : Nat} {draw : Bool} {o : POper} {us : List (Nat × XObj)} (h : trn b (@Bool.rec (fun _ => Option (List Nat)) none (some o.wk) draw) us = true) : turnedOk b draw o (us.map decU) := by
  intro hd u hu
  subst hd
  obtain ⟨q, hq, rfl⟩ := List.mem_map.1 hu
  have key : ∀ (us : List (Nat × XObj)), @List.rec (Nat × XObj) (fun _ => Bool) true (fun u _ ih => an (memF o.wk (clsX b u.1)) ih) us = true → ∀ q ∈ us, cls b q.1 ∈ o.wk := by
    intro us
    induction us with
    | nil => intro _ q hq; cases hq
    | cons u r ih =>
      intro h q hq
      have h' : an (memF o.wk (clsX b u.1)) (@List.rec (Nat × XObj) (fun _ => Bool) true (fun u _ ih => an (memF o.wk (clsX b u.1)) ih) r) = true := h
      rw [an_eq, Bool.and_eq_true] at h'
      rcases List.mem_cons.1 hq with rfl | hq
      · have := memF_ok h'.1
        rw [clsX_eq] at this; exact this
      · exact ih h'.2 q hq
  exact key us h q hq
theorem trn_nil (b : Nat) (wk : Option (List Nat)) : trn b wk [] = true := by cases wk <;> rfl
noncomputable def kUpd (b : Nat) (us : List (Nat × XObj)) (h : HS) (k : HS → Ans) : Ans :=
  @List.rec (Nat × XObj) (fun _ => HS → Ans) (fun h => k h) (fun u _ ih h => bo (Nat.ble (Nat.succ u.1) h.ub) (ih (h.upd1 b u.1 (.x u.2))) .no) us h
theorem kUpd_ne {b : Nat} : ∀ {us : List (Nat × XObj)} {h : HS} {k : HS → Ans}, kUpd b us h k ≠ .no → ∃ h', Upd b us h h' ∧ kUpd b us h k = k h'
  | [], h, k, _ => ⟨h, ⟨NX.refl, rfl, rfl⟩, rfl⟩
  | u :: r, h, k, hn => by
    change bo (Nat.ble (Nat.succ u.1) h.ub) (kUpd b r (h.upd1 b u.1 (.x u.2)) k) .no ≠ .no at hn
    obtain ⟨h1, e⟩ := bo_ne hn
    rw [e] at hn
    obtain ⟨h', ⟨n1, n2, n3⟩, e2⟩ := kUpd_ne hn
    have hk : u.1 < h.ub := Nat.le_of_ble_eq_true h1
    refine ⟨h', ⟨(HS.upd1_nx hk).trans n1, ?_, n3.trans HS.upd1_ub⟩, ?_⟩
    · rw [n2, HS.upd1_dob hk]; rfl
    · show bo (Nat.ble (Nat.succ u.1) h.ub) (kUpd b r (h.upd1 b u.1 (.x u.2)) k) .no = _
      rw [e, e2]
def SelU (b : Nat) (wk : Option (List Nat)) (a : Ans) (x : UX) (h : HS) (k : KX) : Prop :=
  a ≠ .no → ∃ v us h', x = some (v, us) ∧ trn b wk us = true ∧ Upd b us h h' ∧ a = k v h'
theorem Sel.u {b : Nat} {wk : Option (List Nat)} {a : Ans} {x : Option XV} {h : HS} {k : KX} (s : Sel a x fun v => k v h) : SelU b wk a (o1 x) h k := by
  intro hn
  obtain ⟨v, h1, h2⟩ := s hn
  exact ⟨v, [], h, by rw [h1]; rfl, trn_nil b wk, ⟨NX.refl, rfl, rfl⟩, h2⟩
noncomputable def kU1 (b : Nat) (wk : Option (List Nat)) (q : Nat) (o : SObj) (h : HS) (k : HS → Ans) : Ans :=
  bo (trn b wk [(q, o.o)]) (bo (Nat.ble (Nat.succ q) h.ub) (k (h.upd1 b q o)) .no) .no
theorem kU1_ne {b : Nat} {wk : Option (List Nat)} {q : Nat} {o : SObj} {h : HS} {k : HS → Ans} (hn : kU1 b wk q o h k ≠ .no) : ∃ h', trn b wk [(q, o.o)] = true ∧ Upd b [(q, o.o)] h h' ∧ kU1 b wk q o h k = k h' := by
  unfold kU1 at hn ⊢
  obtain ⟨h1, e⟩ := bo_ne hn
  rw [e] at hn ⊢
  obtain ⟨h2, e⟩ := bo_ne hn
  have hk : q < h.ub := Nat.le_of_ble_eq_true h2
  exact ⟨h.upd1 b q o, h1, ⟨HS.upd1_nx hk, HS.upd1_dob hk, HS.upd1_ub⟩, e⟩
noncomputable def kUs (b : Nat) (wk : Option (List Nat)) (us : List (Nat × XObj)) (h : HS) (k : HS → Ans) : Ans := bo (trn b wk us) (kUpd b us h k) .no
theorem kUs_ne {b : Nat} {wk : Option (List Nat)} {us : List (Nat × XObj)} {h : HS} {k : HS → Ans} (hn : kUs b wk us h k ≠ .no) : ∃ h', trn b wk us = true ∧ Upd b us h h' ∧ kUs b wk us h k = k h' := by
  unfold kUs at hn ⊢
  obtain ⟨h1, e⟩ := bo_ne hn
  rw [e] at hn ⊢
  obtain ⟨h', h2, e2⟩ := kUpd_ne hn
  exact ⟨h', h1, h2, e2⟩
noncomputable def ku (b : Nat) (wk : Option (List Nat)) (x : UX) (h : HS) (k : KX) : Ans :=
  @Option.rec (XV × List (Nat × XObj)) (fun _ => Ans) .no (fun p => kUs b wk p.2 h fun h' => k p.1 h') x
theorem ku_sel (b : Nat) (wk : Option (List Nat)) (x : UX) (h : HS) (k : KX) : SelU b wk (ku b wk x h k) x h k := by
  intro hn
  cases x with
  | none => exact absurd rfl hn
  | some p =>
    obtain ⟨v, us⟩ := p
    change kUs b wk us h (fun h' => k v h') ≠ .no at hn
    obtain ⟨h', h1, h2, h3⟩ := kUs_ne hn
    exact ⟨v, us, h', rfl, h1, h2, h3⟩
noncomputable def stF (o : XObj) : Nat := @XObj.rec (fun _ => Nat) (fun s => s) (fun s _ => s) (fun s _ _ _ _ => s) (fun s _ => s) o
theorem stF_eq (o : XObj) : stF o = o.stamp := by cases o <;> rfl
noncomputable def kAlloc (t b d : Nat) (wk : Option (List Nat)) (cs : List XV) (h : HS) (k : KX) : Ans :=
  frc (Nat.add b d) fun q => frc (stT (stF (h.ob q)) t) fun s => kU1 b wk q (.x (.box s cs)) h fun h' => k (.bptr q s 0) h'
theorem kAlloc_sel (t b d : Nat) (wk : Option (List Nat)) (cs : List XV) (h : HS) (k : KX) :
    SelU b wk (kAlloc t b d wk cs h k) (some (.bptr (Nat.add b d) (stT (h.ob (Nat.add b d)).stamp t) 0, [(Nat.add b d, .box (stT (h.ob (Nat.add b d)).stamp t) cs)])) h k := by
  intro hn
  unfold kAlloc at hn ⊢
  rw [frc_eq, frc_eq, stF_eq] at hn ⊢
  obtain ⟨h', h1, h2, h3⟩ := kU1_ne hn
  exact ⟨_, _, h', rfl, h1, h2, h3⟩
noncomputable def kBox (t b d : Nat) (wk : Option (List Nat)) (x : XV) (h : HS) (k : KX) : Ans := kCells x fun cs => spL cs fun cs => kAlloc t b d wk cs h k
theorem kBox_sel (t b d : Nat) (wk : Option (List Nat)) (x : XV) (h : HS) (k : KX) :
    SelU b wk (kBox t b d wk x h k) (match x.cells with | some cs => some (.bptr (Nat.add b d) (stT (h.ob (Nat.add b d)).stamp t) 0, [(Nat.add b d, .box (stT (h.ob (Nat.add b d)).stamp t) cs)]) | none => none) h k := by
  intro hn
  unfold kBox at hn ⊢
  obtain ⟨cs, h1, e⟩ := kCells_ne hn
  rw [e, spL_eq] at hn ⊢
  rw [h1]
  exact kAlloc_sel t b d wk cs h k hn
noncomputable def kStore (b : Nat) (wk : Option (List Nat)) (n : Nat) (a v : XV) (h : HS) (k : KX) : Ans :=
  onP a (fun _ _ => .no)
    (fun q s off => onBox (h.ob q) fun s' cs => bo (Nat.beq s s') (kCells v fun new => bo (Nat.beq (lenL new) n) (bo (Nat.ble (Nat.add off n) (lenL cs)) (spL (putL off cs new) fun cs' => kU1 b wk q (.x (.box s cs')) h fun h' => k .undef h') .no) .no) .no)
    (fun _ _ _ _ => ku b wk (uStore h.ob n a v) h k)
theorem kStore_sel (b : Nat) (wk : Option (List Nat)) (n : Nat) (a v : XV) (h : HS) (k : KX) : SelU b wk (kStore b wk n a v h k) (uStore h.ob n a v) h k := by
  intro hn
  unfold kStore at hn ⊢
  rcases onP_ne hn with ⟨cs, off, rfl, e⟩ | ⟨q, s, off, rfl, e⟩ | ⟨q, s, i, off, rfl, e⟩
  · rw [e] at hn; exact absurd rfl hn
  · rw [e] at hn ⊢
    obtain ⟨s', cs, h0, e⟩ := onBox_ne hn
    rw [e] at hn ⊢
    obtain ⟨h1, e⟩ := bo_ne hn
    rw [e] at hn ⊢
    obtain ⟨new, h2, e⟩ := kCells_ne hn
    rw [e] at hn ⊢
    obtain ⟨h3, e⟩ := bo_ne hn
    rw [e] at hn ⊢
    obtain ⟨h4, e⟩ := bo_ne hn
    rw [e, spL_eq] at hn ⊢
    obtain ⟨h', h5, h6, e⟩ := kU1_ne hn
    rw [lenL_eq] at h3 h4
    refine ⟨.undef, [(q, .box s (putL off cs new))], h', ?_, h5, h6, e⟩
    simp only [uStore, h0, h1, h2, h3, h4, Bool.and_self, cond_true, putCellsX, putL_eq]
  · rw [e] at hn ⊢
    exact ku_sel _ _ _ _ _ hn
noncomputable def kPart (off n : Nat) (x : XV) (cs : List XV) (f : List XV → Ans) : Ans :=
  kCells x fun new => bo (Nat.beq (lenL new) n) (bo (Nat.ble (Nat.add off n) (lenL cs)) (f (putL off cs new)) .no) .no
noncomputable def kFill (f : List XV → Ans) : List XV → List (Nat × Nat × XV) → Ans
  | cs, [] => (fun (_ : Nat) => f cs) g30
  | cs, (off, n, x) :: r => kPart off n x cs fun cs => kFill f cs r
theorem kFill_ne {f : List XV → Ans} : ∀ {ps : List (Nat × Nat × XV)} {cs : List XV}, kFill f cs ps ≠ .no → ∃ cs', fillPartsX cs ps = some cs' ∧ kFill f cs ps = f cs'
  | [], cs, _ => ⟨cs, rfl, rfl⟩
  | (off, n, x) :: r, cs, hn => by
    simp only [kFill, kPart] at hn ⊢
    obtain ⟨new, h1, e⟩ := kCells_ne hn
    rw [e] at hn ⊢
    obtain ⟨h2, e⟩ := bo_ne hn
    rw [e] at hn ⊢
    obtain ⟨h3, e⟩ := bo_ne hn
    rw [e] at hn ⊢
    obtain ⟨cs', h4, e⟩ := kFill_ne hn
    rw [lenL_eq] at h2 h3
    refine ⟨cs', ?_, e⟩
    simp only [fillPartsX, h1, h2, h3, Bool.and_self, cond_true, putCellsX, ← putL_eq, h4]
noncomputable def kAgg (cs : List XV) (k : XV → Ans) : Ans := spL cs fun cs => k (.agg cs)
noncomputable def kBuild (z : List XV) (ps : List (Nat × Nat × XV)) (k : XV → Ans) : Ans := kFill (fun cs => kAgg cs k) z ps
theorem kBuild_sel (z : List XV) (ps : List (Nat × Nat × XV)) (k : XV → Ans) : Sel (kBuild z ps k) (match fillPartsX z ps with | some cs => some (.agg cs) | none => none) k := by
  intro hn
  unfold kBuild at hn ⊢
  obtain ⟨cs, h1, e⟩ := kFill_ne hn
  rw [e, kAgg, spL_eq, h1]
  exact ⟨_, rfl, rfl⟩
noncomputable def kElt (ob : Nat → XObj) (sz i : Nat) (x : XV) (es : List (List XV)) (f : List (List XV) → List (Nat × XObj) → Ans) : Ans :=
  kHand ob x fun q sh => kCells q fun new => bo (Nat.beq (lenL new) sz) (bo (Nat.blt i (lenL es)) (f (setL es i new) sh) .no) .no
noncomputable def kElts (ob : Nat → XObj) (sz : Nat) (f : List (List XV) → List (Nat × XObj) → Ans) : List (List XV) → List (Nat × XV) → Ans
  | es, [] => (fun (_ : Nat) => f es []) g30
  | es, (i, x) :: r => kElt ob sz i x es fun es sh => kElts ob sz (fun es us => f es (apL sh us)) es r
theorem kElts_ne {ob : Nat → XObj} {sz : Nat} : ∀ {ps : List (Nat × XV)} {f : List (List XV) → List (Nat × XObj) → Ans} {es : List (List XV)}, kElts ob sz f es ps ≠ .no → ∃ es', fillElemsX ob sz es ps = some es' ∧ kElts ob sz f es ps = f es' (ps.flatMap fun p => shareValX ob p.2)
  | [], f, es, _ => ⟨es, rfl, rfl⟩
  | (i, x) :: r, f, es, hn => by
    simp only [kElts, kElt] at hn ⊢
    obtain ⟨q, h1, e⟩ := kHand_ne hn
    rw [e] at hn ⊢
    obtain ⟨new, h2, e⟩ := kCells_ne hn
    rw [e] at hn ⊢
    obtain ⟨h3, e⟩ := bo_ne hn
    rw [e] at hn ⊢
    obtain ⟨h4, e⟩ := bo_ne hn
    rw [e] at hn ⊢
    obtain ⟨es', h5, e⟩ := kElts_ne hn
    rw [lenL_eq] at h3 h4
    refine ⟨es', ?_, by rw [e, apL_eq]; rfl⟩
    simp only [fillElemsX, h1, h2, h3, h4, Bool.and_self, cond_true, ← setL_eq, h5]
noncomputable def kSl (b d : Nat) (wk : Option (List Nat)) (e sz len : Nat) (raw : Bool) (es : List (List XV)) (us : List (Nat × XObj)) (h : HS) (k : KX) : Ans :=
  frc (Nat.add b d) fun q => frc (Nat.add (stF (h.ob q)) 1) fun s => spL es fun es => kUs b wk (apL us [(q, .bld s e sz es raw)]) h fun h' => k (.bld q s 0 len) h'
noncomputable def kBslice (b d : Nat) (wk : Option (List Nat)) (e sz : Nat) (z : List XV) (len : Nat) (ps : List (Nat × XV)) (raw : Bool) (h : HS) (k : KX) : Ans :=
  kElts h.ob sz (fun es us => kSl b d wk e sz len raw es us h k) (repL len z) ps
def uBslice (ob : Nat → XObj) (d e sz : Nat) (z : List XV) (len : Nat) (ps : List (Nat × XV)) (raw : Bool) : UX :=
  match fillElemsX ob sz (List.replicate len z) ps with
    | some es => some (.bld d (Nat.add (ob d).stamp 1) 0 len, ps.flatMap (fun p => shareValX ob p.2) ++ [(d, .bld (Nat.add (ob d).stamp 1) e sz es raw)])
    | none => none
theorem kBslice_sel (b d : Nat) (wk : Option (List Nat)) (e sz : Nat) (z : List XV) (len : Nat) (ps : List (Nat × XV)) (raw : Bool) (h : HS) (k : KX) :
    SelU b wk (kBslice b d wk e sz z len ps raw h k) (uBslice h.ob (Nat.add b d) e sz z len ps raw) h k := by
  intro hn
  unfold kBslice at hn ⊢
  obtain ⟨es, h1, e1⟩ := kElts_ne hn
  rw [e1, kSl, frc_eq, frc_eq, spL_eq, apL_eq, stF_eq] at hn ⊢
  obtain ⟨h', h2, h3, e2⟩ := kUs_ne hn
  rw [repL_eq] at h1
  exact ⟨_, _, h', by simp only [uBslice, h1], h2, h3, e2⟩
noncomputable def kElems (ob : Nat → XObj) (sz : Nat) (x : XV) (f : List (List XV) → Ans) : Ans :=
  onL x (f []) (fun sz' es => bo (Nat.beq sz' sz) (f es) .no)
    (fun q s off len => onBld (ob q) fun s' _ sz' es _ => bo (Nat.beq s s') (bo (Nat.beq sz' sz) (bo (Nat.ble (Nat.add off len) (lenL es)) (f (partF es off len)) .no) .no) .no)
theorem kElems_ne {ob : Nat → XObj} {sz : Nat} {x : XV} {f : List (List XV) → Ans} (hn : kElems ob sz x f ≠ .no) : ∃ es, elemsX ob sz x = some es ∧ kElems ob sz x f = f es := by
  unfold kElems at hn ⊢
  rcases onL_ne hn with ⟨rfl, e⟩ | ⟨sz', es, rfl, e⟩ | ⟨q, s, off, len, rfl, e⟩
  · exact ⟨[], rfl, e⟩
  · rw [e] at hn ⊢
    obtain ⟨h1, e⟩ := bo_ne hn
    exact ⟨es, by simp only [elemsX, h1, cond_true], e⟩
  · rw [e] at hn ⊢
    obtain ⟨s', _, sz', es, _, h0, e⟩ := onBld_ne hn
    rw [e] at hn ⊢
    obtain ⟨h1, e⟩ := bo_ne hn
    rw [e] at hn ⊢
    obtain ⟨h2, e⟩ := bo_ne hn
    rw [e] at hn ⊢
    obtain ⟨h3, e⟩ := bo_ne hn
    rw [lenL_eq] at h3
    exact ⟨part es off len, by simp only [elemsX, h0, h1, h2, h3, Bool.and_self, cond_true], by rw [e, partF_eq]⟩
noncomputable def onRb (o : SObj) (f : Nat → Nat → Nat → List (List XV) → Bool → Ans) : Ans :=
  @SObj.rec (fun _ => Ans) (fun o => onBld o fun s e sz es r => f s e sz (revL es) r) f o
theorem onRb_ne {o : SObj} {f : Nat → Nat → Nat → List (List XV) → Bool → Ans} (h : onRb o f ≠ .no) : ∃ s e sz rs r, o.o = .bld s e sz rs.reverse r ∧ onRb o f = f s e sz rs r := by
  cases o with
  | x o =>
    change onBld o (fun s e sz es r => f s e sz (revL es) r) ≠ .no at h
    obtain ⟨s, e, sz, es, r, h1, h2⟩ := onBld_ne h
    refine ⟨s, e, sz, revL es, r, ?_, h2⟩
    rw [revL_eq, List.reverse_reverse]; exact h1
  | rb s e sz rs r => exact ⟨s, e, sz, rs, r, by show XObj.bld s e sz (revL rs) r = _; rw [revL_eq], rfl⟩
noncomputable def revK (ys : List (List XV)) : List (List XV) → (List (List XV) → Ans) → Ans :=
  @List.rec (List XV) (fun _ => List (List XV) → (List (List XV) → Ans) → Ans) (fun rs f => f rs) (fun y _ ih rs f => ih (y :: rs) f) ys
theorem revK_eq : ∀ (ys rs : List (List XV)) (f : List (List XV) → Ans), revK ys rs f = f (ys.reverse ++ rs)
  | [], _, _ => rfl
  | y :: r, rs, f => by show revK r (y :: rs) f = _; rw [revK_eq r]; simp
noncomputable def kAdd2 (b : Nat) (wk : Option (List Nat)) (bytes q st e sz : Nat) (rs : List (List XV)) (n : Nat) (ys : List (List XV)) (r : Bool) (len : Nat) (h : HS) (k : KX) : Ans :=
  frc (Nat.add len n) fun m => bo (Nat.ble (Nat.mul m bytes) 1099511627776) (bo (Nat.ble m 1099511627776) (frc (Nat.add st 1) fun st => revK ys rs fun rs => kU1 b wk q (.rb st e sz rs r) h fun h' => k (.bld q st 0 m) h') .no) .no
noncomputable def kAppend (b d : Nat) (wk : Option (List Nat)) (e sz bytes : Nat) (s x : XV) (raw : Bool) (h : HS) (k : KX) : Ans :=
  kElems h.ob sz x fun ys => spL ys fun ys => frc (lenL ys) fun n =>
    onL s
      (bo (Nat.ble (Nat.mul n bytes) 1099511627776) (bo (Nat.ble n 1099511627776)
        (@List.rec (List XV) (fun _ => Ans) (kUs b wk [] h fun h' => k .nl h') (fun _ _ _ => frc (Nat.add b d) fun q => frc (Nat.add (stF (h.ob q)) 1) fun st => revK ys [] fun rs => kU1 b wk q (.rb st e sz rs raw) h fun h' => k (.bld q st 0 n) h') ys) .no) .no)
      (fun _ _ => .no)
      (fun q st off len => bo (Nat.beq off 0) (onRb (h.sob q) fun st' e' sz' rs r => bo (Nat.beq st st') (bo (Nat.beq e' e) (bo (Nat.beq sz' sz)
        (@Bool.rec (fun _ => Ans) (bo r (bo (Nat.ble len (lenL rs)) (kAdd2 b wk bytes q st e sz (dropL (Nat.sub (lenL rs) len) rs) n ys r len h k) .no) .no) (kAdd2 b wk bytes q st e sz rs n ys r len h k) (Nat.beq len (lenL rs))) .no) .no) .no) .no)
theorem kAppend_sel (b d : Nat) (wk : Option (List Nat)) (e sz bytes : Nat) (s x : XV) (raw : Bool) (h : HS) (k : KX) :
    SelU b wk (kAppend b d wk e sz bytes s x raw h k) (uAppend h.ob (Nat.add b d) e sz bytes s x raw) h k := by
  intro hn
  unfold kAppend at hn ⊢
  obtain ⟨ys, h0, e0⟩ := kElems_ne hn
  rw [e0, spL_eq, frc_eq, lenL_eq] at hn ⊢
  rcases onL_ne hn with ⟨rfl, e1⟩ | ⟨sz', es, rfl, e1⟩ | ⟨q, st, off, len, rfl, e1⟩
  · rw [e1] at hn ⊢
    obtain ⟨h1, e2⟩ := bo_ne hn
    rw [e2] at hn ⊢
    obtain ⟨h2, e2⟩ := bo_ne hn
    rw [e2] at hn ⊢
    cases ys with
    | nil =>
      change kUs b wk [] h (fun h' => k .nl h') ≠ .no at hn
      obtain ⟨h', h3, h4, e3⟩ := kUs_ne hn
      exact ⟨.nl, [], h', by simp only [uAppend, h0, h1, h2, Bool.and_self, cond_true], h3, h4, e3⟩
    | cons y r =>
      change (frc (Nat.add b d) fun q => frc (Nat.add (stF (h.ob q)) 1) fun st => revK (y :: r) [] fun rs => kU1 b wk q (.rb st e sz rs raw) h fun h' => k (.bld q st 0 (y :: r).length) h') ≠ .no at hn
      show ∃ v us h', _ ∧ _ ∧ _ ∧ (frc (Nat.add b d) fun q => frc (Nat.add (stF (h.ob q)) 1) fun st => revK (y :: r) [] fun rs => kU1 b wk q (.rb st e sz rs raw) h fun h' => k (.bld q st 0 (y :: r).length) h') = _
      rw [frc_eq, frc_eq, stF_eq, revK_eq] at hn ⊢
      obtain ⟨h', h3, h4, e3⟩ := kU1_ne hn
      have eo : (SObj.rb (Nat.add (h.ob (Nat.add b d)).stamp 1) e sz ((y :: r).reverse ++ []) raw).o = .bld (Nat.add (h.ob (Nat.add b d)).stamp 1) e sz (y :: r) raw := by
        show XObj.bld _ e sz (revL _) raw = _
        rw [revL_eq, List.append_nil, List.reverse_reverse]
      rw [eo] at h3 h4
      exact ⟨_, _, h', by simp only [uAppend, h0, h1, h2, Bool.and_self, cond_true], h3, h4, e3⟩
  · rw [e1] at hn; exact absurd rfl hn
  · rw [e1] at hn ⊢
    obtain ⟨h1, e2⟩ := bo_ne hn
    have h1' := Nat.eq_of_beq_eq_true h1
    subst h1'
    rw [e2] at hn ⊢
    obtain ⟨st', e', sz', rs, r, h2, e2⟩ := onRb_ne hn
    rw [HS.sob_o] at h2
    rw [e2] at hn ⊢
    obtain ⟨h3, e2⟩ := bo_ne hn
    rw [e2] at hn ⊢
    obtain ⟨h4, e2⟩ := bo_ne hn
    rw [e2] at hn ⊢
    obtain ⟨h5, e2⟩ := bo_ne hn
    rw [e2] at hn ⊢
    rw [lenL_eq] at hn ⊢
    have fin : ∀ {rs' : List (List XV)}, rs'.reverse = rs.reverse.take len → (Nat.beq len rs.reverse.length || (r && Nat.ble len rs.reverse.length)) = true → kAdd2 b wk bytes q st e sz rs' ys.length ys r len h k ≠ .no →
        ∃ v us h', uAppend h.ob (Nat.add b d) e sz bytes (.bld q st 0 len) x raw = some (v, us) ∧ trn b wk us = true ∧ Upd b us h h' ∧ kAdd2 b wk bytes q st e sz rs' ys.length ys r len h k = k v h' := by
      intro rs' he hc hn
      unfold kAdd2 at hn ⊢
      rw [frc_eq] at hn ⊢
      obtain ⟨h6, e3⟩ := bo_ne hn
      rw [e3] at hn ⊢
      obtain ⟨h7, e3⟩ := bo_ne hn
      rw [e3, frc_eq, revK_eq] at hn ⊢
      obtain ⟨h', h8, h9, e4⟩ := kU1_ne hn
      have eo : (SObj.rb (Nat.add st 1) e sz (ys.reverse ++ rs') r).o = .bld (Nat.add st 1) e sz (rs.reverse.take len ++ ys) r := by
        show XObj.bld _ e sz (revL _) r = _
        rw [revL_eq, List.reverse_append, List.reverse_reverse, he]
      rw [eo] at h8 h9
      exact ⟨_, _, h', by simp only [uAppend, h0, h2, h3, h4, h5, hc, h6, h7, Bool.and_self, cond_true], h8, h9, e4⟩
    cases hb : Nat.beq len rs.length with
    | true =>
      rw [hb] at hn
      have hb' := Nat.eq_of_beq_eq_true hb
      refine fin ?_ (by rw [List.length_reverse, hb]; rfl) hn
      rw [hb', ← List.length_reverse, List.take_length]
    | false =>
      rw [hb] at hn
      change bo r (bo (Nat.ble len rs.length) (kAdd2 b wk bytes q st e sz (dropL (Nat.sub rs.length len) rs) ys.length ys r len h k) .no) .no ≠ .no at hn
      show ∃ v us h', _ ∧ _ ∧ _ ∧ bo r (bo (Nat.ble len rs.length) (kAdd2 b wk bytes q st e sz (dropL (Nat.sub rs.length len) rs) ys.length ys r len h k) .no) .no = _
      obtain ⟨h6, e3⟩ := bo_ne hn
      rw [e3] at hn ⊢
      obtain ⟨h7, e3⟩ := bo_ne hn
      rw [e3] at hn ⊢
      have h7' : len ≤ rs.length := Nat.le_of_ble_eq_true h7
      refine fin ?_ (by rw [List.length_reverse, hb, h6, h7]; rfl) hn
      rw [dropL_eq, List.reverse_drop]
      congr 1
      show rs.length - (rs.length - len) = len
      omega
noncomputable def kApps (b d : Nat) (wk : Option (List Nat)) (e bytes : Nat) (s x : XV) (raw : Bool) (h : HS) (k : KX) : Ans :=
  onS x fun l n => kAppend b d wk e 1 bytes s (.lst 1 (strElsF l n)) raw h k
theorem kApps_sel (b d : Nat) (wk : Option (List Nat)) (e bytes : Nat) (s x : XV) (raw : Bool) (h : HS) (k : KX) :
    SelU b wk (kApps b d wk e bytes s x raw h k) (match x with
      | .s l n => uAppend h.ob (Nat.add b d) e 1 bytes s (.lst 1 (strElsF l n)) raw
      | _ => none) h k := by
  intro hn
  unfold kApps at hn ⊢
  obtain ⟨l, n, rfl, e1⟩ := onS_ne hn
  rw [e1] at hn ⊢
  exact kAppend_sel b d wk e 1 bytes s (.lst 1 (strElsF l n)) raw h k hn
end
end Go.Hf
end
section
namespace Go.Hf
section
variable [Tok]
abbrev Fn := Nat → List XV → Nat → SL → Ans
abbrev Env := Nat → XV
noncomputable def updX (env : Env) (i : Nat) (v : XV) : Env := fun j => @Bool.rec (fun _ => XV) (env j) v (Nat.beq j i)
noncomputable def putE (env : Env) (d : Option Nat) (v : XV) : Env := @Option.rec Nat (fun _ => Env) env (fun t => updX env t v) d
def noE : Env := fun _ => .undef
def evK (env : Env) : Operand → XV
  | .tmp t => env t
  | .const v => encK v
  | .func f => .sc (.func (.func f) #[] #[])
  | .global _ => .undef
noncomputable def metC (b : Nat) (rk : List Nat) (cs : List XV) : Bool :=
  @List.rec XV (fun _ => Bool) true (fun c _ ih => @XV.rec (fun _ => Bool) (fun _ => PUnit) (fun _ => PUnit) ih (fun _ => ih) (fun _ _ => ih) (fun _ _ => ih) ih (fun _ => ih) (fun _ _ => false) (fun _ _ => false) (fun _ _ _ => ih) (fun _ _ _ => ih) (fun k _ _ => an (memF rk (clsX b k)) ih) (fun k _ _ _ => an (memF rk (clsX b k)) ih) (fun k _ _ _ => an (memF rk (clsX b k)) ih) (fun k _ => an (memF rk (clsX b k)) ih) (fun _ _ _ => false) (fun _ => ih) PUnit.unit (fun _ _ _ _ => PUnit.unit) PUnit.unit (fun _ _ _ _ => PUnit.unit) c) cs
noncomputable def metV (b : Nat) (rk : List Nat) (x : XV) : Bool :=
  @XV.rec (fun _ => Bool) (fun _ => PUnit) (fun _ => PUnit) true (fun _ => true) (fun _ _ => true) (fun _ _ => true) true (fun _ => true) (fun cs _ => metC b rk cs) (fun _ _ => false) (fun _ _ _ => true) (fun _ _ _ => true) (fun k _ _ => memF rk (clsX b k)) (fun k _ _ _ => memF rk (clsX b k)) (fun k _ _ _ => memF rk (clsX b k)) (fun k _ => memF rk (clsX b k)) (fun _ cs _ => metC b rk cs) (fun _ => true) PUnit.unit (fun _ _ _ _ => PUnit.unit) PUnit.unit (fun _ _ _ _ => PUnit.unit) x
noncomputable def met (b : Nat) (rk : List Nat) (xs : List XV) (a : Ans) : Ans := (fun (_ : Nat) => @List.rec XV (fun _ => Ans) a (fun x _ ih => bo (metV b rk x) ih .no) xs) g30
noncomputable def onF (x : XV) (f : Nat → List XV → Ans) : Ans :=
  @Option.rec (Nat × List XV) (fun _ => Ans) .no (fun p => f p.1 p.2) (match x with
    | .sc (.func (.func f) ⟨[]⟩ ⟨[]⟩) => some (f, [])
    | .clo f caps => some (f, caps)
    | _ => none)
noncomputable def kGot (b : Nat) (us : List (Nat × XObj)) (h : HS) (k : KX) (a : Ans) : Ans :=
  @Ans.rec (fun _ => Ans) .no (fun res ub _ _ => bo (Nat.beq ub 0) (kUpd b us h fun h' => k res h') .no) a
noncomputable def kGo (u : Fn) (b : Nat) (wk : Option (List Nat)) (f : Nat) (ps : List XV) (us : List (Nat × XObj)) (h : HS) (k : KX) : Ans := bo (trn b wk us) (kGot b us h k (u f ps 0 .nil)) .no
noncomputable def kCall (u : Fn) (b : Nat) (wk : Option (List Nat)) (f : Nat) (args : List XV) (h : HS) (k : KX) : Ans :=
  kPrep h.ob (fun ps us => kGo u b wk f ps us h k) [] args
noncomputable def onFS (x : XV) (f : Nat → Ans) : Ans :=
  @Option.rec Nat (fun _ => Ans) .no f (match x with
    | .sc (.func (.func f) ⟨[]⟩ ⟨[]⟩) => some f
    | _ => none)
noncomputable def kCallV (u : Fn) (b : Nat) (wk : Option (List Nat)) (f : XV) (args : List XV) (h : HS) (k : KX) : Ans :=
  onFS f fun f => kCall u b wk f args h k
noncomputable def fltL (b : Nat) (l : List Nat) : List Nat := @List.rec Nat (fun _ => List Nat) [] (fun j _ ih => @Bool.rec (fun _ => List Nat) ih (j :: ih) (Nat.ble (Nat.succ j) b)) l
noncomputable def kGotH (b ub : Nat) (d : List Nat) (k : KX) (a : Ans) : Ans :=
  @Ans.rec (fun _ => Ans) .no (fun res ub' segs' dirty => bo (Nat.ble ub ub') (k res (.mk ub' segs' (apL (fltL b dirty) d))) .no) a
noncomputable def kGoH (u : Fn) (b : Nat) (f : Nat) (ps : List XV) (us : List (Nat × XObj)) (h : HS) (k : KX) : Ans :=
  kUpd b us h fun h1 => @HS.rec (fun _ => Ans) (fun ub s d => kGotH b ub d k (u f ps ub s)) h1
noncomputable def kHCall (u : Fn) (b : Nat) (f : Nat) (caps : List XV) (args : List XV) (frz : List Bool) (h : HS) (k : KX) : Ans :=
  kPrep h.ob (fun ps us => kGoH u b f (apL ps caps) us h k) frz args
noncomputable def kHCallV (u : Fn) (b : Nat) (f : XV) (args : List XV) (frz : List Bool) (h : HS) (k : KX) : Ans :=
  onF f fun f caps => kHCall u b f caps args frz h k
noncomputable def trK (b : Nat) (wk : List Nat) (l : List Nat) : Bool := @List.rec Nat (fun _ => Bool) true (fun j _ ih => an (memF wk (clsX b j)) ih) l
noncomputable def newF (wk : List Nat) (ub ub' : Nat) : Bool := @Bool.rec (fun _ => Bool) (an (memF wk 4096) (memF wk 4098)) true (Nat.beq ub ub')
noncomputable def kGotHD (b : Nat) (wk : List Nat) (ub : Nat) (d : List Nat) (k : KX) (a : Ans) : Ans :=
  @Ans.rec (fun _ => Ans) .no (fun res ub' segs' dirty => bo (Nat.ble ub ub') (bo (trK b wk dirty) (bo (newF wk ub ub') (k res (.mk ub' segs' (apL (fltL b dirty) d))) .no) .no) .no) a
noncomputable def kGoHD (u : Fn) (b : Nat) (wk : List Nat) (f : Nat) (ps : List XV) (us : List (Nat × XObj)) (h : HS) (k : KX) : Ans :=
  bo (trn b (some wk) us) (kUpd b us h fun h1 => @HS.rec (fun _ => Ans) (fun ub s d => kGotHD b wk ub d k (u f ps ub s)) h1) .no
noncomputable def kHCallD (u : Fn) (b : Nat) (wk : List Nat) (f : Nat) (caps : List XV) (args : List XV) (frz : List Bool) (h : HS) (k : KX) : Ans :=
  kPrep h.ob (fun ps us => kGoHD u b wk f (apL ps caps) us h k) frz args
noncomputable def kHCallVD (u : Fn) (b : Nat) (wk : List Nat) (f : XV) (args : List XV) (frz : List Bool) (h : HS) (k : KX) : Ans :=
  onF f fun f caps => kHCallD u b wk f caps args frz h k
noncomputable def grdB (x : XV) (want : Bool) (f g : Ans) : Ans :=
  @XV.rec (fun _ => Ans) (fun _ => PUnit) (fun _ => PUnit) .no (fun c => @Bool.rec (fun _ => Ans) (bo c g f) (bo c f g) want) (fun _ _ => .no) (fun _ _ => .no) .no (fun _ => .no) (fun _ _ => .no)
    (fun l _ => @List.rec XV (fun _ => Ans) g (fun _ _ _ => .no) l) (fun _ _ _ => .no) (fun _ _ _ => .no) (fun _ _ _ => .no) (fun _ _ _ _ => .no) (fun _ _ _ _ => .no) (fun _ _ => .no) (fun _ _ _ => .no) (fun _ => .no) PUnit.unit (fun _ _ _ _ => PUnit.unit) PUnit.unit (fun _ _ _ _ => PUnit.unit) x
theorem grdB_ne {x : XV} {want : Bool} {f g : Ans} (h : grdB x want f g ≠ .no) : (x = .b want ∧ grdB x want f g = f) ∨ ((x = .b (!want) ∨ x = .tup []) ∧ grdB x want f g = g) := by
  cases x with
  | b c => cases c <;> cases want <;> first | exact .inl ⟨rfl, rfl⟩ | exact .inr ⟨.inl rfl, rfl⟩
  | tup l => cases l with
    | nil => exact .inr ⟨.inr rfl, rfl⟩
    | cons _ _ => exact absurd rfl h
  | _ => exact absurd rfl h
noncomputable def denR (b d : Nat) (wk : Option (List Nat)) (ev : Operand → XV) (h : HS) (k : KX) : ROp → Ans
  | .mv x => k (ev x) h
  | .pick c x y => kPick (ev c) (ev x) (ev y) fun v => k v h
  | .alloc t zero => kAlloc t b d wk (zero.map encC) h k
  | .box t x => kBox t b d wk (ev x) h k
  | .build zero ps => kBuild (zero.map encC) (ps.map fun q => (q.1, q.2.1, ev q.2.2)) fun v => k v h
  | .bslice e sz zero len ps raw => kBslice b d wk e sz (zero.map encC) len (ps.map fun q => (q.1, ev q.2)) raw h k
  | .load isAgg n a => kLoad h.ob isAgg n (ev a) fun v => k v h
  | .store n a v => kStore b wk n (ev a) (ev v) h k
  | .nilchk x => kNil (ev x) fun v => k v h
  | .bin op x y => kBin op (ev x) (ev y) fun v => k v h
  | .binb neg x y => kBinb neg (ev x) (ev y) fun v => k v h
  | .eqs neg x y => kEqs neg (ev x) (ev y) fun v => k v h
  | .isnil neg x => kIsnil neg (ev x) fun v => k v h
  | .un op x => kUn op (ev x) fun v => k v h
  | .cint kk x => kv (vCint kk (ev x)) fun v => k v h
  | .b2s x => kv (vB2s h.ob (ev x)) fun v => k v h
  | .mkslice e sz bytes zero l c => ku b wk (uMkslice (Nat.add b d) e sz bytes (h.ob (Nat.add b d)).stamp (zero.map encC) (ev l) (ev c)) h k
  | .sslice x lo hi => kSslice (ev x) (lo.map ev) (hi.map ev) fun v => k v h
  | .slc sz x lo hi => kSlc h.ob sz (ev x) (lo.map ev) (hi.map ev) fun v => k v h
  | .faddr o x => kFaddr o (ev x) fun v => k v h
  | .fld isAgg off n x => kFld isAgg off n (ev x) fun v => k v h
  | .iaddr sz x i => kIaddr h.ob sz (ev x) (ev i) fun v => k v h
  | .sidx x i => kSidx (ev x) (ev i) fun v => k v h
  | .ext x i => kExt (ev x) i fun v => k v h
  | .len isStr x => kLen isStr (ev x) fun v => k v h
  | .append e sz bytes s x raw => kAppend b d wk e sz bytes (ev s) (ev x) raw h k
  | .apps e bytes s x raw => kApps b d wk e bytes (ev s) (ev x) raw h k
  | .mx isMax x y => kv (vMx isMax (ev x) (ev y)) fun v => k v h
  | .aaddr n sz x i => kv (vAaddr n sz (ev x) (ev i)) fun v => k v h
  | .sh op x y => kv (vSh op (ev x) (ev y)) fun v => k v h
  | .bits op x y => kv (vBits op (ev x) (ev y)) fun v => k v h
  | .mkfun f caps => kv (vMkfun f (caps.map ev)) fun v => k v h
  | .mkmap => ku b wk (some (.mref (Nat.add b d) (Nat.add (h.ob (Nat.add b d)).stamp 1), [(Nat.add b d, .map (Nat.add (h.ob (Nat.add b d)).stamp 1) [])])) h k
  | .mput kd m x v => ku b wk (uMput h.ob kd (ev m) (ev x) (ev v)) h k
  | .mget kd ok zero m x => kv (vMget h.ob kd ok zero (ev m) (ev x)) fun v => k v h
  | _ => .no
noncomputable def wkO (draw : Bool) (o : POper) : Option (List Nat) := @Bool.rec (fun _ => Option (List Nat)) none (some o.wk) draw
noncomputable def denW (u : Fn) (b : Nat) (draw : Bool) (o : POper) (ev : Operand → XV) (h : HS) (k : KX) : Ans :=
  match o.r with
  | .call (.func f) args => kCall u b (wkO draw o) f (args.map ev) h k
  | .call f args => kCallV u b (wkO draw o) (ev f) (args.map ev) h k
  | .hcall (.func f) args frz => @Bool.rec (fun _ => Ans) (kHCall u b f [] (args.map ev) frz h k) (@Bool.rec (fun _ => Ans) .no (kHCallD u b o.wk f [] (args.map ev) frz h k) (memF o.rk 4097)) draw
  | .hcall f args frz => @Bool.rec (fun _ => Ans) (kHCallV u b (ev f) (args.map ev) frz h k) (@Bool.rec (fun _ => Ans) .no (kHCallVD u b o.wk (ev f) (args.map ev) frz h k) (memF o.rk 4097)) draw
  | r => denR b (Nat.add o.r.off (o.dst.getD 0)) (wkO draw o) ev h k r
def tmpsO : List Operand → List Operand
  | [] => []
  | .tmp t :: r => .tmp t :: tmpsO r
  | _ :: r => tmpsO r
def metOps : ROp → List Operand
  | .hcall _ _ _ => []
  | r => tmpsO r.lookOpnds
noncomputable def denM (u : Fn) (b : Nat) (draw : Bool) (o : POper) (ev : Operand → XV) (h : HS) (k : KX) : Ans :=
  @Bool.rec (fun _ => Ans) (denW u b draw o ev h k) (met b o.rk ((metOps o.r).map ev) (denW u b draw o ev h k)) (draw && o.r.looks)
def FnT : List Nat → Type
  | [] => HS → Ans
  | _ :: l => XV → FnT l
noncomputable def lamE : (l : List Nat) → (Env → HS → Ans) → Env → FnT l
  | [], f, e => f e
  | s :: l, f, e => fun v => lamE l f (updX e s v)
def appE : (l : List Nat) → FnT l → Env → HS → Ans
  | [], j, _ => (fun (_ : Nat) => j) g30
  | s :: l, j, e => appE l (j (e s)) e
def botE : (l : List Nat) → FnT l
  | [] => fun _ => .no
  | _ :: l => fun _ => botE l
def join {α : Type} (x : α) (f : α → Ans) : Ans := f x
noncomputable def denPl (u : Fn) (b : Nat) (draw : Bool) (os : List POper) : Env → HS → (Env → HS → Ans) → Ans :=
  @List.rec POper (fun _ => Env → HS → (Env → HS → Ans) → Ans) (fun env h k => k env h) (fun o _ rest env h k => denM u b draw o (evK env) h fun v h' => rest (putE env o.dst v) h' k) os
def dsts : List POper → List Nat
  | [] => []
  | o :: r => match o.dst with | some d => d :: dsts r | none => dsts r
noncomputable def missE : List POper → Env → Env
  | [], env => env
  | o :: r, env => missE r (putE env o.dst (.tup []))
def sameG : Option (Nat × Bool) → Option (Nat × Bool) → Bool
  | none, none => true
  | some (t, w), some (t', w') => Nat.beq t t' && (w == w')
  | _, _ => false
def sameN : Option Nat → Nat → Bool
  | some d, t => Nat.beq d t
  | none, _ => false
def under (g : Option (Nat × Bool)) (o : POper) : Bool := sameG o.guard g && match g with | some (t, _) => !sameN o.dst t | none => true
def runs : List POper → List (Option (Nat × Bool) × List POper)
  | [] => []
  | o :: r => match runs r with
    | [] => [(o.guard, [o])]
    | (g, os) :: l => if sameG o.guard g && under g o then (g, o :: os) :: l else (o.guard, [o]) :: (g, os) :: l
theorem runs_flat : ∀ (l : List POper), (runs l).flatMap (·.2) = l
  | [] => rfl
  | o :: r => by
    have ih := runs_flat r
    unfold runs
    cases hr : runs r with
    | nil => rw [hr] at ih; simp at ih; subst ih; rfl
    | cons p l =>
      obtain ⟨g, os⟩ := p
      rw [hr] at ih
      simp only []
      split
      · rw [List.flatMap_cons] at ih ⊢; show o :: os ++ _ = _; rw [List.cons_append, ih]
      · rw [List.flatMap_cons, ih]; rfl
noncomputable def denRun (u : Fn) (b : Nat) (draw : Bool) (g : Option (Nat × Bool)) (os : List POper) (env : Env) (h : HS) (k : Env → HS → Ans) : Ans :=
  @Bool.rec (fun _ => Ans) .no
    (@Option.rec (Nat × Bool) (fun _ => Ans) (denPl u b draw os env h k)
      (fun p => join (lamE (dsts os) k env) fun j => grdB (env p.1) p.2 (denPl u b draw os env h fun env h => appE (dsts os) j env h) (appE (dsts os) j (missE os env) h)) g) (os.all (under g))
noncomputable def denRs (u : Fn) (b : Nat) (draw : Bool) (rs : List (Option (Nat × Bool) × List POper)) : Env → HS → (Env → HS → Ans) → Ans :=
  @List.rec (Option (Nat × Bool) × List POper) (fun _ => Env → HS → (Env → HS → Ans) → Ans) (fun env h k => k env h) (fun p _ rest env h k => denRun u b draw p.1 p.2 env h fun env' h' => rest env' h' k) rs
noncomputable def denOs (u : Fn) (b : Nat) (draw : Bool) (os : List POper) : Env → HS → (Env → HS → Ans) → Ans := denRs u b draw (runs os)
inductive AC where
  | skip
  | region (draw : Bool) (ops : List POper)
  | seq (a b : AC)
  | jn (l : List Nat) (a b : AC)
  | cond (c : Operand) (a b : AC)
  | block (id : Nat) (b : AC)
  | loop (l : List Nat) (b : AC)
  | exit (id : Nat)
  | ret
def AC.pc : AC → PC
  | .skip => .skip
  | .region draw ops => .region draw ops
  | .seq a b => .seq a.pc b.pc
  | .jn _ a b => .seq a.pc b.pc
  | .cond c a b => .cond c a.pc b.pc
  | .block id b => .block id b.pc
  | .loop _ b => .loop b.pc
  | .exit id => .exit id
  | .ret => .ret
def stepL {α : Type} (f : α → α) (x : α) : α := f x
noncomputable def lp (l : List Nat) (n : Nat) (f : FnT l → FnT l) : FnT l := @Nat.rec (fun _ => FnT l) (botE l) (fun _ x => stepL f x) n
noncomputable def cnd (c : XV) (x y : Ans) : Ans := onB c fun t => bo t x y
noncomputable def den (u : Fn) (b n : Nat) (c : AC) : Env → HS → (Env → HS → Ans) → (Nat → Env → HS → Ans) → (Env → HS → Ans) → Ans :=
  @AC.rec (fun _ => Env → HS → (Env → HS → Ans) → (Nat → Env → HS → Ans) → (Env → HS → Ans) → Ans)
    (fun env h kn _ _ => kn env h)
    (fun draw ops env h kn _ _ => denOs u b draw ops env h kn)
    (fun _ _ da db env h kn ke kr => da env h (fun env h => db env h kn ke kr) ke kr)
    (fun l _ _ da db env h kn ke kr => join (lamE l (fun env h => db env h kn ke kr) noE) fun j => da env h (fun env h => appE l j env h) ke kr)
    (fun c _ _ da db env h kn ke kr => cnd (evK env c) (da env h kn ke kr) (db env h kn ke kr))
    (fun id _ db env h kn ke kr => db env h kn (fun i => @Bool.rec (fun _ => Env → HS → Ans) (ke i) kn (Nat.beq i id)) kr)
    (fun l _ db env h _ ke kr => appE l (lp l n fun j => lamE l (fun env h => db env h (fun env h => appE l j env h) ke kr) noE) env h)
    (fun id env h _ ke _ => ke id env h)
    (fun env h _ _ kr => kr env h) c
end
end Go.Hf
end

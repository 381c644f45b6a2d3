/- Pure frames, part W: whole bodies, resolved; the pure predicate transformer says what the model's does. -/
import Derived.Test.YtlefgpakmgbgaaaGreatDoorEi
set_option linter.unusedVariables false
set_option linter.unusedSimpArgs false
set_option linter.unusedSectionVars false
section
namespace Go.Hf
open Go.RowKit
def guardOf (ops : Array Oper) (n : Nat) : Option (Nat × Bool) → Option (Option (Nat × Bool))
  | none => some none
  | some (j, b) => match ops[j]? with
    | some o => match o.dst with
      | some t => if t < n then some (some (t, b)) else none
      | none => none
    | none => none
def ptsOf (H : Hints) (xs : List Operand) : List Nat := xs.flatMap fun | .tmp t => (H.pts.lookup t).getD [] | _ => []
def wkOf (H : Hints) (d : Nat) (r : ROp) : List Nat :=
  (if r.makes then [r.off + d] else []) ++
  match r with
  | .store _ a _ => ptsOf H [a]
  | .append _ _ _ s _ _ => ptsOf H [s]
  | .apps _ _ s _ _ => ptsOf H [s]
  | .clr _ _ _ x => ptsOf H [x]
  | .aslc _ x => ptsOf H [x]
  | .bslice _ _ _ _ parts _ => (ptsOf H (parts.map (·.2))).filter fun c => H.raws.contains (c - 2048)
  | .call _ args => (ptsOf H args).filter fun c => H.raws.contains (c - 2048)
  | .mput _ m _ _ => ptsOf H [m]
  | .hcall _ _ _ => (H.hw.lookup d).getD [4096, 4098]
  | _ => []
def rkOf (H : Hints) : ROp → List Nat
  | .hcall _ _ _ => [4097]
  | r => if r.looks then ptsOf H r.lookOpnds else []
def dstOk (n : Nat) : Option Nat → Bool
  | some t => decide (t < n)
  | none => true
def operOf (P : Program) (H : Hints) (n : Nat) (draw : Bool) (ops : Array Oper) (o : Oper) : Option POper :=
  if dstOk n o.dst then
    match guardOf ops n o.guard with
    | some g => some (if draw then ⟨o.dst, g, rsOf P H o, rkOf H (rsOf P H o), wkOf H (o.dst.getD 0) (rsOf P H o)⟩ else ⟨o.dst, g, rsOf P H o, [], []⟩)
    | none => none
  else none
def GuardR (ops : Array Oper) (n : Nat) (og g : Option (Nat × Bool)) : Prop :=
  match og, g with
  | none, none => True
  | some (j, b), some (t, b') => b = b' ∧ (ops[j]?).bind (·.dst) = some t ∧ t < n
  | _, _ => False
theorem guardOf_ok {ops : Array Oper} {n : Nat} {og g : Option (Nat × Bool)} (h : guardOf ops n og = some g) : GuardR ops n og g := by
  cases og with
  | none => cases h; trivial
  | some x =>
    obtain ⟨j, b⟩ := x
    simp only [guardOf] at h
    split at h
    · rename_i o' ho'
      split at h
      · rename_i t ht
        split at h
        · rename_i hlt; cases h; exact ⟨rfl, by rw [ho']; exact ht, hlt⟩
        · cases h
      · cases h
    · cases h
theorem operOf_ok {P : Program} {H : Hints} {n : Nat} {draw : Bool} {ops : Array Oper} {o : Oper} {po : POper} (h : operOf P H n draw ops o = some po) : RsO P n ops o po := by
  unfold operOf at h
  split at h
  · rename_i hd
    split at h
    · rename_i g hg
      have hd' : ∀ t, o.dst = some t → t < n := by
        intro t ht; rw [ht] at hd; simpa [dstOk] using hd
      have hg' := guardOf_ok hg
      cases draw
      · simp only [Bool.false_eq_true, if_false, Option.some.injEq] at h; subst h; exact ⟨rfl, hd', rsOf_ok, hg'⟩
      · simp only [if_true, Option.some.injEq] at h; subst h; exact ⟨rfl, hd', rsOf_ok, hg'⟩
    · cases h
  · cases h
def opersOf (P : Program) (H : Hints) (n : Nat) (draw : Bool) (ops : Array Oper) : List Oper → Option (List POper)
  | [] => some []
  | o :: r => match operOf P H n draw ops o, opersOf P H n draw ops r with
    | some p, some ps => some (p :: ps)
    | _, _ => none
theorem opersOf_ok {P : Program} {H : Hints} {n : Nat} {draw : Bool} {ops : Array Oper} : ∀ {l : List Oper} {ps : List POper}, opersOf P H n draw ops l = some ps → l.length = ps.length ∧ ∀ (j : Nat) (po : POper), ps[j]? = some po → ∃ o, l[j]? = some o ∧ RsO P n ops o po
  | [], ps, h => by cases h; exact ⟨rfl, by simp⟩
  | o :: r, ps, h => by
    unfold opersOf at h
    split at h
    · rename_i p ps' h1 h2
      cases h
      obtain ⟨e1, e2⟩ := opersOf_ok h2
      refine ⟨by simp [e1], fun j po hj => ?_⟩
      cases j with
      | zero => simp at hj; subst hj; exact ⟨o, rfl, operOf_ok h1⟩
      | succ j => exact e2 j po (by simpa using hj)
    · cases h
def badC : PC := .cond (.const .nilIface) .skip .skip
theorem pw_bad {P : Program} {gl : Gl} {bs : Nat} {Q : PX → St → Prop} {s : St} (h : pw gl P bs badC Q s) : False := h
def regionOf (P : Program) (H : Hints) (n : Nat) (ops : Array Oper) (draw : Bool) : PC :=
  match opersOf P H n draw ops ops.toList with
  | some ps => if !draw || drawOk ops ps then .region draw ps else badC
  | none => badC
def comp (P : Program) (H : Hints) (n : Nat) : Code → PC
  | .skip => .skip
  | .region _ ops draw => regionOf P H n ops draw
  | .seq a b => .seq (comp P H n a) (comp P H n b)
  | .cond c a b => if opndOk c then .cond c (comp P H n a) (comp P H n b) else badC
  | .block id b => .block id (comp P H n b)
  | .loop b => .loop (comp P H n b)
  | .exit id => .exit id
  | .label _ => .skip
  | .ret => .ret
  | _ => badC
def toX : PX → Exit
  | .normal => .normal
  | .exit i => .exit i
  | .ret => .ret
section
variable {P : Program} {H : Hints} {n B bs : Nat} {O : Nat → Prop} {gl : Gl} {ph : Gh × (Nat → Obj) × World × List Deferred} {c0 : Nat → Nat} {w0 : World}
theorem sim_region (hm : P.follows .mixedOrders = true) {id : Nat} {ops : Array Oper} {draw : Bool} {Qp : PX → St → Prop} {Q : Exit → Act → World → Prop} {g : Gh} {s : St} {a : Act} {w : World}
    (hp : pw gl P bs (regionOf P H n ops draw) Qp s) (h : FR gl ph n B O g s a w) (hPB : PB B O c0 w0 g.c w) (hQ : ∀ x g' s' a' w', Qp x s' → FR gl ph n B O g' s' a' w' → PB B O c0 w0 g'.c w' → Q (toX x) a' w') : (Code.region id ops draw).wp P Q a w := by
  unfold regionOf at hp
  split at hp
  · rename_i ps hps
    split at hp
    · rename_i hc
      obtain ⟨e1, e2⟩ := opersOf_ok hps
      have e2' : ∀ (j : Nat) (po : POper), ps[j]? = some po → ∃ o, ops[j]? = some o ∧ RsO P n ops o po := fun j po hj => by
        obtain ⟨o, ho, hr⟩ := e2 j po hj
        exact ⟨o, by simpa using ho, hr⟩
      simp only [pw] at hp
      cases draw with
      | true =>
        simp only [Bool.not_true, Bool.false_or] at hc
        exact sim_draw hm (drawOk_ok (by simpa using e1) hc) e2' hp h hPB (fun g' s' a' w' hk => hQ .normal g' s' a' w' hk)
      | false =>
        refine wp_region ?_
        have := sim_ops (ops := ops) (Q := Q) ps 0 g s a w (fun j po hj => by rw [Nat.zero_add]; exact e2' j po hj) hp h hPB (fun g' s' a' w' hk => hQ .normal g' s' a' w' hk)
        rw [List.range_eq_range', show ops.size = ps.length by simpa using e1]
        exact this
    · exact (pw_bad hp).elim
  · exact (pw_bad hp).elim
theorem sim_code (hm : P.follows .mixedOrders = true) : ∀ (c : Code) (Qp : PX → St → Prop) (Q : Exit → Act → World → Prop) (g : Gh) (s : St) (a : Act) (w : World),
    pw gl P bs (comp P H n c) Qp s → FR gl ph n B O g s a w → PB B O c0 w0 g.c w → (∀ x g' s' a' w', Qp x s' → FR gl ph n B O g' s' a' w' → PB B O c0 w0 g'.c w' → Q (toX x) a' w') → c.wp P Q a w := by
  intro c
  induction c with
  | skip => intro Qp Q g s a w hp h hPB hQ; exact wp_skip (hQ .normal g s a w hp h hPB)
  | region id ops draw => intro Qp Q g s a w hp h hPB hQ; exact sim_region hm hp h hPB hQ
  | seq x y ihx ihy =>
    intro Qp Q g s a w hp h hPB hQ
    refine wp_seq (ihx (thenX (weak (pw gl P bs (comp P H n y) Qp)) Qp) _ g s a w hp h hPB (fun e g' s' a' w' hk hF hP => ?_))
    cases e with
    | normal =>
      obtain ⟨env', he, hk⟩ := hk
      exact ihy Qp Q g' ⟨env', s'.objs⟩ a' w' hk (hF.weak he) hP hQ
    | exit i => exact hQ (.exit i) g' s' a' w' hk hF hP
    | ret => exact hQ .ret g' s' a' w' hk hF hP
  | cond c x y ihx ihy =>
    intro Qp Q g s a w hp h hPB hQ
    simp only [comp] at hp
    split at hp
    · rename_i hc
      have e := h.opnd hc
      simp only [pw] at hp
      split at hp
      · rename_i hv; rw [hv] at e; exact wp_cond_true e.sc_inv.1 (ihx Qp Q g s a w hp h hPB hQ)
      · rename_i hv; rw [hv] at e; exact wp_cond_false e.sc_inv.1 (ihy Qp Q g s a w hp h hPB hQ)
      · exact hp.elim
    · exact (pw_bad hp).elim
  | block id b ih =>
    intro Qp Q g s a w hp h hPB hQ
    refine wp_block (ih (inBlockX id Qp) _ g s a w hp h hPB (fun e g' s' a' w' hk hF hP => ?_))
    cases e with
    | normal => exact hQ .normal g' s' a' w' hk hF hP
    | exit i =>
      simp only [inBlockX] at hk
      simp only [toX, Exit.inBlock]
      by_cases hi : i = id
      · rw [if_pos hi] at hk ⊢; exact hQ .normal g' s' a' w' hk hF hP
      · rw [if_neg hi] at hk ⊢; exact hQ (.exit i) g' s' a' w' hk hF hP
    | ret => exact hQ .ret g' s' a' w' hk hF hP
  | loop b ih =>
    intro Qp Q g s a w hp h hPB hQ
    obtain ⟨m, hr⟩ := hp
    refine wp_loop_rounds m ?_
    induction m generalizing g s a w with
    | zero => exact hr.elim
    | succ m ihm =>
      obtain ⟨env', he, hr⟩ := hr
      refine ih (thenX (rounds (pw gl P bs (comp P H n b)) Qp m) Qp) _ g ⟨env', s.objs⟩ a w hr (h.weak he) hPB (fun e g' s' a' w' hk hF hP => ?_)
      cases e with
      | normal => exact ihm g' s' a' w' hF hP hk
      | exit i => exact hQ (.exit i) g' s' a' w' hk hF hP
      | ret => exact hQ .ret g' s' a' w' hk hF hP
  | exit id => intro Qp Q g s a w hp h hPB hQ; exact wp_exit (hQ (.exit id) g s a w hp h hPB)
  | label l => intro Qp Q g s a w hp h hPB hQ; exact wp_label (hQ .normal g s a w hp h hPB)
  | ret => intro Qp Q g s a w hp h hPB hQ; exact wp_ret (hQ .ret g s a w hp h hPB)
  | rangeFunc _ _ _ _ => intro Qp Q g s a w hp; exact (pw_bad hp).elim
  | scope _ => intro Qp Q g s a w hp; exact (pw_bad hp).elim
  | goto _ => intro Qp Q g s a w hp; exact (pw_bad hp).elim
  | refuse _ => intro Qp Q g s a w hp; exact (pw_bad hp).elim
end
end Go.Hf
end
section
namespace Go.Hf
open Go.RowKit
inductive RV where
  | tmp (t : Nat)
  | cell (t : Nat) (agg : Bool) (n : Nat)
  deriving Inhabited
def rvOf (P : Program) : ResultVar → Option RV
  | .tmp t => some (.tmp t)
  | .cell a T => match tyOf P T with
    | some (agg, n) => some (.cell a agg n)
    | none => none
def rvsOf (P : Program) : List ResultVar → Option (List RV)
  | [] => some []
  | x :: r => match rvOf P x, rvsOf P r with
    | some y, some q => some (y :: q)
    | _, _ => none
def rvVal (s : St) : RV → Option PV
  | .tmp t => some (s.env t)
  | .cell t agg n => match s.env t with
    | .bptr k st off => match s.objs k with
      | .box st' cs => if st = st' then takeAgg agg n cs off else none
      | _ => none
    | _ => none
def rvVals (s : St) : List RV → Option (List PV)
  | [] => some []
  | x :: r => match rvVal s x, rvVals s r with
    | some y, some q => some (y :: q)
    | _, _ => none
def pack : List PV → PV
  | [v] => v
  | vs => .tup vs
def handAll (ob : Nat → Obj) : List Bool → List PV → Option (List PV × List (Nat × Obj))
  | _, [] => some ([], [])
  | [], x :: xs => match handArg ob true x, handAll ob [] xs with
    | some q, some (qs, us) => some (q :: qs, shareArg ob true x ++ us)
    | _, _ => none
  | b :: bs, x :: xs => match handArg ob b x, handAll ob bs xs with
    | some q, some (qs, us) => some (q :: qs, shareArg ob b x ++ us)
    | _, _ => none
theorem handAll_cons {ob : Nat → Obj} {frz : List Bool} {x : PV} {xs : List PV} {qs : List PV} {us : List (Nat × Obj)} (h : handAll ob frz (x :: xs) = some (qs, us)) :
    ∃ q qs' us', handArg ob (frz.getD 0 true) x = some q ∧ handAll ob frz.tail xs = some (qs', us') ∧ qs = q :: qs' ∧ us = shareArg ob (frz.getD 0 true) x ++ us' := by
  cases frz with
  | nil =>
    simp only [handAll] at h
    split at h
    · rename_i q qs' us' h1 h2; cases h; exact ⟨q, qs', us', h1, h2, rfl, rfl⟩
    · cases h
  | cons b bs =>
    simp only [handAll] at h
    split at h
    · rename_i q qs' us' h1 h2; cases h; exact ⟨q, qs', us', h1, h2, rfl, rfl⟩
    · cases h
def Obj.keys : Obj → List Nat
  | .box _ cs => cs.flatMap PV.key
  | _ => []
structure Kept (ob0 obE obF : Nat → Obj) (res : PV) : Prop where
  k : ∀ k, obF k = obE k ∨ (¬ (obF k).live ∧ (ob0 k).stamp ≤ (obF k).stamp)
  obj : ∀ k, (obF k).live → obF k = ob0 k ∨ ∀ k2 ∈ (obF k).keys, obF k2 = obE k2
  res : ∀ k2 ∈ res.keys, obF k2 = obE k2
def tupOk : PV → Bool
  | .tup _ => false
  | .undef => false
  | _ => true
def Fin (rfz : List Bool) (rvs : List RV) (ob0 obF : Nat → Obj) (res : PV) : PX → St → Prop
  | .exit _, _ => False
  | _, s => ∃ vals qs us, rvVals s rvs = some vals ∧ handAll s.objs rfz vals = some (qs, us) ∧ qs.all tupOk = true ∧ res = pack qs ∧ Kept ob0 (updAll s.objs us) obF res
def initSt (args : List PV) (ob : Nat → Obj) : St := ⟨fun i => (args[i]?).getD .undef, ob⟩
def rvRun (a : Act) (x : ResultVar) : Sem Value := match x with | .tmp t => pure (a.tmps.getD t undef) | .cell b t => do loadVar t (← asAddr (a.tmps.getD b undef))
theorem rvOf_run {P : Program} {n B : Nat} {O : Nat → Prop} {gl : Gl} {ph : Gh × (Nat → Obj) × World × List Deferred} {g : Gh} {s : St} {a : Act} {w : World} (h : FR gl ph n B O g s a w) {x : ResultVar} {y : RV} {p : PV} (hx : rvOf P x = some y) (hp : rvVal s y = some p) :
    ∃ v, (rvRun a x).run P w = .ok v w ∧ XR g w s.objs p v := by
  cases x with
  | tmp t => cases hx; cases hp; exact ⟨_, rfl, h.env t⟩
  | cell b T =>
    simp only [rvOf] at hx
    split at hx
    · rename_i agg m ht
      cases hx
      simp only [rvVal] at hp
      split at hp
      · rename_i k st off hu
        have ex := h.env b
        rw [hu] at ex
        obtain ⟨_, ad, e1, e2⟩ := ex.ref_inv (by simp [PV.key, PV.key0])
        split at hp
        · rename_i s' cs hob
          split at hp
          · rename_i hs
            subst hs
            have hO := h.obj k
            rw [hob] at hO
            obtain ⟨arr, T', r1, r2, r3, r4⟩ := hO
            have e3 := e2 cs hob
            obtain ⟨v, hv1, hv2⟩ := XR.of_cells (s := s) (g := g) (w := w) (b := g.blk k) (o' := 0) (tyOf_ok ht) hp (fun j q hq => by
              obtain ⟨u, hu1, hu2, hu3⟩ := r4 j q hq
              exact ⟨u, by rw [Nat.zero_add, cell_of_heap r1]; exact hu1, hu2, hu3⟩)
            rw [Nat.zero_add] at hv1
            refine ⟨v, ?_, hv2⟩
            simp only [rvRun, e1, e3, asAddr, Sem.run_bind, Sem.run_pure, Result.andThen_ok]
            exact hv1
          · cases hp
        · cases hp
      · cases hp
    · cases hx
theorem rvs_run {P : Program} {n B : Nat} {O : Nat → Prop} {gl : Gl} {ph : Gh × (Nat → Obj) × World × List Deferred} {g : Gh} {s : St} {a : Act} {w : World} (h : FR gl ph n B O g s a w) : ∀ {xs : List ResultVar} {ys : List RV} {ps : List PV}, rvsOf P xs = some ys → rvVals s ys = some ps →
    ∃ vs : List Value, (xs.mapM (rvRun a)).run P w = .ok vs w ∧ ps.length = vs.length ∧ ps.length = xs.length ∧
      (∀ (j : Nat) (x : ResultVar) (v : Value), xs[j]? = some x → vs[j]? = some v → (rvRun a x).run P w = .ok v w) ∧
      ∀ (j : Nat) (q : PV) (u : Value), ps[j]? = some q → vs[j]? = some u → XR g w s.objs q u
  | [], ys, ps, h1, h2 => by cases h1; cases h2; exact ⟨[], rfl, rfl, rfl, by simp, by simp⟩
  | x :: xs, ys, ps, h1, h2 => by
    simp only [rvsOf] at h1
    split at h1
    · rename_i y q hy hq
      cases h1
      simp only [rvVals] at h2
      split at h2
      · rename_i p ps' hp hps
        cases h2
        obtain ⟨v, hv1, hv2⟩ := rvOf_run h hy hp
        obtain ⟨vs, r1, r2, r3, r5, r4⟩ := rvs_run h hq hps
        refine ⟨v :: vs, ?_, by simp [r2], by simp [r3], fun j q u hj hu => ?_, fun j q u hj hu => ?_⟩
        · rw [List.mapM_cons, Sem.run_bind, hv1, Result.andThen_ok, Sem.run_bind, r1, Result.andThen_ok, Sem.run_pure]
        · cases j with
          | zero => simp at hj hu; subst hj; subst hu; exact hv1
          | succ j => exact r5 j q u (by simpa using hj) (by simpa using hu)
        · cases j with
          | zero => simp at hj hu; subst hj; subst hu; exact hv2
          | succ j => exact r4 j q u (by simpa using hj) (by simpa using hu)
      · cases h2
    · cases h1
theorem results_run {P : Program} {n B : Nat} {O : Nat → Prop} {gl : Gl} {ph : Gh × (Nat → Obj) × World × List Deferred} {g : Gh} {s : St} {a : Act} {w : World} {fn : Func} (h : FR gl ph n B O g s a w) {ys : List RV} {ps : List PV} (h1 : rvsOf P fn.results.toList = some ys) (h2 : rvVals s ys = some ps) :
    ∃ vs : List Value, (results fn a.tmps).run P w = .ok (if h : vs.toArray.size = 1 then vs.toArray[0] else .tuple vs.toArray) w ∧ ps.length = vs.length ∧ fn.results.toList.length = vs.length ∧
      (∀ (j : Nat) (x : ResultVar) (v : Value), fn.results.toList[j]? = some x → vs[j]? = some v → (rvRun a x).run P w = .ok v w) ∧
      ∀ (j : Nat) (q : PV) (u : Value), ps[j]? = some q → vs[j]? = some u → XR g w s.objs q u := by
  obtain ⟨vs, r1, r2, r3, r5, r4⟩ := rvs_run h h1 h2
  refine ⟨vs, ?_, r2, by rw [← r3, r2], r5, r4⟩
  unfold results
  rw [Sem.run_bind]
  have : fn.results = fn.results.toList.toArray := by simp
  rw [this, List.mapM_toArray, map_eq_pure_bind, Sem.run_bind]
  exact (congrArg (fun r => (Result.andThen r (fun b w' => Sem.run P (pure b.toArray) w')).andThen (fun b w' => Sem.run P (pure (if h : b.size = 1 then b[0] else Value.tuple b)) w')) r1).trans rfl
end Go.Hf
end
section
namespace Go.Hf
open Go.RowKit
section
variable {P : Program} {n B bs : Nat} {O : Nat → Prop} {gl : Gl} {ph : Gh × (Nat → Obj) × World × List Deferred} {a : Act} {w : World}
theorem rvVal_sh {env : Nat → PV} {ob0 ob : Nat → Obj} (h : Sh ob0 ob) (y : RV) : rvVal ⟨env, ob⟩ y = rvVal ⟨env, ob0⟩ y := by
  cases y with
  | tmp t => rfl
  | cell t agg m =>
    simp only [rvVal]
    split
    · rename_i k st off hu
      rcases h k with e | ⟨st', e, sz, es, e1, e2⟩
      · rw [e]
      · rw [e1, e2]
    · rfl
theorem share_rvs {env : Nat → PV} {ob0 : Nat → Obj} : ∀ (xs : List ResultVar) (frz : List Bool) (ys : List RV) (ps qs : List PV) (us : List (Nat × Obj)) (vs : List Value) (g : Gh) (ob : Nat → Obj), FR gl ph n B O g ⟨env, ob⟩ a w → Sh ob0 ob → rvsOf P xs = some ys → rvVals ⟨env, ob0⟩ ys = some ps →
    xs.length = vs.length → (∀ (j : Nat) (x : ResultVar) (v : Value), xs[j]? = some x → vs[j]? = some v → (rvRun a x).run P w = .ok v w) → handAll ob0 frz ps = some (qs, us) →
    ∃ g', FR gl ph n B O g' ⟨env, updAll ob us⟩ a w ∧ PB B O g.c w g'.c w ∧ Ext g.c w g'.c w ∧ Sh ob0 (updAll ob us) ∧ qs.length = vs.length ∧
      ∀ (j : Nat) (q : PV) (u : Value), qs[j]? = some q → vs[j]? = some u → XR g' w (updAll ob us) q u
  | [], frz, ys, ps, qs, us, vs, g, ob, h, hs, h1, h2, hl, _, hq => by
    cases h1; cases h2
    simp only [handAll, Option.some.injEq, Prod.mk.injEq] at hq
    obtain ⟨rfl, rfl⟩ := hq
    exact ⟨g, h, PB.refl _ _ _ _, Ext.refl _ _, hs, hl, by simp⟩
  | x :: xs, frz, ys, ps, qs, us, vs, g, ob, h, hs, h1, h2, hl, hr, hq => by
    simp only [rvsOf] at h1
    split at h1
    · rename_i y ys' hy hys
      cases h1
      simp only [rvVals] at h2
      split at h2
      · rename_i p ps' hp hps
        cases h2
        obtain ⟨q, qs', us', hq1, hqs, rfl, rfl⟩ := handAll_cons hq
        match vs, hl with
        | v :: vs, hl =>
          obtain ⟨v', hv1, hv2⟩ := rvOf_run h hy ((rvVal_sh hs y).trans hp)
          have hv : (rvRun a x).run P w = .ok v w := hr 0 x v rfl rfl
          have : v' = v := by
            have e : (rvRun a x).run P w = .ok v' w := hv1
            rw [hv] at e
            injection e with e1 _
            exact e1.symm
          subst this
          cases hb : frz.getD 0 true with
          | true =>
            simp only [hb, handArg, if_true] at hq1
            simp only [shareArg, if_true]
            obtain ⟨g1, F1, PB1, E1, S1, V1⟩ := h.shareVal hs hv2 hq1
            obtain ⟨g2, F2, PB2, E2, S2, L2, V2⟩ := share_rvs xs frz.tail ys' ps' qs' us' vs g1 _ F1 S1 hys hps (by simpa using hl) (fun j x v hx hv => hr (j + 1) x v (by simpa using hx) (by simpa using hv)) hqs
            refine ⟨g2, ?_, PB1.trans PB2, E1.trans E2, ?_, by simp [L2], fun j q u hj hu => ?_⟩
            · simp only [updAll_append]; exact F2
            · simp only [updAll_append]; exact S2
            · simp only [updAll_append]
              cases j with
              | zero => simp at hj hu; subst hj; subst hu; exact XR.of_VR (V1.mono E2)
              | succ j => exact V2 j q u (by simpa using hj) (by simpa using hu)
          | false =>
            simp only [hb, handArg, Bool.false_eq_true, if_false, Option.some.injEq] at hq1
            subst hq1
            simp only [shareArg, Bool.false_eq_true, if_false, List.nil_append]
            obtain ⟨g2, F2, PB2, E2, S2, L2, V2⟩ := share_rvs xs frz.tail ys' ps' qs' us' vs g ob h hs hys hps (by simpa using hl) (fun j x v hx hv => hr (j + 1) x v (by simpa using hx) (by simpa using hv)) hqs
            obtain ⟨v2, hw1, hw2⟩ := rvOf_run F2 hy ((rvVal_sh S2 y).trans hp)
            have e2 : v2 = v' := by
              rw [hv] at hw1
              injection hw1 with e1 _
              exact e1.symm
            subst e2
            refine ⟨g2, F2, PB2, E2, S2, by simp [L2], fun j q u hj hu => ?_⟩
            cases j with
            | zero => simp at hj hu; subst hj; subst hu; exact hw2
            | succ j => exact V2 j q u (by simpa using hj) (by simpa using hu)
      · cases h2
    · cases h1
end
end Go.Hf
end
section
namespace Go.Hf
open Go.RowKit
section
variable {P : Program}
theorem getD_args {vs : List Value} {n i : Nat} : (vs.toArray ++ Array.replicate (n - vs.toArray.size) undef).getD i undef = (vs[i]?).getD undef := by
  rw [Array.getD_eq_getD_getElem?, Array.getElem?_append]
  split
  · simp
  · rename_i h
    have : vs[i]? = none := by simp at h ⊢; omega
    rw [this, Array.getElem?_replicate]
    split <;> rfl
theorem FR.start {g : Gh} {w : World} {ob : Nat → Obj} {args : List PV} {vs : List Value} {n : Nat} {gl : Gl} (hG : gl.p g.c w) (hH : HeapR g w ob) (hA : ArgsX g w ob args vs) (hn : args.length ≤ n) :
    FR gl (g, ob, w, []) n w.heap.size (Blk g ob) g (initSt args ob) { tmps := vs.toArray ++ Array.replicate (n - vs.toArray.size) undef, defers := [] } w := by
  obtain ⟨hl, hA⟩ := hA
  refine ⟨by simp; omega, rfl, Nat.le_refl _, fun i => ?_, hH.obj, hH.inj, fun k hk => ⟨.inr ⟨k, hk, rfl⟩, hH.lt k hk⟩, ⟨ObStep.refl _ _, Ext.refl _ _⟩, hG⟩
  rw [getD_args]
  simp only [initSt]
  cases hi : args[i]? with
  | none => left; rfl
  | some p =>
    have hlt : i < vs.length := by rw [← hl]; exact (List.getElem?_eq_some_iff.1 hi).1
    have hv := List.getElem?_eq_getElem hlt
    rw [hv]
    exact hA i p _ hi hv
theorem Ref0.keep {g : Gh} {ob ob' : Nat → Obj} {p : PV} {v : Value} (h : Ref0 g ob p v) (hk : ∀ k ∈ p.key0, ob' k = ob k) : Ref0 g ob' p v := by
  cases p with
  | bptr k s off => have e := hk k (by simp [PV.key0]); simp only [Ref0, e]; exact h
  | kptr k s i off => have e := hk k (by simp [PV.key0]); simp only [Ref0, e]; exact h
  | bld k s off len => have e := hk k (by simp [PV.key0]); simp only [Ref0, e]; exact h
  | mref k s => have e := hk k (by simp [PV.key0]); simp only [Ref0, e]; exact h
  | _ => exact h.elim
theorem KR.keep {g : Gh} {w : World} {ob ob' : Nat → Obj} {p : PV} {v : Value} (h : KR g w ob p v) (hk : ∀ k ∈ p.key, ob' k = ob k) : KR g w ob' p v := by
  rcases h with h | h
  · exact .inl h
  · refine .inr ?_
    cases p with
    | clo f caps =>
      obtain ⟨h1, vs, h2, h3, h4⟩ := h
      refine ⟨h1, vs, h2, h3, fun j q u hq hu => (h4 j q u hq hu).imp id (fun h5 => h5.keep (fun k hk' => hk k ?_))⟩
      simp only [PV.key, List.mem_flatMap]
      exact ⟨q, List.mem_of_getElem? hq, hk'⟩
    | bptr k s off => exact Ref0.keep (p := .bptr k s off) h hk
    | kptr k s i off => exact Ref0.keep (p := .kptr k s i off) h hk
    | bld k s off len => exact Ref0.keep (p := .bld k s off len) h hk
    | mref k s => exact Ref0.keep (p := .mref k s) h hk
    | _ => exact h.elim
theorem XR.keep {g : Gh} {w : World} {ob ob' : Nat → Obj} {p : PV} {v : Value} (h : XR g w ob p v) (hk : ∀ k ∈ p.keys, ob' k = ob k) : XR g w ob' p v := by
  rcases h with h | h | ⟨cs, vs, rfl, rfl, hl, hv⟩ | ⟨cs, vs, rfl, rfl, hl, hv⟩
  · exact .inl h
  · refine .inr (.inl ?_)
    rcases h with h1 | h1
    · exact .inl h1
    · refine KR.keep (.inr h1) ?_
      cases p with
      | agg => exact h1.elim
      | tup => exact h1.elim
      | _ => exact hk
  · simp only [PV.keys, PV.keysA, List.mem_flatMap] at hk
    exact .inr (.inr (.inl ⟨cs, vs, rfl, rfl, hl, fun j q u hq hu => ⟨(hv j q u hq hu).1, (hv j q u hq hu).2.keep (fun k hk' => hk k ⟨q, List.mem_of_getElem? hq, hk'⟩)⟩⟩))
  · simp only [PV.keys, List.mem_flatMap] at hk
    refine .inr (.inr (.inr ⟨cs, vs, rfl, rfl, hl, fun j q u hq hu => ?_⟩))
    have hk' : ∀ k ∈ q.keysA, ob' k = ob k := fun k hk' => hk k ⟨q, List.mem_of_getElem? hq, hk'⟩
    rcases hv j q u hq hu with h1 | ⟨cs', vs', rfl, s2, s3, s4⟩
    · left
      rcases h1 with h1 | h1
      · exact .inl h1
      · refine KR.keep (.inr h1) ?_
        cases q with
        | agg => exact h1.elim
        | _ => exact hk'
    · right
      simp only [PV.keysA, List.mem_flatMap] at hk'
      exact ⟨cs', vs', rfl, s2, s3, fun j q u hq hu => ⟨(s4 j q u hq hu).1, (s4 j q u hq hu).2.keep (fun k hk2 => hk' k ⟨q, List.mem_of_getElem? hq, hk2⟩)⟩⟩
theorem Ref0.old {g g' : Gh} {ob0 obE obF : Nat → Obj} {p : PV} {v v0 : Value} (h : Ref0 g' obE p v) (h0 : Ref0 g ob0 p v0) (hF : ∀ k, obF k = obE k ∨ (¬ (obF k).live ∧ (ob0 k).stamp ≤ (obF k).stamp)) : Ref0 g' obF p v := by
  cases p with
  | bptr k s off =>
    rcases hF k with e | ⟨e1, e2⟩
    · simp only [Ref0, e]; exact h
    · obtain ⟨_, a, rfl, _⟩ := h
      exact ⟨Nat.le_trans h0.1 e2, a, rfl, fun cs hc => absurd (by rw [hc]; trivial) e1⟩
  | kptr k s i off =>
    rcases hF k with e | ⟨e1, e2⟩
    · simp only [Ref0, e]; exact h
    · obtain ⟨_, a, rfl, _⟩ := h
      exact ⟨Nat.le_trans h0.1 e2, a, rfl, fun _ _ _ _ hc => absurd (by rw [hc]; trivial) e1⟩
  | bld k s off len =>
    rcases hF k with e | ⟨e1, e2⟩
    · simp only [Ref0, e]; exact h
    · obtain ⟨_, b, o, cap, rfl, h1, h2, _⟩ := h
      exact ⟨Nat.le_trans h0.1 e2, b, o, cap, rfl, h1, h2, fun _ _ _ _ hc => absurd (by rw [hc]; trivial) e1⟩
  | mref k s =>
    rcases hF k with e | ⟨e1, e2⟩
    · simp only [Ref0, e]; exact h
    · obtain ⟨_, b, rfl, _⟩ := h
      exact ⟨Nat.le_trans h0.1 e2, b, rfl, fun _ hc => absurd (by rw [hc]; trivial) e1⟩
  | _ => exact h.elim
theorem KR.old {g g' : Gh} {w w' : World} {ob0 obE obF : Nat → Obj} {p : PV} {v v0 : Value} (h : KR g' w' obE p v) (h0 : KR g w ob0 p v0) (hF : ∀ k, obF k = obE k ∨ (¬ (obF k).live ∧ (ob0 k).stamp ≤ (obF k).stamp)) : KR g' w' obF p v := by
  rcases h with h | h
  · exact .inl h
  · refine .inr ?_
    have h0' : RefR g ob0 p v0 := by
      rcases h0 with h0 | h0
      · exfalso
        have := h.key_ne
        cases h0 <;> simp [PV.key, PV.key0] at this
      · exact h0
    cases p with
    | clo f caps =>
      obtain ⟨h1, vs, h2, h3, h4⟩ := h
      obtain ⟨_, vs0, _, h30, h40⟩ := h0'
      refine ⟨h1, vs, h2, h3, fun j q u hq hu => ?_⟩
      have hj : j < vs0.length := by have := (List.getElem?_eq_some_iff.1 hq).1; omega
      rcases h4 j q u hq hu with h5 | h5
      · exact .inl h5
      · refine .inr ?_
        rcases h40 j q _ hq (List.getElem?_eq_getElem hj) with ⟨rfl, _⟩ | h6
        · exact h5.elim
        · exact h5.old h6 hF
    | bptr k s off => exact Ref0.old (p := .bptr k s off) h h0' hF
    | kptr k s i off => exact Ref0.old (p := .kptr k s i off) h h0' hF
    | bld k s off len => exact Ref0.old (p := .bld k s off len) h h0' hF
    | mref k s => exact Ref0.old (p := .mref k s) h h0' hF
    | _ => exact h.elim
theorem FR.after {ds : List Deferred} {g g' : Gh} {w w' : World} {ob0 obF : Nat → Obj} {s : St} {a : Act} {n : Nat} {gl : Gl} {res : PV} (hH : HeapR g w ob0) (h : FR gl (g, ob0, w, ds) n w.heap.size (Blk g ob0) g' s a w') (hP : PB w.heap.size (Blk g ob0) g.c w g'.c w') (hK : Kept ob0 s.objs obF res) :
    After g w ob0 g' w' obF := by
  have hlive : ∀ k, (obF k).live → obF k = s.objs k := fun k hl => (hK.k k).resolve_right (fun e => e.1 hl)
  obtain ⟨hS, hE⟩ := h.home
  refine ⟨⟨hP.os, hP.tape, hP.output, hP.size, fun b hb hn => hP.block b hb hn, fun b hb hn => hP.c b hb hn⟩, hE, ⟨fun k => ?_, fun k k' hl hl' e => ?_, fun k hl => ?_⟩, fun k => ?_, fun k hl => ?_⟩
  · by_cases hl : (obF k).live
    · have e := hlive k hl
      have hO := h.obj k
      rw [e]
      cases ho : s.objs k with
      | no st => trivial
      | bld st e' sz es raw => rw [ho] at hO; exact hO
      | map st es => rw [ho] at hO; exact hO
      | box st cs =>
        rw [ho] at hO
        obtain ⟨arr, T, r1, r2, r3, r4⟩ := hO
        refine ⟨arr, T, r1, r2, r3, fun j q hq => ?_⟩
        obtain ⟨u, q1, q2, q3⟩ := r4 j q hq
        refine ⟨u, q1, q2, ?_⟩
        rcases hK.obj k hl with e0 | e0
        · have hO0 := hH.obj k
          rw [← e0, e, ho] at hO0
          obtain ⟨arr0, T0, _, _, _, r40⟩ := hO0
          obtain ⟨u0, _, _, q30⟩ := r40 j q hq
          exact q3.old q30 hK.k
        · refine q3.keep (fun k2 hk2 => e0 k2 ?_)
          rw [e, ho]
          simp only [Obj.keys, List.mem_flatMap]
          exact ⟨q, List.mem_of_getElem? hq, hk2⟩
    · cases ho : obF k <;> simp_all [Obj.live, ObjR]
  · have e1 := hlive k hl
    have e2 := hlive k' hl'
    rw [e1] at hl
    rw [e2] at hl'
    exact h.inj k k' hl hl' e
  · have e1 := hlive k hl
    rw [e1] at hl
    exact (h.fresh k hl).2
  · rcases hK.k k with e | ⟨e1, e2⟩
    · have := hS k
      simp only [e]
      exact this
    · exact ⟨e2, fun cs hc => absurd (by rw [hc]; trivial) e1, fun _ _ _ _ hc => absurd (by rw [hc]; trivial) e1, fun _ hc => absurd (by rw [hc]; trivial) e1⟩
  · have e1 := hlive k hl
    rw [e1] at hl
    exact (h.fresh k hl).1
end
end Go.Hf
end
section
namespace Go.Hf
open Go.RowKit
section
variable {P : Program}
def packV (vs : List Value) : Value := if h : vs.toArray.size = 1 then vs.toArray[0] else .tuple vs.toArray
theorem packV_one (v : Value) : packV [v] = v := rfl
theorem packV_many {vs : List Value} (h : vs.length ≠ 1) : packV vs = .tuple vs.toArray := by simp [packV, h]
theorem XR.of_pack {g : Gh} {w : World} {ob : Nat → Obj} {qs : List PV} {vs : List Value} (hl : qs.length = vs.length) (h : ∀ (j : Nat) (q : PV) (u : Value), qs[j]? = some q → vs[j]? = some u → XR g w ob q u) (hone : qs.all tupOk = true) : XR g w ob (pack qs) (packV vs) := by
  by_cases h1 : qs.length = 1
  · match qs, h1 with
    | [q], _ =>
      match vs, hl with
      | [v], _ => rw [packV_one]; exact h 0 q v rfl rfl
  · have e : pack qs = .tup qs := by
      match qs, h1 with
      | [], _ => rfl
      | [q], h1 => exact absurd rfl h1
      | _ :: _ :: _, _ => rfl
    rw [e, packV_many (by omega)]
    refine .inr (.inr (.inr ⟨qs, vs, rfl, rfl, hl, fun j q u hq hu => ?_⟩))
    have ht := List.all_eq_true.1 hone q (List.mem_of_getElem? hq)
    rcases h j q u hq hu with rfl | h1 | h1 | ⟨_, _, rfl, _⟩
    · simp [tupOk] at ht
    · exact .inl h1
    · exact .inr h1
    · simp [tupOk] at ht
theorem HC_of_pw {gl : Gl} {H : Hints} {f : Nat} {fn : Func} {body : Code} {args : List PV} {ob obF : Nat → Obj} {res : PV} (bs : Nat) (rfz : List Bool) (rvs : List RV) (hmix : P.follows .mixedOrders = true) (hf : P.funcs[f]? = some fn) (hb : fn.body = some body)
    (hname : (fn.name == "runtime.NumGoroutine") = false) (hn : args.length ≤ fn.ntmps) (hrv : rvsOf P fn.results.toList = some rvs)
    (hp : pw gl P bs (comp P H fn.ntmps body) (Fin rfz rvs ob obF res) (initSt args ob)) : HC gl P f args ob res obF := by
  refine ⟨⟨fn, hf, hname, by rw [hb]; rfl⟩, fun g w vs hG hH hA => ?_⟩
  have F0 := FR.start hG hH hA hn
  refine calls_of_wp hf hb ?_
  refine sim_code (bs := bs) (c0 := g.c) (w0 := w) hmix body (Fin rfz rvs ob obF res) _ g (initSt args ob) _ w hp F0 (PB.refl _ _ _ _) ?_
  have key : ∀ g' s' a' w', (∃ vals qs us, rvVals s' rvs = some vals ∧ handAll s'.objs rfz vals = some (qs, us) ∧ qs.all tupOk = true ∧ res = pack qs ∧ Kept ob (updAll s'.objs us) obF res) → FR gl (g, ob, w, []) fn.ntmps w.heap.size (Blk g ob) g' s' a' w' → PB w.heap.size (Blk g ob) g.c w g'.c w' →
      a'.defers = [] ∧ ∃ v, (results fn a'.tmps).run P w' = .ok v w' ∧ ∃ v' g', Ending.returned v = .returned v' ∧ After g w ob g' w' obF ∧ XR g' w' obF res v' := by
    rintro g' ⟨env, ob'⟩ a w' ⟨vals, qs, us, hv1, hv2, hone, rfl, hK⟩ hF hP
    obtain ⟨vs', hu1, hu2, hu3, hu4, hu5⟩ := results_run (fn := fn) hF hrv hv1
    obtain ⟨g2, F2, PB2, _, S2, L2, V2⟩ := share_rvs fn.results.toList rfz rvs vals qs us vs' g' ob' hF (Sh.refl ob') hrv hv1 hu3 hu4 hv2
    refine ⟨hF.defers, packV vs', hu1, packV vs', g2, rfl, F2.after hH (hP.trans PB2) hK, ?_⟩
    exact (XR.of_pack L2 V2 hone).keep hK.res
  intro x g' s' a' w' hk hF hP
  cases x with
  | exit i => exact hk.elim
  | normal => exact key g' s' a' w' hk hF hP
  | ret => exact key g' s' a' w' hk hF hP
end
end Go.Hf
end

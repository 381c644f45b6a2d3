/- Pure frames, part X: a function's contract from the pure predicate transformer of its body. -/
import Derived.Test.YthiipifjdfmblaaGreatDoorPfW
set_option linter.unusedVariables false
set_option linter.unusedSimpArgs false
namespace Go.Pf
open Go.RowKit

/-- A result variable, resolved. -/
inductive RV where
  | tmp (t : Nat)
  | cell (t : Nat) (agg : Bool) (n : Nat)
  deriving Inhabited

def rvOf (P : Program) : ResultVar → Option RV
  | .tmp t => some (.tmp t)
  | .cell a T => match tyOf P T with
    | some (agg, n) => some (.cell a agg n)
    | none => none

def rvsOf (P : Program) : List ResultVar → Option (List RV)
  | [] => some []
  | x :: r => match rvOf P x, rvsOf P r with
    | some y, some q => some (y :: q)
    | _, _ => none

def rvVal (s : St) : RV → Option PV
  | .tmp t => some (s.env t)
  | .cell t agg n => match s.env t with
    | .bptr k st off => match s.objs k with
      | .box st' cs => if st = st' then takeAgg agg n cs off else none
      | _ => none
    | _ => none

def rvVals (s : St) : List RV → Option (List PV)
  | [] => some []
  | x :: r => match rvVal s x, rvVals s r with
    | some y, some q => some (y :: q)
    | _, _ => none

def pureAll (ob : Nat → Obj) : List PV → Option (List PV)
  | [] => some []
  | x :: r => match pureVal ob x, pureAll ob r with
    | some y, some q => some (y :: q)
    | _, _ => none

def pack : List PV → PV
  | [v] => v
  | vs => .tup vs

/-- What a function hands back; 'own': its first result is a slice of its own. -/
def resOf (own : Bool) (ob : Nat → Obj) (vals : List PV) : Option PV :=
  if own then
    match vals with
    | .bld k st 0 len :: r => match ob k, pureAll ob r with
      | .bld st' e sz es raw, some qs => if st = st' ∧ (len = es.length ∨ raw = true ∧ len ≤ es.length) ∧ r.all (fun x => !x.keys.contains k) = true then some (pack (.own e sz raw (es.take len) :: qs)) else none
      | _, _ => none
    | _ => none
  else (pureAll ob vals).map pack

/-- The objects behind the results' being handed back. -/
def resObs (own : Bool) (ob : Nat → Obj) (vals : List PV) : Nat → Obj := updAll ob ((if own then vals.drop 1 else vals).flatMap (shareVal ob))

def OutOk (args : List PV) (ob : Nat → Obj) (out : List (List PV)) : Prop :=
  match args with
  | .own e sz raw es :: _ => ob 0 = .bld 0 e sz out raw ∧ out.length = es.length
  | _ => True

/-- What must hold at the end of a body. -/
def Fin (own : Bool) (rvs : List RV) (m : Mode) (args : List PV) (res : PV) (out : List (List PV)) : PX → St → Prop
  | .exit _, _ => False
  | _, s => ∃ vals, rvVals s rvs = some vals ∧ resOf own s.objs vals = some res ∧ (m = .inout → own = false ∧ OutOk args (resObs own s.objs vals) out)

def initSt (args : List PV) : St :=
  ⟨fun i => match args[i]? with
    | some (.own _ _ _ es) => if i = 0 then .bld 0 0 0 es.length else .undef
    | some p => p
    | none => .undef,
   fun k => match k, args with
    | 0, .own e sz raw es :: _ => .bld 0 e sz es raw
    | _, _ => .no 0⟩

/-- A result variable is read. -/
def rvRun (a : Act) (x : ResultVar) : Sem Value := match x with | .tmp t => pure (a.tmps.getD t undef) | .cell b t => do loadVar t (← asAddr (a.tmps.getD b undef))

theorem rvOf_run {P : Program} {n B : Nat} {O : Option Nat} {gl : Gl} {ph : Option (Nat × Value)} {g : Gh} {s : St} {a : Act} {w : World} (h : FR gl ph n B O g s a w) {x : ResultVar} {y : RV} {p : PV} (hx : rvOf P x = some y) (hp : rvVal s y = some p) :
    ∃ v, (rvRun a x).run P w = .ok v w ∧ XR g w s.objs p v := by
  cases x with
  | tmp t => cases hx; cases hp; exact ⟨_, rfl, h.env t⟩
  | cell b T =>
    simp only [rvOf] at hx
    split at hx
    · rename_i agg m ht
      cases hx
      simp only [rvVal] at hp
      split at hp
      · rename_i k st off hu
        have ex := h.env b
        rw [hu] at ex
        obtain ⟨_, ad, e1, e2⟩ := ex.ref_inv (by simp [PV.key])
        split at hp
        · rename_i s' cs hob
          split at hp
          · rename_i hs
            subst hs
            have hO := h.obj k
            rw [hob] at hO
            obtain ⟨arr, T', r1, r2, r3, r4⟩ := hO
            have e3 := e2 cs hob
            obtain ⟨v, hv1, hv2⟩ := XR.of_cells (s := s) (g := g) (w := w) (b := g.blk k) (o' := 0) (tyOf_ok ht) hp (fun j q hq => by
              obtain ⟨u, hu1, hu2, hu3⟩ := r4 j q hq
              exact ⟨u, by rw [Nat.zero_add, cell_of_heap r1]; exact hu1, hu2, hu3⟩)
            rw [Nat.zero_add] at hv1
            refine ⟨v, ?_, hv2⟩
            simp only [rvRun, e1, e3, asAddr, Sem.run_bind, Sem.run_pure, Result.andThen_ok]
            exact hv1
          · cases hp
        · cases hp
      · cases hp
    · cases hx

theorem rvs_run {P : Program} {n B : Nat} {O : Option Nat} {gl : Gl} {ph : Option (Nat × Value)} {g : Gh} {s : St} {a : Act} {w : World} (h : FR gl ph n B O g s a w) : ∀ {xs : List ResultVar} {ys : List RV} {ps : List PV}, rvsOf P xs = some ys → rvVals s ys = some ps →
    ∃ vs : List Value, (xs.mapM (rvRun a)).run P w = .ok vs w ∧ ps.length = vs.length ∧ ps.length = xs.length ∧
      (∀ (j : Nat) (x : ResultVar) (v : Value), xs[j]? = some x → vs[j]? = some v → (rvRun a x).run P w = .ok v w) ∧
      ∀ (j : Nat) (q : PV) (u : Value), ps[j]? = some q → vs[j]? = some u → XR g w s.objs q u
  | [], ys, ps, h1, h2 => by cases h1; cases h2; exact ⟨[], rfl, rfl, rfl, by simp, by simp⟩
  | x :: xs, ys, ps, h1, h2 => by
    simp only [rvsOf] at h1
    split at h1
    · rename_i y q hy hq
      cases h1
      simp only [rvVals] at h2
      split at h2
      · rename_i p ps' hp hps
        cases h2
        obtain ⟨v, hv1, hv2⟩ := rvOf_run h hy hp
        obtain ⟨vs, r1, r2, r3, r5, r4⟩ := rvs_run h hq hps
        refine ⟨v :: vs, ?_, by simp [r2], by simp [r3], fun j q u hj hu => ?_, fun j q u hj hu => ?_⟩
        · rw [List.mapM_cons, Sem.run_bind, hv1, Result.andThen_ok, Sem.run_bind, r1, Result.andThen_ok, Sem.run_pure]
        · cases j with
          | zero => simp at hj hu; subst hj; subst hu; exact hv1
          | succ j => exact r5 j q u (by simpa using hj) (by simpa using hu)
        · cases j with
          | zero => simp at hj hu; subst hj; subst hu; exact hv2
          | succ j => exact r4 j q u (by simpa using hj) (by simpa using hu)
      · cases h2
    · cases h1

theorem results_run {P : Program} {n B : Nat} {O : Option Nat} {gl : Gl} {ph : Option (Nat × Value)} {g : Gh} {s : St} {a : Act} {w : World} {fn : Func} (h : FR gl ph n B O g s a w) {ys : List RV} {ps : List PV} (h1 : rvsOf P fn.results.toList = some ys) (h2 : rvVals s ys = some ps) :
    ∃ vs : List Value, (results fn a.tmps).run P w = .ok (if h : vs.toArray.size = 1 then vs.toArray[0] else .tuple vs.toArray) w ∧ ps.length = vs.length ∧ fn.results.toList.length = vs.length ∧
      (∀ (j : Nat) (x : ResultVar) (v : Value), fn.results.toList[j]? = some x → vs[j]? = some v → (rvRun a x).run P w = .ok v w) ∧
      ∀ (j : Nat) (q : PV) (u : Value), ps[j]? = some q → vs[j]? = some u → XR g w s.objs q u := by
  obtain ⟨vs, r1, r2, r3, r5, r4⟩ := rvs_run h h1 h2
  refine ⟨vs, ?_, r2, by rw [← r3, r2], r5, r4⟩
  unfold results
  rw [Sem.run_bind]
  have : fn.results = fn.results.toList.toArray := by simp
  rw [this, List.mapM_toArray, map_eq_pure_bind, Sem.run_bind]
  exact (congrArg (fun r => (Result.andThen r (fun b w' => Sem.run P (pure b.toArray) w')).andThen (fun b w' => Sem.run P (pure (if h : b.size = 1 then b[0] else Value.tuple b)) w')) r1).trans rfl

end Go.Pf
/- Pure frames, part Y: a function's contract from the pure predicate transformer of its body. -/
namespace Go.Pf
open Go.RowKit

section
variable {P : Program} {n B : Nat} {O : Option Nat} {gl : Gl} {ph : Option (Nat × Value)} {a : Act} {w : World}

theorem rvVal_sh {env : Nat → PV} {ob0 ob : Nat → Obj} (h : Sh ob0 ob) (y : RV) : rvVal ⟨env, ob⟩ y = rvVal ⟨env, ob0⟩ y := by
  cases y with
  | tmp t => rfl
  | cell t agg m =>
    simp only [rvVal]
    split
    · rename_i k st off hu
      rcases h k with e | ⟨st', e, sz, es, e1, e2⟩
      · rw [e]
      · rw [e1, e2]
    · rfl

/-- Results that are handed back as they are. -/
theorem share_rvs {env : Nat → PV} {ob0 : Nat → Obj} : ∀ (xs : List ResultVar) (ys : List RV) (ps qs : List PV) (vs : List Value) (g : Gh) (ob : Nat → Obj), FR gl ph n B O g ⟨env, ob⟩ a w → Sh ob0 ob → rvsOf P xs = some ys → rvVals ⟨env, ob0⟩ ys = some ps →
    xs.length = vs.length → (∀ (j : Nat) (x : ResultVar) (v : Value), xs[j]? = some x → vs[j]? = some v → (rvRun a x).run P w = .ok v w) → pureAll ob0 ps = some qs →
    ∃ g', FR gl ph n B O g' ⟨env, updAll ob (ps.flatMap (shareVal ob0))⟩ a w ∧ PB B O g.c w g'.c w ∧ Ext g.c w g'.c w ∧ Sh ob0 (updAll ob (ps.flatMap (shareVal ob0))) ∧ qs.length = vs.length ∧
      ∀ (j : Nat) (q : PV) (u : Value), qs[j]? = some q → vs[j]? = some u → VR g'.c w q u
  | [], ys, ps, qs, vs, g, ob, h, hs, h1, h2, hl, _, hq => by
    cases h1; cases h2; cases hq
    exact ⟨g, h, PB.refl _ _ _ _, Ext.refl _ _, hs, hl, by simp⟩
  | x :: xs, ys, ps, qs, vs, g, ob, h, hs, h1, h2, hl, hr, hq => by
    simp only [rvsOf] at h1
    split at h1
    · rename_i y ys' hy hys
      cases h1
      simp only [rvVals] at h2
      split at h2
      · rename_i p ps' hp hps
        cases h2
        simp only [pureAll] at hq
        split at hq
        · rename_i q qs' hq1 hqs
          cases hq
          match vs, hl with
          | v :: vs, hl =>
            obtain ⟨v', hv1, hv2⟩ := rvOf_run h hy ((rvVal_sh hs y).trans hp)
            have hv : (rvRun a x).run P w = .ok v w := hr 0 x v rfl rfl
            have : v' = v := by
              have e : (rvRun a x).run P w = .ok v' w := hv1
              rw [hv] at e
              injection e with e1 _
              exact e1.symm
            subst this
            obtain ⟨g1, F1, PB1, E1, S1, V1⟩ := h.shareVal hs hv2 hq1
            obtain ⟨g2, F2, PB2, E2, S2, L2, V2⟩ := share_rvs xs ys' ps' qs' vs g1 _ F1 S1 hys hps (by simpa using hl) (fun j x v hx hv => hr (j + 1) x v (by simpa using hx) (by simpa using hv)) hqs
            refine ⟨g2, ?_, PB1.trans PB2, E1.trans E2, ?_, by simp [L2], fun j q u hj hu => ?_⟩
            · simp only [List.flatMap_cons, updAll_append]; exact F2
            · simp only [List.flatMap_cons, updAll_append]; exact S2
            · cases j with
              | zero => simp at hj hu; subst hj; subst hu; exact V1.mono E2
              | succ j => exact V2 j q u (by simpa using hj) (by simpa using hu)
        · cases hq
      · cases h2
    · cases h1
end
end Go.Pf
/- Pure frames, part Z: a function's contract from the pure predicate transformer of its body. -/
namespace Go.Pf
open Go.RowKit

section
variable {P : Program}

def headOwn : List PV → Bool
  | .own _ _ _ _ :: _ => true
  | _ => false

/-- The slice that is handed over. -/
def phOf : List PV → List Value → Option (Nat × Value)
  | .own _ _ _ es :: _, v :: _ => some (es.length, v)
  | _, _ => none

theorem init_env {args : List PV} {i : Nat} {p : PV} (h : args[i]? = some p) (hp : ∀ e sz raw es, p ≠ .own e sz raw es) : (initSt args).env i = p := by
  simp only [initSt, h]

theorem getD_args {vs : List Value} {n i : Nat} : (vs.toArray ++ Array.replicate (n - vs.toArray.size) undef).getD i undef = (vs[i]?).getD undef := by
  rw [Array.getD_eq_getD_getElem?, Array.getElem?_append]
  split
  · simp
  · rename_i h
    have : vs[i]? = none := by simp at h ⊢; omega
    rw [this, Array.getElem?_replicate]
    split <;> rfl

/-- The frame at the start. -/
theorem FR.start {c : Nat → Nat} {w : World} {args : List PV} {vs : List Value} {n : Nat} {gl : Gl} (hG : gl.p c w) (hA : ArgsR c w args vs) (hn : args.length ≤ n) :
    ∃ g, g.c = c ∧ FR gl (phOf args vs) n w.heap.size (ownBlk args vs) g (initSt args) { tmps := vs.toArray ++ Array.replicate (n - vs.toArray.size) undef, defers := [] } w := by
  obtain ⟨hl, hA⟩ := hA
  have henv : ∀ (g : Gh), g.c = c → (∀ e sz raw es r, args = .own e sz raw es :: r → ∃ v, vs[0]? = some v ∧ KR g w (initSt args).objs (.bld 0 0 0 es.length) v) →
      ∀ i, XR g w (initSt args).objs ((initSt args).env i) ((vs.toArray ++ Array.replicate (n - vs.toArray.size) undef).getD i undef) := by
    intro g hg h0 i
    rw [getD_args]
    cases hi : args[i]? with
    | none => left; simp [initSt, hi]
    | some p =>
      have hlt : i < vs.length := by rw [← hl]; exact (List.getElem?_eq_some_iff.1 hi).1
      have hv := List.getElem?_eq_getElem hlt
      have hr := hA i p _ hi hv
      rw [hv]
      by_cases hp : ∃ e sz raw es, p = .own e sz raw es
      · obtain ⟨e, sz, raw, es, rfl⟩ := hp
        cases i with
        | zero =>
          match args, hi with
          | q :: r, hi =>
            have : q = .own e sz raw es := by simpa using hi
            subst this
            obtain ⟨v, h1, h2⟩ := h0 e sz raw es r rfl
            rw [hv] at h1
            cases h1
            refine .inr (.inl ?_)
            simpa [initSt] using h2
        | succ i => left; simp [initSt, hi]
      · have hp' : ∀ e sz raw es, p ≠ .own e sz raw es := fun e sz raw es he => hp ⟨e, sz, raw, es, he⟩
        rw [init_env hi hp']
        refine .inr (.inl (.inl ?_))
        rw [hg]
        cases p with
        | own e sz raw es => exact absurd rfl (hp' e sz raw es)
        | _ => exact hr
  have hsize : (vs.toArray ++ Array.replicate (n - vs.toArray.size) undef).size = n := by simp; omega
  by_cases ho : headOwn args = true
  · match args, ho with
    | .own e sz raw es :: r, _ =>
      match vs, hl with
      | v :: vr, hl =>
        obtain ⟨b, cap, arr, rfl, h1, h2, h3, h4, h5, h6, h7, h8⟩ : OwnR c w v e sz raw es := hA 0 _ _ rfl rfl
        have hob : (initSt (.own e sz raw es :: r)).objs 0 = .bld 0 e sz es raw := rfl
        have hno : ∀ k, k ≠ 0 → (initSt (.own e sz raw es :: r)).objs k = .no 0 := by
          intro k hk
          cases k with
          | zero => exact absurd rfl hk
          | succ k => rfl
        have href : RefR ⟨c, fun _ => b, fun _ => cap⟩ (initSt (.own e sz raw es :: r)).objs (.bld 0 0 0 es.length) (.slice (some ⟨b, 0, none⟩) es.length cap) := by
          refine ⟨by rw [hob]; exact Nat.le_refl _, b, 0, cap, rfl, h3, h4, fun e' sz' es' raw' he' => ?_⟩
          rw [hob] at he'
          cases he'
          exact ⟨by omega, rfl, by simp, fun _ => rfl⟩
        refine ⟨⟨c, fun _ => b, fun _ => cap⟩, rfl, hsize, rfl, Nat.le_refl _, henv _ rfl ?_, fun k => ?_, fun k k' hk hk' _ => ?_, fun k hk => ?_, fun l v hv => ?_, hG⟩
        · intro e' sz' raw' es' r' he
          cases he
          exact ⟨_, rfl, .inr href⟩
        · by_cases hk : k = 0
          · subst hk; rw [hob]; exact ⟨arr, h1, h2, h3, h4, h5, h6, h7, h8⟩
          · rw [hno k hk]; trivial
        · have : ∀ k, ((initSt (.own e sz raw es :: r)).objs k).live → k = 0 := by
            intro k hk
            rcases Nat.eq_zero_or_pos k with h | h
            · exact h
            · rw [hno k (by omega)] at hk; exact hk.elim
          rw [this k hk, this k' hk']
        · refine ⟨.inr rfl, ?_⟩
          exact (Array.getElem?_eq_some_iff.1 h1).1
        · cases hv; exact href
  · have hno : ∀ k, (initSt args).objs k = .no 0 := by
      intro k
      match k, args, ho with
      | 0, [], _ => rfl
      | 0, .own _ _ _ _ :: _, ho => exact absurd rfl ho
      | 0, .undef :: _, _ => rfl
      | 0, .sc _ :: _, _ => rfl
      | 0, .agg _ :: _, _ => rfl
      | 0, .tup _ :: _, _ => rfl
      | 0, .lst _ _ :: _, _ => rfl
      | 0, .eptr _ _ :: _, _ => rfl
      | 0, .bptr _ _ _ :: _, _ => rfl
      | 0, .bld _ _ _ _ :: _, _ => rfl
      | 0, .kptr _ _ _ _ :: _, _ => rfl
      | k + 1, _, _ => rfl
    refine ⟨⟨c, fun _ => 0, fun _ => 0⟩, rfl, hsize, rfl, Nat.le_refl _, henv _ rfl ?_, fun k => by rw [hno k]; trivial, fun k k' hk => ?_, fun k hk => ?_, fun l v hv => ?_, hG⟩
    · intro e sz raw es r he; subst he; exact absurd rfl ho
    · rw [hno k] at hk; exact hk.elim
    · rw [hno k] at hk; exact hk.elim
    · exfalso
      match args, vs, ho, hv with
      | .own _ _ _ _ :: _, _, ho, _ => exact absurd rfl ho
end
end Go.Pf
/- Pure frames, second part A: a function's contract from the pure predicate transformer of its body. -/
namespace Go.Pf
open Go.RowKit

section
variable {P : Program}

theorem rvVals_len {s : St} : ∀ {ys : List RV} {ps : List PV}, rvVals s ys = some ps → ps.length = ys.length
  | [], ps, h => by cases h; rfl
  | y :: ys, ps, h => by
    simp only [rvVals] at h
    split at h
    · rename_i p q h1 h2; cases h; simp [rvVals_len h2]
    · cases h
theorem rvsOf_len : ∀ {xs : List ResultVar} {ys : List RV}, rvsOf P xs = some ys → ys.length = xs.length
  | [], ys, h => by cases h; rfl
  | x :: xs, ys, h => by
    simp only [rvsOf] at h
    split at h
    · rename_i p q h1 h2; cases h; simp [rvsOf_len h2]
    · cases h

/-- One value or a tuple. -/
def packV (vs : List Value) : Value := if h : vs.toArray.size = 1 then vs.toArray[0] else .tuple vs.toArray

theorem packV_one (v : Value) : packV [v] = v := rfl
theorem packV_many {vs : List Value} (h : vs.length ≠ 1) : packV vs = .tuple vs.toArray := by simp [packV, h]

theorem ResR.of_VR {c : Nat → Nat} {w : World} {may : Nat → Prop} {p : PV} {v : Value} (h : VR c w p v) : ResR c w may p v := by
  cases p with
  | own e sz raw es => cases h
  | tup ps => cases h
  | _ => exact h

theorem ResR.of_pack {c : Nat → Nat} {w : World} {may : Nat → Prop} {qs : List PV} {vs : List Value} (hl : qs.length = vs.length) (h : ∀ (j : Nat) (q : PV) (u : Value), qs[j]? = some q → vs[j]? = some u → VR c w q u) : ResR c w may (pack qs) (packV vs) := by
  by_cases h1 : qs.length = 1
  · match qs, h1 with
    | [q], _ =>
      match vs, hl with
      | [v], _ => rw [packV_one]; exact ResR.of_VR (h 0 q v rfl rfl)
  · have e : pack qs = .tup qs := by
      match qs, h1 with
      | [], _ => rfl
      | [q], h1 => exact absurd rfl h1
      | _ :: _ :: _, _ => rfl
    rw [e, packV_many (by omega)]
    exact ⟨vs, rfl, hl, fun i p u hp hu => .inl (h i p u hp hu)⟩

theorem ResR.of_own {c : Nat → Nat} {w : World} {may : Nat → Prop} {e sz : Nat} {raw : Bool} {es : List (List PV)} {v : Value} {qs : List PV} {vs : List Value} (ho : OwnR c w v e sz raw es) (hm : ∀ (a : Addr) (l cap : Nat), v = .slice (some a) l cap → may a.block) (hl : qs.length = vs.length)
    (h : ∀ (j : Nat) (q : PV) (u : Value), qs[j]? = some q → vs[j]? = some u → VR c w q u) : ResR c w may (pack (.own e sz raw es :: qs)) (packV (v :: vs)) := by
  match qs, vs, hl with
  | [], [], _ => exact ⟨ho, hm⟩
  | q :: qs, u :: vs, hl =>
    rw [packV_many (by simp)]
    refine ⟨v :: u :: vs, rfl, by simpa using hl, fun i p x hp hx => ?_⟩
    cases i with
    | zero =>
      simp at hp hx
      subst hp; subst hx
      exact .inr ⟨rfl, e, sz, raw, es, rfl, ho, hm⟩
    | succ i => exact .inl (h i p x (by simpa using hp) (by simpa using hx))

/-- A function's contract. -/
theorem RC_of_pw {gl : Gl} {H : Hints} {f : Nat} {fn : Func} {body : Code} {m : Mode} {args : List PV} {res : PV} {out : List (List PV)} (own : Bool) (rvs : List RV) (hmix : P.follows .mixedOrders = true) (hf : P.funcs[f]? = some fn) (hb : fn.body = some body)
    (hname : (fn.name == "runtime.NumGoroutine") = false) (hn : args.length ≤ fn.ntmps) (hrv : rvsOf P fn.results.toList = some rvs) (hown : m = .imm → headOwn args = false)
    (hp : pw gl P (comp P H fn.ntmps body) (Fin own rvs m args res out) (initSt args)) : RC gl P f m args res out := by
  refine ⟨⟨fn, hf, hname, by rw [hb]; rfl⟩, fun c w vs hG hA => ?_⟩
  obtain ⟨g0, hg0, F0⟩ := FR.start hG hA hn
  refine calls_of_wp hf hb ?_
  refine sim_code (c0 := c) (w0 := w) hmix body (Fin own rvs m args res out) _ g0 (initSt args) _ w hp F0 (by rw [hg0]; exact PB.refl _ _ _ _) ?_
  have key : ∀ g' s' a' w', (∃ vals, rvVals s' rvs = some vals ∧ resOf own s'.objs vals = some res ∧ (m = .inout → own = false ∧ OutOk args (resObs own s'.objs vals) out)) → FR gl (phOf args vs) fn.ntmps w.heap.size (ownBlk args vs) g' s' a' w' → PB w.heap.size (ownBlk args vs) c w g'.c w' →
      a'.defers = [] ∧ ∃ v, (results fn a'.tmps).run P w' = .ok v w' ∧ ∃ v' c', Ending.returned v = .returned v' ∧ Pres c w c' w' (ownBlk args vs) ∧ ResR c' w' (fun b => w.heap.size ≤ b ∨ m = .eat ∧ ownBlk args vs = some b) res v' ∧
        (m = .inout → ∀ e sz raw es r v0 vr, args = .own e sz raw es :: r → vs = v0 :: vr → OwnR c' w' v0 e sz raw out) := by
    rintro g ⟨env, ob⟩ a w' ⟨vals, hv1, hv2, hv3⟩ hF hP
    obtain ⟨us, hu1, hu2, hu3, hu4, hu5⟩ := results_run (fn := fn) hF hrv hv1
    have hPres : ∀ {c'' : Nat → Nat}, PB w.heap.size (ownBlk args vs) g.c w' c'' w' → Pres c w c'' w' (ownBlk args vs) := fun h2 =>
      have h3 := hP.trans h2
      ⟨h3.os, h3.tape, h3.output, h3.size, h3.block, h3.c⟩
    cases own with
    | false =>
      simp only [resOf, Bool.false_eq_true, if_false, Option.map_eq_some_iff] at hv2
      obtain ⟨qs, hq, rfl⟩ := hv2
      obtain ⟨g2, F2, PB2, _, _, L2, V2⟩ := share_rvs fn.results.toList rvs vals qs us g ob hF (Sh.refl ob) hrv hv1 hu3 hu4 hq
      refine ⟨hF.defers, packV us, hu1, packV us, g2.c, rfl, hPres PB2, ResR.of_pack L2 V2, fun hm e sz raw es r v0 vr ha hvs => ?_⟩
      subst ha; subst hvs
      obtain ⟨_, hob, hlen⟩ := hv3 hm
      simp only [resObs, Bool.false_eq_true, if_false] at hob
      have hO := F2.obj 0
      have hH := F2.home es.length v0 rfl
      simp only at hO hH
      rw [hob] at hO
      obtain ⟨arr, r1, r2, r3, r4, r5, r6, r7, r8⟩ := hO
      obtain ⟨_, b, o, cap, rfl, h3, h4, h5⟩ := hH
      obtain ⟨q1, q2, q3, q4⟩ := h5 e sz out raw hob
      have q3' := q3 (.inr rfl)
      have q4' := q4 rfl
      rw [Nat.zero_mul] at q3'
      subst q2; subst q3'; subst q4'
      exact ⟨_, _, arr, by rw [hlen], r1, r2, r3, r4, r5, r6, r7, r8⟩
    | true =>
      simp only [resOf, if_true] at hv2
      split at hv2
      · rename_i k st len r
        split at hv2
        · rename_i st' e sz es raw qs hok hq
          split at hv2
          · rename_i hc
            obtain ⟨rfl, hlen, hall⟩ := hc
            cases hv2
            match hxs : fn.results.toList, rvs, us with
            | [], _, _ => rw [hxs] at hrv; cases hrv; cases hv1
            | _ :: _, [], _ => cases hv1
            | _ :: _, _ :: _, [] => simp at hu2
            | x0 :: xs, y0 :: ys, u0 :: ur =>
              rw [hxs] at hrv hu3 hu4
              have hrv' : rvOf P x0 = some y0 ∧ rvsOf P xs = some ys := by
                simp only [rvsOf] at hrv
                split at hrv
                · rename_i h1 h2; cases hrv; exact ⟨h1, h2⟩
                · cases hrv
              have hv1' : rvVal ⟨env, ob⟩ y0 = some (.bld k st 0 len) ∧ rvVals ⟨env, ob⟩ ys = some r := by
                simp only [rvVals] at hv1
                split at hv1
                · rename_i h1 h2; cases hv1; exact ⟨h1, h2⟩
                · cases hv1
              obtain ⟨g2, F2, PB2, _, S2, L2, V2⟩ := share_rvs xs ys r qs ur g ob hF (Sh.refl ob) hrv'.2 hv1'.2 (by simpa using hu3) (fun j x v hx hv => hu4 (j + 1) x v (by simpa using hx) (by simpa using hv)) hq
              obtain ⟨v', hr1, hr2⟩ := rvOf_run F2 hrv'.1 ((rvVal_sh S2 y0).trans hv1'.1)
              have hr0 : (rvRun a x0).run P w' = .ok u0 w' := hu4 0 x0 u0 rfl rfl
              have ev : v' = u0 := by
                have e : (rvRun a x0).run P w' = .ok v' w' := hr1
                rw [hr0] at e
                injection e with e1 _
                exact e1.symm
              subst ev
              have hob2 : updAll ob (r.flatMap (shareVal ob)) k = .bld st e sz es raw := by
                rw [updAll_ne _ _ _ ?_, hok]
                intro u hu he
                obtain ⟨p, hp1, hp2⟩ := List.mem_flatMap.1 hu
                rw [List.all_eq_true] at hall
                have h1 := hall p hp1
                have h2 := shareVal_keys hp2
                rw [he] at h2
                simp [h2] at h1
              obtain ⟨_, b, o, cap, rfl, h3, h4, h5⟩ := hr2.ref_inv (by simp [PV.key])
              obtain ⟨q1, q2, q3, q4⟩ := h5 e sz es raw hob2
              have q3' := q3 (.inr rfl)
              have q4' := q4 rfl
              rw [Nat.zero_mul] at q3'
              subst q2; subst q3'; subst q4'
              have hO := F2.obj k
              simp only at hO
              rw [hob2] at hO
              obtain ⟨arr, r1, r2, r3, r4, r5, r6, r7, r8⟩ := hO
              have hfr := (F2.fresh k (by show (updAll ob (r.flatMap (shareVal ob)) k).live; rw [hob2]; trivial)).1
              have hle : len ≤ es.length := by rcases hlen with h | ⟨_, h⟩ <;> omega
              have htk : ∀ (i : Nat) (cs : List PV), (es.take len)[i]? = some cs → es[i]? = some cs := by
                intro i cs hi
                rw [List.getElem?_take] at hi
                split at hi
                · exact hi
                · cases hi
              have hlt : (es.take len).length = len := by simp; omega
              refine ⟨hF.defers, packV (_ :: ur), hu1, packV (_ :: ur), g2.c, rfl, hPres PB2, ResR.of_own (es := es.take len) ⟨g2.blk k, g2.cap k, arr, by rw [hlt], r1, r2, by rw [hlt]; exact h3, r4, fun i cs hi => r5 i cs (htk i cs hi), fun i j cs q hi hj => r6 i j cs q (htk i cs hi) hj, r7, by
                rw [hlt]
                rcases hlen with h | ⟨h, _⟩
                · rw [h]; exact r8
                · rw [r7 h]; omega⟩ ?_ L2 V2, fun hm => ?_⟩
              · intro ad l cp he
                cases he
                rcases hfr with h | h
                · exact .inl h
                · refine .inr ⟨?_, h⟩
                  cases m with
                  | eat => rfl
                  | inout => exact absurd (hv3 rfl).1 (by simp)
                  | imm =>
                    have := hown rfl
                    match args, vs, this, h with
                    | .own _ _ _ _ :: _, _, this, _ => cases this
              · exact absurd (hv3 hm).1 (by simp)
          · cases hv2
        · cases hv2
      · cases hv2
  intro x g' s' a' w' hk hF hP
  cases x with
  | exit i => exact hk.elim
  | normal => exact key g' s' a' w' hk hF hP
  | ret => exact key g' s' a' w' hk hF hP
end
end Go.Pf

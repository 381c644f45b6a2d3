/- Pure frames, second part B: a pure interpreter; what it computes is what the functions return. -/
import Derived.Test.YthiipifjdfmblaaGreatDoorPgA
set_option linter.unusedVariables false
set_option linter.unusedSimpArgs false
namespace Go.Pf
open Go.RowKit

/-- A tree of values, by the binary digits of the place. -/
inductive Tr (α : Type) where
  | tip (v : α)
  | br (l r : Tr α)

noncomputable def Tr.get {α : Type} (t : Tr α) : Nat → α :=
  @Tr.rec α (fun _ => Nat → α) (fun v _ => v) (fun _ _ gl gr i => bif Nat.beq (Nat.mod i 2) 0 then gl (Nat.div i 2) else gr (Nat.div i 2)) t

noncomputable def Tr.set {α : Type} (v : α) (t : Tr α) : Nat → Tr α :=
  @Tr.rec α (fun _ => Nat → Tr α) (fun _ _ => .tip v) (fun l r sl sr i => bif Nat.beq (Nat.mod i 2) 0 then .br (sl (Nat.div i 2)) r else .br l (sr (Nat.div i 2))) t

theorem Tr.get_br {α : Type} (l r : Tr α) (i : Nat) : (Tr.br l r).get i = bif Nat.beq (i % 2) 0 then l.get (i / 2) else r.get (i / 2) := rfl
theorem Tr.set_br {α : Type} (v : α) (l r : Tr α) (i : Nat) : (Tr.br l r).set v i = bif Nat.beq (i % 2) 0 then .br (l.set v (i / 2)) r else .br l (r.set v (i / 2)) := rfl

def Tr.ok {α : Type} : Nat → Tr α → Prop
  | 0, .tip _ => True
  | d + 1, .br l r => l.ok d ∧ r.ok d
  | _, _ => False

def Tr.mk {α : Type} : Nat → (Nat → α) → Tr α
  | 0, f => .tip (f 0)
  | d + 1, f => .br (Tr.mk d fun i => f (2 * i)) (Tr.mk d fun i => f (2 * i + 1))

theorem Tr.mk_ok {α : Type} : ∀ (d : Nat) (f : Nat → α), (Tr.mk d f).ok d
  | 0, _ => trivial
  | d + 1, _ => ⟨Tr.mk_ok d _, Tr.mk_ok d _⟩

theorem beq_two (i : Nat) : Nat.beq (i % 2) 0 = decide (i % 2 = 0) := by
  rw [Bool.eq_iff_iff]; simp

theorem Tr.get_mk {α : Type} : ∀ (d : Nat) (f : Nat → α) (i : Nat), i < 2 ^ d → (Tr.mk d f).get i = f i
  | 0, f, i, h => by
    have : i = 0 := by simpa using h
    subst this; rfl
  | d + 1, f, i, h => by
    have h2 : i / 2 < 2 ^ d := by rw [Nat.pow_succ] at h; omega
    simp only [Tr.mk, Tr.get_br, beq_two]
    by_cases hp : i % 2 = 0
    · simp only [hp, decide_true, cond_true]
      rw [Tr.get_mk d _ _ h2]; congr 1; omega
    · simp only [hp, decide_false, cond_false]
      rw [Tr.get_mk d _ _ h2]; congr 1; omega

theorem Tr.set_ok {α : Type} (v : α) : ∀ (d : Nat) (t : Tr α) (i : Nat), t.ok d → (t.set v i).ok d
  | 0, .tip _, _, _ => trivial
  | d + 1, .br l r, i, h => by
    simp only [Tr.set_br, beq_two]
    by_cases hp : i % 2 = 0
    · simp only [hp, decide_true, cond_true]; exact ⟨Tr.set_ok v d l _ h.1, h.2⟩
    · simp only [hp, decide_false, cond_false]; exact ⟨h.1, Tr.set_ok v d r _ h.2⟩
  | 0, .br _ _, _, h => h.elim
  | _ + 1, .tip _, _, h => h.elim

theorem Tr.get_set {α : Type} (v : α) : ∀ (d : Nat) (t : Tr α) (i j : Nat), t.ok d → i < 2 ^ d → j < 2 ^ d → (t.set v i).get j = if j = i then v else t.get j
  | 0, .tip _, i, j, _, hi, hj => by
    have h1 : i = 0 := by simpa using hi
    have h2 : j = 0 := by simpa using hj
    subst h1; subst h2; rfl
  | d + 1, .br l r, i, j, h, hi, hj => by
    have hi2 : i / 2 < 2 ^ d := by rw [Nat.pow_succ] at hi; omega
    have hj2 : j / 2 < 2 ^ d := by rw [Nat.pow_succ] at hj; omega
    have hl := Tr.get_set v d l (i / 2) (j / 2) h.1 hi2 hj2
    have hr := Tr.get_set v d r (i / 2) (j / 2) h.2 hi2 hj2
    simp only [Tr.set_br, beq_two]
    by_cases hp : i % 2 = 0
    · simp only [hp, decide_true, cond_true, Tr.get_br, beq_two]
      by_cases hq : j % 2 = 0
      · simp only [hq, decide_true, cond_true, hl]
        by_cases e : j = i
        · subst e; simp
        · rw [if_neg (by omega), if_neg e]
      · simp only [hq, decide_false, cond_false]
        rw [if_neg (by intro e; subst e; exact hq hp)]
    · simp only [hp, decide_false, cond_false, Tr.get_br, beq_two]
      by_cases hq : j % 2 = 0
      · simp only [hq, decide_true, cond_true]
        rw [if_neg (by intro e; subst e; exact hp hq)]
      · simp only [hq, decide_false, cond_false, hr]
        by_cases e : j = i
        · subst e; simp
        · rw [if_neg (by omega), if_neg e]
  | 0, .br _ _, _, _, h, _, _ => h.elim
  | _ + 1, .tip _, _, _, h, _, _ => h.elim

/-- The state of the interpreter: how many places; the slots; the objects. -/
structure RS where
  n : Nat
  env : Tr PV
  objs : Tr Obj

noncomputable def RS.ev (s : RS) : Nat → PV := fun i => bif Nat.blt i s.n then s.env.get i else .undef
noncomputable def RS.ob (s : RS) : Nat → Obj := fun i => bif Nat.blt i s.n then s.objs.get i else .no 0
noncomputable def RS.st (s : RS) : St := ⟨s.ev, s.ob⟩
def RS.ok (s : RS) : Prop := ∃ d, s.n = 2 ^ d ∧ s.env.ok d ∧ s.objs.ok d

noncomputable def RS.put (s : RS) (d : Option Nat) (v : PV) : Option RS :=
  match d with
  | none => some s
  | some d => bif Nat.blt d s.n then some ⟨s.n, s.env.set v d, s.objs⟩ else none

noncomputable def RS.upds (s : RS) : List (Nat × Obj) → Option RS
  | [] => some s
  | (k, o) :: r => bif Nat.blt k s.n then RS.upds ⟨s.n, s.env, s.objs.set o k⟩ r else none

theorem blt_iff (a b : Nat) : Nat.blt a b = decide (a < b) := by
  rw [Bool.eq_iff_iff]; simp [Nat.blt_eq]

theorem RS.put_ok {s s' : RS} {d : Option Nat} {v : PV} (h : s.put d v = some s') (hs : s.ok) : s'.ok ∧ s'.st = ⟨Pf.put s.ev d v, s.ob⟩ := by
  cases d with
  | none => cases h; exact ⟨hs, rfl⟩
  | some d =>
    simp only [RS.put, blt_iff] at h
    by_cases hd : d < s.n
    · simp only [hd, decide_true, cond_true, Option.some.injEq] at h
      subst h
      obtain ⟨e, h1, h2, h3⟩ := hs
      refine ⟨⟨e, h1, Tr.set_ok _ _ _ _ h2, h3⟩, ?_⟩
      show St.mk _ _ = St.mk _ _
      congr 1
      funext i
      simp only [RS.ev, Pf.put, upd, blt_iff]
      by_cases hi : i < s.n
      · simp only [hi, decide_true, cond_true]
        exact Tr.get_set v e s.env d i h2 (by rw [← h1]; exact hd) (by rw [← h1]; exact hi)
      · simp only [hi, decide_false, cond_false]
        rw [if_neg (by intro e; subst e; exact hi hd)]
    · simp [hd] at h

theorem RS.upds_ok : ∀ {us : List (Nat × Obj)} {s s' : RS}, s.upds us = some s' → s.ok → s'.ok ∧ s'.st = ⟨s.ev, updAll s.ob us⟩
  | [], s, s', h, hs => by cases h; exact ⟨hs, rfl⟩
  | (k, o) :: r, s, s', h, hs => by
    simp only [RS.upds, blt_iff] at h
    by_cases hd : k < s.n
    · simp only [hd, decide_true, cond_true] at h
      obtain ⟨e, h1, h2, h3⟩ := hs
      obtain ⟨q1, q2⟩ := RS.upds_ok h ⟨e, h1, h2, Tr.set_ok _ _ _ _ h3⟩
      refine ⟨q1, ?_⟩
      rw [q2]
      simp only [St.mk.injEq]
      refine ⟨rfl, ?_⟩
      simp only [updAll]
      congr 1
      funext i
      simp only [RS.ob, upd, blt_iff]
      by_cases hi : i < s.n
      · simp only [hi, decide_true, cond_true]
        exact Tr.get_set o e s.objs k i h3 (by rw [← h1]; exact hd) (by rw [← h1]; exact hi)
      · simp only [hi, decide_false, cond_false]
        rw [if_neg (by intro e; subst e; exact hi hd)]
    · simp [hd] at h

abbrev CallF := Nat → Mode → List PV → Option (PV × List (List PV))

def metB (draw : Bool) (o : POper) (ev : Operand → PV) : Bool := !draw || !o.r.looks || o.r.opnds.all fun x => (ev x).keys.all fun k => o.rk.contains k
def turnedB (draw : Bool) (o : POper) (us : List (Nat × Obj)) : Bool := !draw || us.all fun u => o.wk.contains u.1

theorem metB_ok {draw : Bool} {o : POper} {ev : Operand → PV} (h : metB draw o ev = true) : metOk draw o ev := by
  intro hd hl x hx k hk
  subst hd
  simp only [metB, hl, Bool.not_true, Bool.false_or, List.all_eq_true] at h
  simpa using h x hx k hk
theorem turnedB_ok {draw : Bool} {o : POper} {us : List (Nat × Obj)} (h : turnedB draw o us = true) : turnedOk draw o us := by
  intro hd u hu
  subst hd
  simp only [turnedB, Bool.not_true, Bool.false_or, List.all_eq_true] at h
  simpa using h u hu

/-- One step behind what an operation gives. -/
noncomputable def RS.step (s : RS) (draw : Bool) (o : POper) (v : PV) (us : List (Nat × Obj)) : Option RS :=
  if turnedB draw o us then
    match s.upds us with
    | some s' => s'.put o.dst v
    | none => none
  else none

theorem RS.step_ok {s s' : RS} {draw : Bool} {o : POper} {v : PV} {us : List (Nat × Obj)} (h : s.step draw o v us = some s') (hs : s.ok) : s'.ok ∧ turnedOk draw o us ∧ s'.st = ⟨Pf.put s.ev o.dst v, updAll s.ob us⟩ := by
  unfold RS.step at h
  split at h
  · rename_i ht
    split at h
    · rename_i s1 h1
      obtain ⟨a1, a2⟩ := RS.upds_ok h1 hs
      obtain ⟨b1, b2⟩ := RS.put_ok h a1
      refine ⟨b1, turnedB_ok ht, ?_⟩
      rw [b2]
      have e1 : s1.ev = s.ev := congrArg St.env a2
      have e2 : s1.ob = updAll s.ob us := congrArg St.objs a2
      rw [e1, e2]
    · cases h
  · cases h

noncomputable def runOp (call : CallF) (draw : Bool) (o : POper) (s : RS) : Option RS :=
  match wantedIn s.ev o.guard with
  | some true =>
    if metB draw o (evalIn s.ev) then
      match o.r with
      | .call f args modes =>
        match evalIn s.ev f with
        | .sc (.func (.func fid) _ _) =>
          match prep (evalIn s.ev) s.ob (headMode modes) args with
          | some (ps, us) =>
            match call fid (headMode modes) ps with
            | some (res, out) =>
              match adopt s.ob (o.dst.getD 0) res with
              | (v, us2) => s.step draw o v (us ++ outUpd s.ob (headMode modes) (firstOf (evalIn s.ev) args) out ++ us2)
            | none => none
          | none => none
        | _ => none
      | r =>
        match pop (evalIn s.ev) s.ob (o.dst.getD 0) r with
        | some (v, us) => s.step draw o v us
        | none => none
    else none
  | some false => s.put o.dst (.tup [])
  | none => none

section
variable {gl : Gl} {P : Program} {call : CallF}

theorem runOp_ok (hcall : ∀ f m args res out, call f m args = some (res, out) → RC gl P f m args res out) {draw : Bool} {o : POper} {s s' : RS} (h : runOp call draw o s = some s') (hs : s.ok) {K : St → Prop} (hK : K s'.st) : s'.ok ∧ pwOp gl P draw o s.st K := by
  unfold runOp at h
  unfold pwOp
  change s'.ok ∧ match wantedIn s.ev o.guard with | some true => _ | some false => _ | none => _
  split at h
  · rename_i hw
    split at h
    · rename_i hmet
      split at h
      · rename_i f args modes hr
        split at h
        · rename_i fid x y hf
          split at h
          · rename_i ps us hprep
            split at h
            · rename_i res out hc
              have hRC := hcall _ _ _ _ _ hc
              change RS.step s draw o (adopt s.ob (o.dst.getD 0) res).1 (us ++ outUpd s.ob (headMode modes) (firstOf (evalIn s.ev) args) out ++ (adopt s.ob (o.dst.getD 0) res).2) = some s' at h
              obtain ⟨a1, a2, a3⟩ := RS.step_ok h hs
              refine ⟨a1, metB_ok hmet, ?_⟩
              simp only [hr]
              change match evalIn s.ev f with | .sc (.func (.func fid) _ _) => _ | _ => _
              rw [hf]
              simp only []
              change match prep (evalIn s.ev) s.ob (headMode modes) args with | some (ps, us) => _ | none => _
              rw [hprep]
              refine ⟨res, out, hRC, a2, ?_⟩
              rw [a3] at hK
              exact hK
            · cases h
          · cases h
        · cases h
      · split at h
        · rename_i hne _ v us hp
          obtain ⟨a1, a2, a3⟩ := RS.step_ok h hs
          refine ⟨a1, metB_ok hmet, ?_⟩
          have key : (match pop (evalIn s.ev) s.ob (o.dst.getD 0) o.r with
            | some (v, us) => turnedOk draw o us ∧ K ⟨put s.ev o.dst v, updAll s.ob us⟩
            | none => False) := by
            rw [hp]
            refine ⟨a2, ?_⟩
            rw [a3] at hK
            exact hK
          revert key
          cases hor : o.r with
          | call f args modes => exact absurd hor (hne f args modes)
          | _ => exact fun k => k
        · cases h
    · cases h
  · rename_i hw
    obtain ⟨a1, a2⟩ := RS.put_ok h hs
    refine ⟨a1, ?_⟩
    rw [a2] at hK
    exact hK
  · cases h

noncomputable def runOps (call : CallF) (draw : Bool) : List POper → RS → Option RS
  | [], s => some s
  | o :: os, s => match runOp call draw o s with
    | some s' => runOps call draw os s'
    | none => none

theorem runOps_ok (hcall : ∀ f m args res out, call f m args = some (res, out) → RC gl P f m args res out) {draw : Bool} : ∀ {os : List POper} {s s' : RS}, runOps call draw os s = some s' → s.ok → ∀ {K : St → Prop}, K s'.st → s'.ok ∧ pwOps gl P draw os s.st K
  | [], s, s', h, hs, K, hK => by cases h; exact ⟨hs, hK⟩
  | o :: os, s, s', h, hs, K, hK => by
    simp only [runOps] at h
    split at h
    · rename_i s1 h1
      have ok1 : s1.ok := (runOp_ok hcall h1 hs (K := fun _ => True) trivial).1
      obtain ⟨a1, a2⟩ := runOps_ok hcall h ok1 hK
      exact ⟨a1, (runOp_ok hcall h1 hs (K := fun s' => pwOps gl P draw os s' K) a2).2⟩
    · cases h

def loopRun (body : RS → Option (PX × RS)) : Nat → RS → Option (PX × RS)
  | 0, _ => none
  | n + 1, s => match body s with
    | some (.normal, s') => loopRun body n s'
    | r => r

noncomputable def runC (call : CallF) (k : Nat) : PC → RS → Option (PX × RS)
  | .skip, s => some (.normal, s)
  | .region draw ops, s => match runOps call draw ops s with
    | some s' => some (.normal, s')
    | none => none
  | .seq a b, s => match runC call k a s with
    | some (.normal, s') => runC call k b s'
    | r => r
  | .cond c a b, s => match evalIn s.ev c with
    | .sc (.bool true) => runC call k a s
    | .sc (.bool false) => runC call k b s
    | _ => none
  | .block id b, s => match runC call k b s with
    | some (.exit i, s') => if i = id then some (.normal, s') else some (.exit i, s')
    | r => r
  | .loop b, s => loopRun (runC call k b) k s
  | .exit id, s => some (.exit id, s)
  | .ret, s => some (.ret, s)

theorem loop_ok {F : (PX → St → Prop) → St → Prop} {body : RS → Option (PX × RS)} (hb : ∀ (s : RS) (x : PX) (s' : RS), body s = some (x, s') → s.ok → ∀ {Q : PX → St → Prop}, Q x s'.st → s'.ok ∧ F Q s.st) :
    ∀ (n : Nat) (s : RS) (x : PX) (s' : RS), loopRun body n s = some (x, s') → s.ok → ∀ {Q : PX → St → Prop}, (x ≠ .normal → Q x s'.st) → s'.ok ∧ x ≠ .normal ∧ rounds F Q n s.st
  | 0, s, x, s', h, _, _, _ => by cases h
  | n + 1, s, x, s', h, hs, Q, hQ => by
    simp only [loopRun] at h
    split at h
    · rename_i s1 h1
      have ok1 : s1.ok := (hb s .normal s1 h1 hs (Q := fun _ _ => True) trivial).1
      obtain ⟨a1, a2, a3⟩ := loop_ok hb n s1 x s' h ok1 hQ
      exact ⟨a1, a2, (hb s .normal s1 h1 hs (Q := thenX (rounds F Q n) Q) a3).2⟩
    · rename_i hne
      have hx : x ≠ .normal := by
        intro e; subst e
        exact hne s' h
      have hQ' : thenX (rounds F Q n) Q x s'.st := by
        cases x with
        | normal => exact absurd rfl hx
        | exit i => exact hQ hx
        | ret => exact hQ hx
      obtain ⟨a1, a2⟩ := hb s x s' h hs (Q := thenX (rounds F Q n) Q) hQ'
      exact ⟨a1, hx, a2⟩

theorem runC_ok (hcall : ∀ f m args res out, call f m args = some (res, out) → RC gl P f m args res out) {k : Nat} : ∀ (c : PC) (s : RS) (x : PX) (s' : RS), runC call k c s = some (x, s') → s.ok → ∀ {Q : PX → St → Prop}, Q x s'.st → s'.ok ∧ pw gl P c Q s.st := by
  intro c
  induction c with
  | skip => intro s x s' h hs Q hQ; cases h; exact ⟨hs, hQ⟩
  | region draw ops =>
    intro s x s' h hs Q hQ
    simp only [runC] at h
    split at h
    · rename_i s1 h1
      cases h
      exact runOps_ok hcall h1 hs (K := Q .normal) hQ
    · cases h
  | seq a b iha ihb =>
    intro s x s' h hs Q hQ
    simp only [runC] at h
    split at h
    · rename_i s1 h1
      have ok1 : s1.ok := (iha s .normal s1 h1 hs (Q := fun _ _ => True) trivial).1
      obtain ⟨b1, b2⟩ := ihb s1 x s' h ok1 hQ
      exact ⟨b1, (iha s .normal s1 h1 hs (Q := thenX (pw gl P b Q) Q) b2).2⟩
    · rename_i hne
      refine iha s x s' h hs (Q := thenX (pw gl P b Q) Q) ?_
      cases x with
      | normal => exact absurd h (hne s')
      | exit i => exact hQ
      | ret => exact hQ
  | cond c a b iha ihb =>
    intro s x s' h hs Q hQ
    simp only [runC] at h
    simp only [pw]
    change s'.ok ∧ match evalIn s.ev c with | .sc (.bool true) => _ | .sc (.bool false) => _ | _ => False
    split at h
    · rename_i hc; exact iha s x s' h hs hQ
    · rename_i hc; exact ihb s x s' h hs hQ
    · cases h
  | block id b ih =>
    intro s x s' h hs Q hQ
    simp only [runC] at h
    simp only [pw]
    split at h
    · rename_i i s1 h1
      split at h
      · rename_i hi
        cases h
        refine ih s (.exit i) s' h1 hs (Q := inBlockX id Q) ?_
        simp only [inBlockX, hi, if_true]; exact hQ
      · rename_i hi
        cases h
        refine ih s (.exit i) s' h1 hs (Q := inBlockX id Q) ?_
        simp only [inBlockX, hi, if_false]; exact hQ
    · rename_i hne
      refine ih s x s' h hs (Q := inBlockX id Q) ?_
      cases x with
      | normal => exact hQ
      | exit i => exact absurd h (hne i s')
      | ret => exact hQ
  | loop b ih =>
    intro s x s' h hs Q hQ
    simp only [runC] at h
    simp only [pw]
    obtain ⟨a1, a2, a3⟩ := loop_ok (F := pw gl P b) (fun s x s' h hs Q hQ => ih s x s' h hs hQ) k s x s' h hs (fun _ => hQ)
    exact ⟨a1, k, a3⟩
  | exit id => intro s x s' h hs Q hQ; cases h; exact ⟨hs, hQ⟩
  | ret => intro s x s' h hs Q hQ; cases h; exact ⟨hs, hQ⟩
end
end Go.Pf
/- Pure frames, second part C: the interpreter of whole functions; what it computes is what the functions return. -/
namespace Go.Pf
open Go.RowKit

/-- A function, compiled. -/
structure FnR where
  pc : PC
  n : Nat
  d : Nat
  rvs : List RV
  own : Bool
  m : Mode
  asks : List Nat := []

def initRS (d : Nat) (args : List PV) : RS := ⟨2 ^ d, Tr.mk d (initSt args).env, Tr.mk d (initSt args).objs⟩

theorem initRS_ok (d : Nat) (args : List PV) : (initRS d args).ok := ⟨d, rfl, Tr.mk_ok _ _, Tr.mk_ok _ _⟩

theorem initRS_st {d : Nat} {args : List PV} (h : args.length ≤ 2 ^ d) : (initRS d args).st = initSt args := by
  have h1 : ∀ i, ¬ i < 2 ^ d → (initSt args).env i = .undef := by
    intro i hi
    have : args[i]? = none := by simp; omega
    simp [initSt, this]
  have h2 : ∀ i, ¬ i < 2 ^ d → (initSt args).objs i = .no 0 := by
    intro i hi
    have hp : 0 < 2 ^ d := Nat.two_pow_pos d
    cases i with
    | zero => omega
    | succ i => rfl
  show St.mk _ _ = St.mk _ _
  congr 1
  · funext i
    simp only [RS.ev, initRS, blt_iff]
    by_cases hi : i < 2 ^ d
    · simp only [hi, decide_true, cond_true]; exact Tr.get_mk d _ i hi
    · simp only [hi, decide_false, cond_false]; exact (h1 i hi).symm
  · funext i
    simp only [RS.ob, initRS, blt_iff]
    by_cases hi : i < 2 ^ d
    · simp only [hi, decide_true, cond_true]; exact Tr.get_mk d _ i hi
    · simp only [hi, decide_false, cond_false]; exact (h2 i hi).symm

/-- The end of a function. -/
noncomputable def finRS (r : FnR) (args : List PV) (s : RS) : Option (PV × List (List PV)) :=
  match rvVals s.st r.rvs with
  | some vals =>
    match resOf r.own s.ob vals with
    | some res =>
      match r.m with
      | .inout =>
        if r.own then none else
        match args with
        | .own e sz raw es :: _ =>
          match resObs r.own s.ob vals 0 with
          | .bld 0 e' sz' out raw' => if e' = e ∧ sz' = sz ∧ raw' = raw ∧ out.length = es.length then some (res, out) else none
          | _ => none
        | _ => some (res, [])
      | _ => some (res, [])
    | none => none
  | none => none

noncomputable def runBody (call : CallF) (k : Nat) (r : FnR) (m : Mode) (args : List PV) : Option (PV × List (List PV)) :=
  if r.m = m ∧ (m = .imm → headOwn args = false) ∧ args.length ≤ r.n ∧ args.length ≤ 2 ^ r.d then
    match runC call k r.pc (initRS r.d args) with
    | some (.exit _, _) => none
    | some (_, s) => finRS r args s
    | none => none
  else none

/-- The interpreter: what is known already ('orc') is asked first. -/
noncomputable def runF (orc : CallF) (tab : Nat → Option FnR) (k : Nat) : Nat → CallF
  | 0, f, m, args => orc f m args
  | n + 1, f, m, args =>
    match orc f m args with
    | some r => some r
    | none =>
      match tab f with
      | some r => runBody (runF orc tab k n) k r m args
      | none => none

/-- A function's compiled form is its own. -/
def FnOk (P : Program) (f : Nat) (r : FnR) : Prop :=
  ∃ (H : Hints) (fn : Func) (body : Code), P.funcs[f]? = some fn ∧ fn.body = some body ∧ (fn.name == "runtime.NumGoroutine") = false ∧ fn.ntmps = r.n ∧ rvsOf P fn.results.toList = some r.rvs ∧ comp P H fn.ntmps body = r.pc

section
variable {gl : Gl} {P : Program}

theorem runBody_ok {call : CallF} (hmix : P.follows .mixedOrders = true) (hcall : ∀ f m args res out, call f m args = some (res, out) → RC gl P f m args res out) {k f : Nat} {r : FnR} (hr : FnOk P f r) {m : Mode} {args : List PV} {res : PV} {out : List (List PV)}
    (h : runBody call k r m args = some (res, out)) : RC gl P f m args res out := by
  obtain ⟨H, fn, body, h1, h2, h3, h4, h5, h6⟩ := hr
  unfold runBody at h
  split at h
  · rename_i hc
    obtain ⟨c1, c2, c3, c4⟩ := hc
    have fin : ∀ (x : PX) (s : RS), runC call k r.pc (initRS r.d args) = some (x, s) → (∀ i, x ≠ .exit i) → finRS r args s = some (res, out) → RC gl P f m args res out := by
      intro x s hx hne hf
      refine RC_of_pw (H := H) r.own r.rvs hmix h1 h2 h3 (by rw [h4]; exact c3) h5 c2 ?_
      rw [h6, ← initRS_st c4]
      refine (runC_ok hcall r.pc (initRS r.d args) x s hx (initRS_ok _ _) ?_).2
      have main : ∃ vals, rvVals s.st r.rvs = some vals ∧ resOf r.own s.ob vals = some res ∧ (m = .inout → r.own = false ∧ OutOk args (resObs r.own s.ob vals) out) := by
        unfold finRS at hf
        split at hf
        · rename_i vals hv
          split at hf
          · rename_i res' hres
            subst c1
            split at hf
            · rename_i hm
              split at hf
              · cases hf
              · rename_i ho
                split at hf
                · rename_i e sz raw es rest
                  split at hf
                  · rename_i e' sz' out' raw' hob
                    split at hf
                    · rename_i hcc
                      obtain ⟨d1, d2, d3, d4⟩ := hcc
                      cases hf
                      subst d1; subst d2; subst d3
                      exact ⟨vals, hv, hres, fun _ => ⟨by simpa using ho, hob, d4⟩⟩
                    · cases hf
                  · cases hf
                · rename_i hna
                  cases hf
                  refine ⟨vals, hv, hres, fun _ => ⟨by simpa using ho, ?_⟩⟩
                  unfold OutOk
                  split
                  · rename_i e sz raw es rest; exact absurd rfl (hna e sz raw es rest)
                  · trivial
            · rename_i hm
              cases hf
              exact ⟨vals, hv, hres, fun hm' => absurd hm' hm⟩
          · cases hf
        · cases hf
      cases x with
      | exit i => exact absurd rfl (hne i)
      | normal => exact main
      | ret => exact main
    split at h
    · cases h
    · rename_i x s hne hx
      exact fin x s hx (fun i e => by subst e; exact hne i rfl) h
    · cases h
  · cases h

theorem runF_ok {orc : CallF} {tab : Nat → Option FnR} {k : Nat} (hmix : P.follows .mixedOrders = true) (horc : ∀ f m args res out, orc f m args = some (res, out) → RC gl P f m args res out) (htab : ∀ f r, tab f = some r → FnOk P f r) :
    ∀ (n : Nat) (f : Nat) (m : Mode) (args : List PV) (res : PV) (out : List (List PV)), runF orc tab k n f m args = some (res, out) → RC gl P f m args res out
  | 0, f, m, args, res, out, h => horc f m args res out h
  | n + 1, f, m, args, res, out, h => by
    simp only [runF] at h
    split at h
    · rename_i r hr; cases h; exact horc f m args res out hr
    · split at h
      · rename_i r hr
        exact runBody_ok hmix (runF_ok hmix horc htab n) (htab f r hr) h
      · cases h
end
end Go.Pf

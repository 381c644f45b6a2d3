/- Pure frames, second part D: the interpreter that takes the answers of some calls off a list, and says which answers it took. -/
import Derived.Test.YthiipifjdfmblaaGreatDoorPgDa
set_option linter.unusedVariables false
set_option linter.unusedSimpArgs false
namespace Go.Pf
open Go.RowKit

/-- What was answered: a call; an operator at two values; a conversion to an integer type; a string's length. -/
inductive Ob where
  | call (f : Nat) (m : Mode) (args : List PV) (res : PV) (out : List (List PV))
  | bin (op : BinOp) (a b v : PV)
  | cint (k : IntKind) (a v : PV)
  | len (a v : PV)

def binV (op : BinOp) : PV → PV → Option PV
  | .sc a, .sc b => (sbin op a b).map PV.sc
  | _, _ => none
def cintV (k : IntKind) : PV → Option PV
  | .sc (.int _ n) => some (.sc (.int k (k.wrap n)))
  | _ => none
def lenV : PV → Option PV
  | .sc (.string s) => some (.sc (.int .i64 s.size))
  | _ => none

def Ob.ok (gl : Gl) (P : Program) : Ob → Prop
  | .call f m args res out => RC gl P f m args res out
  | .bin op a b v => binV op a b = some v
  | .cint k a v => cintV k a = some v
  | .len a v => lenV a = some v

def AllOk (gl : Gl) (P : Program) : List Ob → Prop
  | [] => True
  | o :: r => o.ok gl P ∧ AllOk gl P r

/-- An operation that may be answered. -/
def askOb (ev : Operand → PV) (v : PV) : ROp → Option Ob
  | .bin op x y => some (.bin op (ev x) (ev y) v)
  | .cint k x => some (.cint k (ev x) v)
  | .len true x => some (.len (ev x) v)
  | _ => none

theorem askOb_ok {gl : Gl} {P : Program} {ev : Operand → PV} {ob : Nat → Obj} {d : Nat} {v : PV} {r : ROp} {o : Ob} (h : askOb ev v r = some o) (ho : o.ok gl P) : pop ev ob d r = some (v, []) := by
  unfold askOb at h
  split at h
  · rename_i op x y
    cases h
    simp only [Ob.ok, binV] at ho
    simp only [pop]
    split at ho
    · rename_i a b ha hb
      rw [ha, hb]
      simp only [Option.map_eq_some_iff] at ho ⊢
      obtain ⟨u, h1, rfl⟩ := ho
      exact ⟨u, h1, rfl⟩
    · cases ho
  · rename_i k x
    cases h
    simp only [Ob.ok, cintV] at ho
    simp only [pop]
    split at ho
    · rename_i kk m hm
      rw [hm]
      cases ho
      rfl
    · cases ho
  · rename_i x
    cases h
    simp only [Ob.ok, lenV] at ho
    simp only [pop]
    split at ho
    · rename_i t ht
      rw [ht]
      cases ho
      rfl
    · cases ho
  · cases h

/-- The answers to come, and the calls that were answered. -/
structure SS where
  ans : List (PV × List (List PV))
  obs : List Ob

abbrev CallS := Nat → Mode → List PV → SS → Option ((PV × List (List PV)) × SS)

noncomputable def stepS (s : RS) (σ : SS) (draw : Bool) (o : POper) (v : PV) (us : List (Nat × Obj)) : Option (RS × SS) :=
  match s.step draw o v us with
  | some s' => some (s', σ)
  | none => none

noncomputable def ansS (s : RS) (draw : Bool) (o : POper) (m : Mode) (args : List Operand) (us : List (Nat × Obj)) (x : Option ((PV × List (List PV)) × SS)) : Option (RS × SS) :=
  match x with
  | some ((res, out), σ') => stepS s σ' draw o (adopt s.ob (o.dst.getD 0) res).1 (us ++ outUpd s.ob m (firstOf (evalIn s.ev) args) out ++ (adopt s.ob (o.dst.getD 0) res).2)
  | none => none

noncomputable def callS (call : CallS) (draw : Bool) (o : POper) (s : RS) (σ : SS) (fid : Nat) (m : Mode) (args : List Operand) : Option (RS × SS) :=
  match prep (evalIn s.ev) s.ob m args with
  | some (ps, us) => ansS s draw o m args us (call fid m ps σ)
  | none => none

noncomputable def runCallS (call : CallS) (draw : Bool) (o : POper) (s : RS) (σ : SS) : ROp → Option (RS × SS)
  | .call f args modes =>
    match evalIn s.ev f with
    | .sc (.func (.func fid) _ _) => callS call draw o s σ fid (headMode modes) args
    | _ => none
  | _ => none

noncomputable def popS (draw : Bool) (o : POper) (s : RS) (σ : SS) : Option (RS × SS) :=
  match popF (evalIn s.ev) s.ob (o.dst.getD 0) o.r with
  | some (v, us) => stepS s σ draw o v us
  | none => none

noncomputable def askS (draw : Bool) (o : POper) (s : RS) (σ : SS) : Option (RS × SS) :=
  match σ.ans with
  | (v, _) :: rest =>
    match askOb (evalIn s.ev) v o.r with
    | some b => stepS s ⟨rest, b :: σ.obs⟩ draw o v []
    | none => none
  | [] => none

def isAsked (asks : List Nat) (o : POper) : Bool :=
  match o.dst with
  | some d => asks.contains d
  | none => false

noncomputable def wantS (asks : List Nat) (call : CallS) (draw : Bool) (o : POper) (s : RS) (σ : SS) : Option (RS × SS) :=
  bif metB draw o (evalIn s.ev) then
    bif o.r.isCall then runCallS call draw o s σ o.r else bif isAsked asks o then askS draw o s σ else popS draw o s σ
  else none

noncomputable def runOpS (asks : List Nat) (call : CallS) (draw : Bool) (o : POper) (s : RS) (σ : SS) : Option (RS × SS) :=
  match wantedIn s.ev o.guard with
  | some true => wantS asks call draw o s σ
  | some false =>
    match s.put o.dst (.tup []) with
    | some s' => some (s', σ)
    | none => none
  | none => none

noncomputable def runOpsS (asks : List Nat) (call : CallS) (draw : Bool) (os : List POper) : RS → SS → Option (RS × SS) :=
  @List.rec POper (fun _ => RS → SS → Option (RS × SS)) (fun s σ => some (s, σ))
    (fun o _ rest s σ => match runOpS asks call draw o s σ with
      | some (s', σ') => rest s' σ'
      | none => none) os

theorem runOpsS_cons (asks : List Nat) (call : CallS) (draw : Bool) (o : POper) (os : List POper) (s : RS) (σ : SS) : runOpsS asks call draw (o :: os) s σ = match runOpS asks call draw o s σ with
    | some (s', σ') => runOpsS asks call draw os s' σ'
    | none => none := rfl

noncomputable def loopRunS (body : RS → SS → Option (PX × RS × SS)) (n : Nat) : RS → SS → Option (PX × RS × SS) :=
  @Nat.rec (fun _ => RS → SS → Option (PX × RS × SS)) (fun _ _ => none)
    (fun _ rest s σ => match body s σ with
      | some (.normal, s', σ') => rest s' σ'
      | r => r) n

theorem loopRunS_succ (body : RS → SS → Option (PX × RS × SS)) (n : Nat) (s : RS) (σ : SS) : loopRunS body (n + 1) s σ = match body s σ with
    | some (.normal, s', σ') => loopRunS body n s' σ'
    | r => r := rfl

noncomputable def runCS (asks : List Nat) (call : CallS) (k : Nat) (c : PC) : RS → SS → Option (PX × RS × SS) :=
  @PC.rec (fun _ => RS → SS → Option (PX × RS × SS))
    (fun s σ => some (.normal, s, σ))
    (fun draw ops s σ => match runOpsS asks call draw ops s σ with
      | some (s', σ') => some (.normal, s', σ')
      | none => none)
    (fun _ _ ra rb s σ => match ra s σ with
      | some (.normal, s', σ') => rb s' σ'
      | r => r)
    (fun c _ _ ra rb s σ => match evalIn s.ev c with
      | .sc (.bool true) => ra s σ
      | .sc (.bool false) => rb s σ
      | _ => none)
    (fun id _ rb s σ => match rb s σ with
      | some (.exit i, s', σ') => if i = id then some (.normal, s', σ') else some (.exit i, s', σ')
      | r => r)
    (fun _ rb s σ => loopRunS rb k s σ)
    (fun id s σ => some (.exit id, s, σ))
    (fun s σ => some (.ret, s, σ)) c

theorem runCS_region (asks : List Nat) (call : CallS) (k : Nat) (draw : Bool) (ops : List POper) (s : RS) (σ : SS) : runCS asks call k (.region draw ops) s σ = match runOpsS asks call draw ops s σ with
    | some (s', σ') => some (.normal, s', σ')
    | none => none := rfl
theorem runCS_seq (asks : List Nat) (call : CallS) (k : Nat) (a b : PC) (s : RS) (σ : SS) : runCS asks call k (.seq a b) s σ = match runCS asks call k a s σ with
    | some (.normal, s', σ') => runCS asks call k b s' σ'
    | r => r := rfl
theorem runCS_cond (asks : List Nat) (call : CallS) (k : Nat) (c : Operand) (a b : PC) (s : RS) (σ : SS) : runCS asks call k (.cond c a b) s σ = match evalIn s.ev c with
    | .sc (.bool true) => runCS asks call k a s σ
    | .sc (.bool false) => runCS asks call k b s σ
    | _ => none := rfl
theorem runCS_block (asks : List Nat) (call : CallS) (k id : Nat) (b : PC) (s : RS) (σ : SS) : runCS asks call k (.block id b) s σ = match runCS asks call k b s σ with
    | some (.exit i, s', σ') => if i = id then some (.normal, s', σ') else some (.exit i, s', σ')
    | r => r := rfl
theorem runCS_loop (asks : List Nat) (call : CallS) (k : Nat) (b : PC) (s : RS) (σ : SS) : runCS asks call k (.loop b) s σ = loopRunS (runCS asks call k b) k s σ := rfl

noncomputable def runBodyS (call : CallS) (k : Nat) (r : FnR) (m : Mode) (args : List PV) (σ : SS) : Option ((PV × List (List PV)) × SS) :=
  if r.m = m ∧ (m = .imm → headOwn args = false) ∧ args.length ≤ r.n ∧ args.length ≤ 2 ^ r.d then
    match runCS r.asks call k r.pc (initRS r.d args) σ with
    | some (.exit _, _, _) => none
    | some (_, s, σ') =>
      match finRS r args s with
      | some x => some (x, σ')
      | none => none
    | none => none
  else none

noncomputable def runS (asked : Nat → Bool) (tab : Nat → Option FnR) (k : Nat) : Nat → CallS
  | 0, _, _, _, _ => none
  | n + 1, f, m, args, σ =>
    bif asked f then
      match σ.ans with
      | a :: r => some (a, ⟨r, .call f m args a.1 a.2 :: σ.obs⟩)
      | [] => none
    else
      match tab f with
      | some r => runBodyS (runS asked tab k n) k r m args σ
      | none => none

section
variable {gl : Gl} {P : Program}

/-- What a call hands on: the calls that were answered grow; if all answers are good, it returns so. -/
def CallOk (gl : Gl) (P : Program) (call : CallS) : Prop :=
  ∀ f m args σ res out σ', call f m args σ = some ((res, out), σ') → (AllOk gl P σ'.obs → AllOk gl P σ.obs) ∧ (AllOk gl P σ'.obs → RC gl P f m args res out)

theorem stepS_ok {s s' : RS} {σ σ' : SS} {draw : Bool} {o : POper} {v : PV} {us : List (Nat × Obj)} (h : stepS s σ draw o v us = some (s', σ')) (hs : s.ok) : σ' = σ ∧ s'.ok ∧ turnedOk draw o us ∧ s'.st = ⟨Pf.put s.ev o.dst v, updAll s.ob us⟩ := by
  unfold stepS at h
  split at h
  · rename_i s1 hst
    cases h
    exact ⟨rfl, RS.step_ok hst hs⟩
  · cases h

theorem runOpS_ok {asks : List Nat} {call : CallS} (hcall : CallOk gl P call) {draw : Bool} {o : POper} {s s' : RS} {σ σ' : SS} (h : runOpS asks call draw o s σ = some (s', σ')) (hs : s.ok) :
    s'.ok ∧ (AllOk gl P σ'.obs → AllOk gl P σ.obs) ∧ ∀ {K : St → Prop}, AllOk gl P σ'.obs → K s'.st → pwOp gl P draw o s.st K := by
  unfold runOpS at h
  split at h
  · rename_i hw
    unfold wantS at h
    cases hmet : metB draw o (evalIn s.ev) with
    | false => rw [hmet] at h; simp at h
    | true =>
      rw [hmet] at h
      simp only [cond_true] at h
      cases hic : o.r.isCall with
      | true =>
        rw [hic] at h
        simp only [cond_true] at h
        cases hr : o.r with
        | call f args modes =>
          rw [hr] at h
          simp only [runCallS] at h
          split at h
          · rename_i fid x y hf
            unfold callS at h
            split at h
            · rename_i ps us hprep
              unfold ansS at h
              split at h
              · rename_i res out σ1 hc
                have hRC := hcall _ _ _ _ _ _ _ hc
                obtain ⟨rfl, a1, a2, a3⟩ := stepS_ok h hs
                refine ⟨a1, hRC.1, fun {K} hA hK => ?_⟩
                unfold pwOp
                change match wantedIn s.ev o.guard with | some true => _ | some false => _ | none => _
                rw [hw]
                refine ⟨metB_ok hmet, ?_⟩
                simp only [hr]
                change match evalIn s.ev f with | .sc (.func (.func fid) _ _) => _ | _ => _
                rw [hf]
                simp only []
                change match prep (evalIn s.ev) s.ob (headMode modes) args with | some (ps, us) => _ | none => _
                rw [hprep]
                refine ⟨res, out, hRC.2 hA, a2, ?_⟩
                rw [a3] at hK
                exact hK
              · cases h
            · cases h
          · cases h
        | _ => rw [hr] at hic; cases hic
      | false =>
        rw [hic] at h
        simp only [cond_false] at h
        have main : ∀ {v : PV} {us : List (Nat × Obj)} {σ1 : SS}, stepS s σ1 draw o v us = some (s', σ') → (AllOk gl P σ1.obs → AllOk gl P σ.obs) → (AllOk gl P σ1.obs → pop (evalIn s.ev) s.ob (o.dst.getD 0) o.r = some (v, us)) →
            s'.ok ∧ (AllOk gl P σ'.obs → AllOk gl P σ.obs) ∧ ∀ {K : St → Prop}, AllOk gl P σ'.obs → K s'.st → pwOp gl P draw o s.st K := by
          intro v us σ1 h hmono hp
          obtain ⟨rfl, a1, a2, a3⟩ := stepS_ok h hs
          refine ⟨a1, hmono, fun {K} hA hK => ?_⟩
          have hp := hp hA
          have key : (match pop (evalIn s.ev) s.ob (o.dst.getD 0) o.r with
            | some (v, us) => turnedOk draw o us ∧ K ⟨put s.ev o.dst v, updAll s.ob us⟩
            | none => False) := by
            rw [hp]
            refine ⟨a2, ?_⟩
            rw [a3] at hK
            exact hK
          unfold pwOp
          change match wantedIn s.ev o.guard with | some true => _ | some false => _ | none => _
          rw [hw]
          refine ⟨metB_ok hmet, ?_⟩
          revert key
          cases hor : o.r with
          | call f args modes => rw [hor] at hic; cases hic
          | _ => exact fun k => k
        cases hask : isAsked asks o with
        | true =>
          rw [hask] at h
          simp only [cond_true] at h
          unfold askS at h
          split at h
          · rename_i v _ rest hans
            split at h
            · rename_i b hb
              exact main h (fun hA => hA.2) (fun hA => askOb_ok hb hA.1)
            · cases h
          · cases h
        | false =>
          rw [hask] at h
          simp only [cond_false] at h
          unfold popS at h
          split at h
          · rename_i v us hp
            rw [popF_eq] at hp
            exact main h id (fun _ => hp)
          · cases h
  · rename_i hw
    split at h
    · rename_i s1 hst
      cases h
      obtain ⟨a1, a2⟩ := RS.put_ok hst hs
      refine ⟨a1, id, fun {K} _ hK => ?_⟩
      unfold pwOp
      change match wantedIn s.ev o.guard with | some true => _ | some false => _ | none => _
      rw [hw]
      rw [a2] at hK
      exact hK
    · cases h
  · cases h

theorem runOpsS_ok {asks : List Nat} {call : CallS} (hcall : CallOk gl P call) {draw : Bool} : ∀ {os : List POper} {s s' : RS} {σ σ' : SS}, runOpsS asks call draw os s σ = some (s', σ') → s.ok →
    s'.ok ∧ (AllOk gl P σ'.obs → AllOk gl P σ.obs) ∧ ∀ {K : St → Prop}, AllOk gl P σ'.obs → K s'.st → pwOps gl P draw os s.st K
  | [], s, s', σ, σ', h, hs => by cases h; exact ⟨hs, id, fun _ hK => hK⟩
  | o :: os, s, s', σ, σ', h, hs => by
    rw [runOpsS_cons] at h
    split at h
    · rename_i s1 σ1 h1
      obtain ⟨a1, a2, a3⟩ := runOpS_ok hcall h1 hs
      obtain ⟨b1, b2, b3⟩ := runOpsS_ok hcall h a1
      exact ⟨b1, fun hA => a2 (b2 hA), fun {K} hA hK => a3 (K := fun s' => pwOps gl P draw os s' K) (b2 hA) (b3 hA hK)⟩
    · cases h

theorem loopS_ok {F : (PX → St → Prop) → St → Prop} {body : RS → SS → Option (PX × RS × SS)}
    (hb : ∀ (s : RS) (σ : SS) (x : PX) (s' : RS) (σ' : SS), body s σ = some (x, s', σ') → s.ok → s'.ok ∧ (AllOk gl P σ'.obs → AllOk gl P σ.obs) ∧ ∀ {Q : PX → St → Prop}, AllOk gl P σ'.obs → Q x s'.st → F Q s.st) :
    ∀ (n : Nat) (s : RS) (σ : SS) (x : PX) (s' : RS) (σ' : SS), loopRunS body n s σ = some (x, s', σ') → s.ok → s'.ok ∧ x ≠ .normal ∧ (AllOk gl P σ'.obs → AllOk gl P σ.obs) ∧ ∀ {Q : PX → St → Prop}, AllOk gl P σ'.obs → Q x s'.st → rounds F Q n s.st
  | 0, s, σ, x, s', σ', h, _ => by cases h
  | n + 1, s, σ, x, s', σ', h, hs => by
    rw [loopRunS_succ] at h
    split at h
    · rename_i s1 σ1 h1
      obtain ⟨a1, a2, a3⟩ := hb s σ .normal s1 σ1 h1 hs
      obtain ⟨b1, b2, b3, b4⟩ := loopS_ok hb n s1 σ1 x s' σ' h a1
      exact ⟨b1, b2, fun hA => a2 (b3 hA), fun {Q} hA hQ => a3 (Q := thenX (rounds F Q n) Q) (b3 hA) (b4 hA hQ)⟩
    · rename_i hne
      have hx : x ≠ .normal := by
        intro e; subst e
        exact hne s' σ' h
      obtain ⟨a1, a2, a3⟩ := hb s σ x s' σ' h hs
      refine ⟨a1, hx, a2, fun {Q} hA hQ => a3 (Q := thenX (rounds F Q n) Q) hA ?_⟩
      cases x with
      | normal => exact absurd rfl hx
      | exit i => exact hQ
      | ret => exact hQ

theorem runCS_ok {asks : List Nat} {call : CallS} (hcall : CallOk gl P call) {k : Nat} : ∀ (c : PC) (s : RS) (σ : SS) (x : PX) (s' : RS) (σ' : SS), runCS asks call k c s σ = some (x, s', σ') → s.ok →
    s'.ok ∧ (AllOk gl P σ'.obs → AllOk gl P σ.obs) ∧ ∀ {Q : PX → St → Prop}, AllOk gl P σ'.obs → Q x s'.st → pw gl P c Q s.st := by
  intro c
  induction c with
  | skip => intro s σ x s' σ' h hs; cases h; exact ⟨hs, id, fun _ hQ => hQ⟩
  | region draw ops =>
    intro s σ x s' σ' h hs
    rw [runCS_region] at h
    split at h
    · rename_i s1 σ1 h1
      cases h
      obtain ⟨a1, a2, a3⟩ := runOpsS_ok hcall h1 hs
      exact ⟨a1, a2, fun {Q} hA hQ => a3 (K := Q .normal) hA hQ⟩
    · cases h
  | seq a b iha ihb =>
    intro s σ x s' σ' h hs
    rw [runCS_seq] at h
    split at h
    · rename_i s1 σ1 h1
      obtain ⟨a1, a2, a3⟩ := iha s σ .normal s1 σ1 h1 hs
      obtain ⟨b1, b2, b3⟩ := ihb s1 σ1 x s' σ' h a1
      exact ⟨b1, fun hA => a2 (b2 hA), fun {Q} hA hQ => a3 (Q := thenX (pw gl P b Q) Q) (b2 hA) (b3 hA hQ)⟩
    · rename_i hne
      obtain ⟨a1, a2, a3⟩ := iha s σ x s' σ' h hs
      refine ⟨a1, a2, fun {Q} hA hQ => a3 (Q := thenX (pw gl P b Q) Q) hA ?_⟩
      cases x with
      | normal => exact absurd h (hne s' σ')
      | exit i => exact hQ
      | ret => exact hQ
  | cond c a b iha ihb =>
    intro s σ x s' σ' h hs
    rw [runCS_cond] at h
    split at h
    · rename_i hc
      obtain ⟨a1, a2, a3⟩ := iha s σ x s' σ' h hs
      refine ⟨a1, a2, fun {Q} hA hQ => ?_⟩
      simp only [pw]
      change match evalIn s.ev c with | .sc (.bool true) => _ | .sc (.bool false) => _ | _ => False
      rw [hc]
      exact a3 hA hQ
    · rename_i hc
      obtain ⟨a1, a2, a3⟩ := ihb s σ x s' σ' h hs
      refine ⟨a1, a2, fun {Q} hA hQ => ?_⟩
      simp only [pw]
      change match evalIn s.ev c with | .sc (.bool true) => _ | .sc (.bool false) => _ | _ => False
      rw [hc]
      exact a3 hA hQ
    · cases h
  | block id b ih =>
    intro s σ x s' σ' h hs
    rw [runCS_block] at h
    split at h
    · rename_i i s1 σ1 h1
      obtain ⟨a1, a2, a3⟩ := ih s σ (.exit i) s1 σ1 h1 hs
      split at h
      · rename_i hi
        cases h
        refine ⟨a1, a2, fun {Q} hA hQ => a3 (Q := inBlockX id Q) hA ?_⟩
        simp only [inBlockX, hi, if_true]; exact hQ
      · rename_i hi
        cases h
        refine ⟨a1, a2, fun {Q} hA hQ => a3 (Q := inBlockX id Q) hA ?_⟩
        simp only [inBlockX, hi, if_false]; exact hQ
    · rename_i hne
      obtain ⟨a1, a2, a3⟩ := ih s σ x s' σ' h hs
      refine ⟨a1, a2, fun {Q} hA hQ => a3 (Q := inBlockX id Q) hA ?_⟩
      cases x with
      | normal => exact hQ
      | exit i => exact absurd h (hne i s' σ')
      | ret => exact hQ
  | loop b ih =>
    intro s σ x s' σ' h hs
    rw [runCS_loop] at h
    obtain ⟨a1, a2, a3, a4⟩ := loopS_ok (gl := gl) (P := P) (F := pw gl P b) (fun s σ x s' σ' h hs => ih s σ x s' σ' h hs) k s σ x s' σ' h hs
    exact ⟨a1, a3, fun {Q} hA hQ => ⟨k, a4 hA hQ⟩⟩
  | exit id => intro s σ x s' σ' h hs; cases h; exact ⟨hs, fun h => h, fun _ hQ => hQ⟩
  | ret => intro s σ x s' σ' h hs; cases h; exact ⟨hs, id, fun _ hQ => hQ⟩

theorem fin_ok {r : FnR} {m : Mode} {args : List PV} {s : RS} {res : PV} {out : List (List PV)} (c1 : r.m = m) (hf : finRS r args s = some (res, out)) :
    ∃ vals, rvVals s.st r.rvs = some vals ∧ resOf r.own s.ob vals = some res ∧ (m = .inout → r.own = false ∧ OutOk args (resObs r.own s.ob vals) out) := by
  unfold finRS at hf
  split at hf
  · rename_i vals hv
    split at hf
    · rename_i res' hres
      subst c1
      split at hf
      · rename_i hm
        split at hf
        · cases hf
        · rename_i ho
          split at hf
          · rename_i e sz raw es rest
            split at hf
            · rename_i e' sz' out' raw' hob
              split at hf
              · rename_i hcc
                obtain ⟨d1, d2, d3, d4⟩ := hcc
                cases hf
                subst d1; subst d2; subst d3
                exact ⟨vals, hv, hres, fun _ => ⟨by simpa using ho, hob, d4⟩⟩
              · cases hf
            · cases hf
          · rename_i hna
            cases hf
            refine ⟨vals, hv, hres, fun _ => ⟨by simpa using ho, ?_⟩⟩
            unfold OutOk
            split
            · rename_i e sz raw es rest; exact absurd rfl (hna e sz raw es rest)
            · trivial
      · rename_i hm
        cases hf
        exact ⟨vals, hv, hres, fun hm' => absurd hm' hm⟩
    · cases hf
  · cases hf

theorem runBodyS_ok {call : CallS} (hmix : P.follows .mixedOrders = true) (hcall : CallOk gl P call) {k f : Nat} {r : FnR} (hr : FnOk P f r) {m : Mode} {args : List PV} {res : PV} {out : List (List PV)} {σ σ' : SS}
    (h : runBodyS call k r m args σ = some ((res, out), σ')) : (AllOk gl P σ'.obs → AllOk gl P σ.obs) ∧ (AllOk gl P σ'.obs → RC gl P f m args res out) := by
  obtain ⟨H, fn, body, h1, h2, h3, h4, h5, h6⟩ := hr
  unfold runBodyS at h
  split at h
  · rename_i hc
    obtain ⟨c1, c2, c3, c4⟩ := hc
    split at h
    · cases h
    · rename_i x s σ1 hne hx
      split at h
      · rename_i v hf
        cases h
        obtain ⟨a1, a2, a3⟩ := runCS_ok hcall r.pc (initRS r.d args) σ x s _ hx (initRS_ok _ _)
        refine ⟨a2, fun hA => ?_⟩
        refine RC_of_pw (H := H) r.own r.rvs hmix h1 h2 h3 (by rw [h4]; exact c3) h5 c2 ?_
        rw [h6, ← initRS_st c4]
        refine a3 hA ?_
        have main := fin_ok c1 hf
        cases x with
        | exit i => exact absurd rfl (hne i)
        | normal => exact main
        | ret => exact main
      · cases h
    · cases h
  · cases h

theorem runS_ok {asked : Nat → Bool} {tab : Nat → Option FnR} {k : Nat} (hmix : P.follows .mixedOrders = true) (htab : ∀ f r, tab f = some r → FnOk P f r) : ∀ (n : Nat), CallOk gl P (runS asked tab k n)
  | 0 => by intro f m args σ res out σ' h; cases h
  | n + 1 => by
    intro f m args σ res out σ' h
    simp only [runS] at h
    cases ha : asked f with
    | true =>
      rw [ha] at h
      simp only [cond_true] at h
      split at h
      · rename_i a r hr
        cases h
        exact ⟨fun hA => hA.2, fun hA => hA.1⟩
      · cases h
    | false =>
      rw [ha] at h
      simp only [cond_false] at h
      split at h
      · rename_i r hr
        exact runBodyS_ok hmix (runS_ok hmix htab n) (htab f r hr) h
      · cases h

/-- A contract from a run: all answers that it took are good. -/
theorem RC_of_run {asked : Nat → Bool} {tab : Nat → Option FnR} {k n : Nat} {f : Nat} {r : FnR} {m : Mode} {args : List PV} {res : PV} {out : List (List PV)} {ans : List (PV × List (List PV))} {σ' : SS} (hmix : P.follows .mixedOrders = true) (htab : ∀ f r, tab f = some r → FnOk P f r) (hf : tab f = some r)
    (h : runBodyS (runS asked tab k n) k r m args ⟨ans, []⟩ = some ((res, out), σ')) (hA : AllOk gl P σ'.obs) : RC gl P f m args res out :=
  (runBodyS_ok hmix (runS_ok hmix htab n) (htab f r hf) h).2 hA
end
end Go.Pf

/- Pure frames, part W: whole bodies, resolved; the pure predicate transformer says what the model's does. -/
import Derived.Test.YthiipifjdfmblaaGreatDoorPfV
set_option linter.unusedVariables false
set_option linter.unusedSimpArgs false
namespace Go.Pf
open Go.RowKit

def guardOf (ops : Array Oper) (n : Nat) : Option (Nat × Bool) → Option (Option (Nat × Bool))
  | none => some none
  | some (j, b) => match ops[j]? with
    | some o => match o.dst with
      | some t => if t < n then some (some (t, b)) else none
      | none => none
    | none => none

def ptsOf (H : Hints) (xs : List Operand) : List Nat := xs.flatMap fun | .tmp t => (H.pts.lookup t).getD [] | _ => []

/-- The objects that an operation may turn. -/
def wkOf (H : Hints) (d : Nat) (r : ROp) : List Nat :=
  (if r.makes then [d] else []) ++
  match r with
  | .store _ a _ => ptsOf H [a]
  | .append _ _ _ s _ _ => ptsOf H [s]
  | .clr _ _ _ x => ptsOf H [x]
  | .aslc _ x => ptsOf H [x]
  | .bslice _ _ _ _ parts _ => (ptsOf H (parts.map (·.2))).filter H.raws.contains
  | .call _ args _ => (ptsOf H args).filter H.raws.contains
  | _ => []

def dstOk (n : Nat) : Option Nat → Bool
  | some t => decide (t < n)
  | none => true

def operOf (P : Program) (H : Hints) (n : Nat) (draw : Bool) (ops : Array Oper) (o : Oper) : Option POper :=
  if dstOk n o.dst then
    match guardOf ops n o.guard with
    | some g => some (if draw then ⟨o.dst, g, rsOf P H o, if (rsOf P H o).looks then ptsOf H (rsOf P H o).opnds else [], wkOf H (o.dst.getD 0) (rsOf P H o)⟩ else ⟨o.dst, g, rsOf P H o, [], []⟩)
    | none => none
  else none

def GuardR (ops : Array Oper) (n : Nat) (og g : Option (Nat × Bool)) : Prop :=
  match og, g with
  | none, none => True
  | some (j, b), some (t, b') => b = b' ∧ (ops[j]?).bind (·.dst) = some t ∧ t < n
  | _, _ => False

theorem guardOf_ok {ops : Array Oper} {n : Nat} {og g : Option (Nat × Bool)} (h : guardOf ops n og = some g) : GuardR ops n og g := by
  cases og with
  | none => cases h; trivial
  | some x =>
    obtain ⟨j, b⟩ := x
    simp only [guardOf] at h
    split at h
    · rename_i o' ho'
      split at h
      · rename_i t ht
        split at h
        · rename_i hlt; cases h; exact ⟨rfl, by rw [ho']; exact ht, hlt⟩
        · cases h
      · cases h
    · cases h

theorem operOf_ok {P : Program} {H : Hints} {n : Nat} {draw : Bool} {ops : Array Oper} {o : Oper} {po : POper} (h : operOf P H n draw ops o = some po) : RsO P n ops o po := by
  unfold operOf at h
  split at h
  · rename_i hd
    split at h
    · rename_i g hg
      have hd' : ∀ t, o.dst = some t → t < n := by
        intro t ht; rw [ht] at hd; simpa [dstOk] using hd
      have hg' := guardOf_ok hg
      cases draw
      · simp only [Bool.false_eq_true, if_false, Option.some.injEq] at h; subst h; exact ⟨rfl, hd', rsOf_ok, hg'⟩
      · simp only [if_true, Option.some.injEq] at h; subst h; exact ⟨rfl, hd', rsOf_ok, hg'⟩
    · cases h
  · cases h

def opersOf (P : Program) (H : Hints) (n : Nat) (draw : Bool) (ops : Array Oper) : List Oper → Option (List POper)
  | [] => some []
  | o :: r => match operOf P H n draw ops o, opersOf P H n draw ops r with
    | some p, some ps => some (p :: ps)
    | _, _ => none

theorem opersOf_ok {P : Program} {H : Hints} {n : Nat} {draw : Bool} {ops : Array Oper} : ∀ {l : List Oper} {ps : List POper}, opersOf P H n draw ops l = some ps → l.length = ps.length ∧ ∀ (j : Nat) (po : POper), ps[j]? = some po → ∃ o, l[j]? = some o ∧ RsO P n ops o po
  | [], ps, h => by cases h; exact ⟨rfl, by simp⟩
  | o :: r, ps, h => by
    unfold opersOf at h
    split at h
    · rename_i p ps' h1 h2
      cases h
      obtain ⟨e1, e2⟩ := opersOf_ok h2
      refine ⟨by simp [e1], fun j po hj => ?_⟩
      cases j with
      | zero => simp at hj; subst hj; exact ⟨o, rfl, operOf_ok h1⟩
      | succ j => exact e2 j po (by simpa using hj)
    · cases h

/-- Code of which nothing is said. -/
def badC : PC := .cond (.const .nilIface) .skip .skip

theorem pw_bad {P : Program} {gl : Gl} {Q : PX → St → Prop} {s : St} (h : pw gl P badC Q s) : False := h

def regionOf (P : Program) (H : Hints) (n : Nat) (ops : Array Oper) (draw : Bool) : PC :=
  match opersOf P H n draw ops ops.toList with
  | some ps => if !draw || drawOk ops ps then .region draw ps else badC
  | none => badC

def comp (P : Program) (H : Hints) (n : Nat) : Code → PC
  | .skip => .skip
  | .region _ ops draw => regionOf P H n ops draw
  | .seq a b => .seq (comp P H n a) (comp P H n b)
  | .cond c a b => if opndOk c then .cond c (comp P H n a) (comp P H n b) else badC
  | .block id b => .block id (comp P H n b)
  | .loop b => .loop (comp P H n b)
  | .exit id => .exit id
  | .label _ => .skip
  | .ret => .ret
  | _ => badC

def toX : PX → Exit
  | .normal => .normal
  | .exit i => .exit i
  | .ret => .ret

section
variable {P : Program} {H : Hints} {n B : Nat} {O : Option Nat} {gl : Gl} {ph : Option (Nat × Value)} {c0 : Nat → Nat} {w0 : World}

theorem sim_region (hm : P.follows .mixedOrders = true) {id : Nat} {ops : Array Oper} {draw : Bool} {Qp : PX → St → Prop} {Q : Exit → Act → World → Prop} {g : Gh} {s : St} {a : Act} {w : World}
    (hp : pw gl P (regionOf P H n ops draw) Qp s) (h : FR gl ph n B O g s a w) (hPB : PB B O c0 w0 g.c w) (hQ : ∀ x g' s' a' w', Qp x s' → FR gl ph n B O g' s' a' w' → PB B O c0 w0 g'.c w' → Q (toX x) a' w') : (Code.region id ops draw).wp P Q a w := by
  unfold regionOf at hp
  split at hp
  · rename_i ps hps
    split at hp
    · rename_i hc
      obtain ⟨e1, e2⟩ := opersOf_ok hps
      have e2' : ∀ (j : Nat) (po : POper), ps[j]? = some po → ∃ o, ops[j]? = some o ∧ RsO P n ops o po := fun j po hj => by
        obtain ⟨o, ho, hr⟩ := e2 j po hj
        exact ⟨o, by simpa using ho, hr⟩
      simp only [pw] at hp
      cases draw with
      | true =>
        simp only [Bool.not_true, Bool.false_or] at hc
        exact sim_draw hm (drawOk_ok (by simpa using e1) hc) e2' hp h hPB (fun g' s' a' w' hk => hQ .normal g' s' a' w' hk)
      | false =>
        refine wp_region ?_
        have := sim_ops (ops := ops) (Q := Q) ps 0 g s a w (fun j po hj => by rw [Nat.zero_add]; exact e2' j po hj) hp h hPB (fun g' s' a' w' hk => hQ .normal g' s' a' w' hk)
        rw [List.range_eq_range', show ops.size = ps.length by simpa using e1]
        exact this
    · exact (pw_bad hp).elim
  · exact (pw_bad hp).elim

/-- The pure predicate transformer says what the model's does. -/
theorem sim_code (hm : P.follows .mixedOrders = true) : ∀ (c : Code) (Qp : PX → St → Prop) (Q : Exit → Act → World → Prop) (g : Gh) (s : St) (a : Act) (w : World),
    pw gl P (comp P H n c) Qp s → FR gl ph n B O g s a w → PB B O c0 w0 g.c w → (∀ x g' s' a' w', Qp x s' → FR gl ph n B O g' s' a' w' → PB B O c0 w0 g'.c w' → Q (toX x) a' w') → c.wp P Q a w := by
  intro c
  induction c with
  | skip => intro Qp Q g s a w hp h hPB hQ; exact wp_skip (hQ .normal g s a w hp h hPB)
  | region id ops draw => intro Qp Q g s a w hp h hPB hQ; exact sim_region hm hp h hPB hQ
  | seq x y ihx ihy =>
    intro Qp Q g s a w hp h hPB hQ
    refine wp_seq (ihx (thenX (pw gl P (comp P H n y) Qp) Qp) _ g s a w hp h hPB (fun e g' s' a' w' hk hF hP => ?_))
    cases e with
    | normal => exact ihy Qp Q g' s' a' w' hk hF hP hQ
    | exit i => exact hQ (.exit i) g' s' a' w' hk hF hP
    | ret => exact hQ .ret g' s' a' w' hk hF hP
  | cond c x y ihx ihy =>
    intro Qp Q g s a w hp h hPB hQ
    simp only [comp] at hp
    split at hp
    · rename_i hc
      have e := h.opnd hc
      simp only [pw] at hp
      split at hp
      · rename_i hv; rw [hv] at e; exact wp_cond_true e.sc_inv.1 (ihx Qp Q g s a w hp h hPB hQ)
      · rename_i hv; rw [hv] at e; exact wp_cond_false e.sc_inv.1 (ihy Qp Q g s a w hp h hPB hQ)
      · exact hp.elim
    · exact (pw_bad hp).elim
  | block id b ih =>
    intro Qp Q g s a w hp h hPB hQ
    refine wp_block (ih (inBlockX id Qp) _ g s a w hp h hPB (fun e g' s' a' w' hk hF hP => ?_))
    cases e with
    | normal => exact hQ .normal g' s' a' w' hk hF hP
    | exit i =>
      simp only [inBlockX] at hk
      simp only [toX, Exit.inBlock]
      by_cases hi : i = id
      · rw [if_pos hi] at hk ⊢; exact hQ .normal g' s' a' w' hk hF hP
      · rw [if_neg hi] at hk ⊢; exact hQ (.exit i) g' s' a' w' hk hF hP
    | ret => exact hQ .ret g' s' a' w' hk hF hP
  | loop b ih =>
    intro Qp Q g s a w hp h hPB hQ
    obtain ⟨m, hr⟩ := hp
    refine wp_loop_rounds m ?_
    induction m generalizing g s a w with
    | zero => exact hr.elim
    | succ m ihm =>
      refine ih (thenX (rounds (pw gl P (comp P H n b)) Qp m) Qp) _ g s a w hr h hPB (fun e g' s' a' w' hk hF hP => ?_)
      cases e with
      | normal => exact ihm g' s' a' w' hF hP hk
      | exit i => exact hQ (.exit i) g' s' a' w' hk hF hP
      | ret => exact hQ .ret g' s' a' w' hk hF hP
  | exit id => intro Qp Q g s a w hp h hPB hQ; exact wp_exit (hQ (.exit id) g s a w hp h hPB)
  | label l => intro Qp Q g s a w hp h hPB hQ; exact wp_label (hQ .normal g s a w hp h hPB)
  | ret => intro Qp Q g s a w hp h hPB hQ; exact wp_ret (hQ .ret g s a w hp h hPB)
  | rangeFunc _ _ _ _ => intro Qp Q g s a w hp; exact (pw_bad hp).elim
  | scope _ => intro Qp Q g s a w hp; exact (pw_bad hp).elim
  | goto _ => intro Qp Q g s a w hp; exact (pw_bad hp).elim
  | refuse _ => intro Qp Q g s a w hp; exact (pw_bad hp).elim
end
end Go.Pf

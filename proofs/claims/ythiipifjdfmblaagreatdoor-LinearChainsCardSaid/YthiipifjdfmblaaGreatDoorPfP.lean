/- Pure frames, part P: one operation, whichever it is; regions in the order of the text. -/
import Derived.Test.YthiipifjdfmblaaGreatDoorPfOa
set_option linter.unusedVariables false
set_option linter.unusedSimpArgs false
namespace Go.Pf
open Go.RowKit

section
variable {P : Program} {n B : Nat} {O : Option Nat} {gl : Gl} {ph : Option (Nat × Value)} {g : Gh} {s : St} {a : Act} {w w' : World} {o : Oper} {K : Act → World → Prop} {Q : Exit → Act → World → Prop}

theorem sim_pop {r : ROp} {p : PV} {us : List (Nat × Obj)} (h : FR gl ph n B O g s a w) (hd : ∀ t, o.dst = some t → t < n) (hr : Rs P o r)
    (hp : pop (evalIn s.env) s.objs (o.dst.getD 0) r = some (p, us)) (hk : Owed gl ph n B O g w ⟨put s.env o.dst p, updAll s.objs us⟩ K) : o.wp P a w K Q := by
  cases r with
  | mv x => simp only [pop, Option.some.injEq, Prod.mk.injEq] at hp; obtain ⟨rfl, rfl⟩ := hp; exact sim_mv h hd hr hk
  | pick c x y =>
    have hu : us = [] := by simp only [pop] at hp; split at hp <;> simp_all
    subst hu
    exact sim_pick h hd hr hp hk
  | alloc zero => exact sim_alloc h hd hr hp hk
  | box x => exact sim_box h hd hr hp hk
  | build zero ps => exact sim_build h hd hr hp hk
  | bslice e sz zero len ps raw => exact sim_bslice h hd hr hp hk
  | load agg m x => exact sim_load h hd hr hp hk
  | store m x v => exact sim_store h hd hr hp hk
  | nilchk x => exact sim_nilchk h hd hr hp hk
  | bin op x y => exact sim_bin h hd hr hp hk
  | binb neg x y => exact sim_binb h hd hr hp hk
  | eqs neg x y => exact sim_eqs h hd hr hp hk
  | isnil neg x => exact sim_isnil h hd hr hp hk
  | un op x => exact sim_un h hd hr hp hk
  | cint k x => exact sim_cint h hd hr hp hk
  | b2s x => exact sim_b2s h hd hr hp hk
  | mkslice e sz bytes zero l c => exact sim_mkslice h hd hr hp hk
  | sslice x lo hi => exact sim_sslice h hd hr hp hk
  | slc sz x lo hi => exact sim_slc h hd hr hp hk
  | faddr off x => exact sim_faddr h hd hr hp hk
  | fld agg off m x => exact sim_fld h hd hr hp hk
  | iaddr sz x i => exact sim_iaddr h hd hr hp hk
  | sidx x i => exact sim_sidx h hd hr hp hk
  | ext x i => exact sim_ext h hd hr hp hk
  | len isStr x => exact sim_len h hd hr hp hk
  | append e sz bytes sl x raw => exact sim_append h hd hr hp hk
  | mx isMax x y => exact sim_mx h hd hr hp hk
  | call f args modes => simp [pop] at hp
  | appz e sz bytes zero sl x raw => exact sim_appz h hd hr hp hk
  | cap0 x => exact sim_cap0 h hd hr hp hk
  | clr e sz zero x => exact sim_clr h hd hr hp hk
  | aaddr m sz x i => exact sim_aaddr h hd hr hp hk
  | aslc m x => exact sim_aslc h hd hr hp hk
  | bad => simp [pop] at hp

/-- The pure step of one operation. -/
inductive PStep (gl : Gl) (P : Program) (o : POper) (s : St) : St → Prop where
  | skip (h : wantedIn s.env o.guard = some false) : PStep gl P o s ⟨put s.env o.dst (.tup []), s.objs⟩
  | pop {v : PV} {us : List (Nat × Obj)} (h : wantedIn s.env o.guard = some true) (hp : pop (evalIn s.env) s.objs (o.dst.getD 0) o.r = some (v, us)) : PStep gl P o s ⟨put s.env o.dst v, updAll s.objs us⟩
  | call {f : Operand} {args : List Operand} {modes : List Mode} {fid : FuncId} {x y : Array Value} {ps : List PV} {us : List (Nat × Obj)} {res : PV} {out : List (List PV)} (h : wantedIn s.env o.guard = some true) (hr : o.r = .call f args modes)
      (hf : evalIn s.env f = .sc (.func (.func fid) x y)) (hprep : prep (evalIn s.env) s.objs (headMode modes) args = some (ps, us)) (hRC : RC gl P fid (headMode modes) ps res out) :
      PStep gl P o s ⟨put s.env o.dst (adopt s.objs (o.dst.getD 0) res).1, updAll s.objs (us ++ outUpd s.objs (headMode modes) (firstOf (evalIn s.env) args) out ++ (adopt s.objs (o.dst.getD 0) res).2)⟩

theorem PStep.of_pwOp {draw : Bool} {po : POper} {Kp : St → Prop} (h : pwOp gl P draw po s Kp) : ∃ s', PStep gl P po s s' ∧ Kp s' := by
  unfold pwOp at h
  split at h
  · rename_i hw
    obtain ⟨_, h⟩ := h
    split at h
    · rename_i f args modes hr
      split at h
      · rename_i fid x y hf
        split at h
        · rename_i ps us hprep
          obtain ⟨res, out, hRC, _, hK⟩ := h
          exact ⟨_, .call hw hr hf hprep hRC, hK⟩
        · exact h.elim
      · exact h.elim
    · split at h
      · rename_i v us hp
        exact ⟨_, .pop hw hp, h.2⟩
      · exact h.elim
  · rename_i hw; exact ⟨_, .skip hw, h⟩
  · exact h.elim

/-- An operation of the model and a resolved one. -/
def RsO (P : Program) (n : Nat) (ops : Array Oper) (o : Oper) (po : POper) : Prop :=
  po.dst = o.dst ∧ (∀ t, o.dst = some t → t < n) ∧ Rs P o po.r ∧
  match o.guard, po.guard with
  | none, none => True
  | some (j, b), some (t, b') => b = b' ∧ (ops[j]?).bind (·.dst) = some t ∧ t < n
  | _, _ => False

theorem wanted_of {ops : Array Oper} {po : POper} {b : Bool} (h : FR gl ph n B O g s a w) (hr : RsO P n ops o po) (hw : wantedIn s.env po.guard = some b) : Region.wanted o (yielded ops a.tmps) = b := by
  obtain ⟨_, _, _, hg⟩ := hr
  unfold Region.wanted
  split at hg
  · rename_i h1 h2
    rw [h1]
    rw [h2] at hw
    simpa [wantedIn] using hw
  · rename_i j b1 t b2 h1 h2
    obtain ⟨rfl, hdst, ht⟩ := hg
    rw [h1]
    rw [h2] at hw
    have he := h.env t
    have hget : a.tmps[t]? = some (a.tmps.getD t undef) := by
      have : t < a.tmps.size := by rw [h.size]; exact ht
      simp [Array.getD_eq_getD_getElem?, this]
    simp only [wantedIn] at hw
    simp only [yielded, hdst, Option.bind_some, hget]
    split at hw
    · rename_i x hx
      rw [hx] at he
      rw [he.sc_inv.1]
      simp only [Option.some.injEq] at hw
      rw [← hw]
      cases x <;> cases b1 <;> rfl
    · rename_i hx
      rw [hx] at he
      obtain ⟨vs, e1, e2, _⟩ := he.tup_inv
      have : vs = [] := by simpa using e2.symm
      subst this
      rw [e1]
      simp only [Option.some.injEq] at hw
      rw [← hw]
      cases b1 <;> rfl
    · simp at hw
  · exact hg.elim

/-- One step of the machine for one pure step. -/
theorem sim_step {ops : Array Oper} {po : POper} {s' : St} {i : Nat} (h : FR gl ph n B O g s a w) (hi : ops[i]? = some o) (hr : RsO P n ops o po) (hs : PStep gl P po s s') (hk : Owed gl ph n B O g w s' K) : wpOp P ops Q i K a w := by
  simp only [wpOp, hi]
  obtain ⟨hdst, hd, hrs, hg⟩ := id hr
  cases hs with
  | skip hw =>
    rw [wanted_of h hr hw]
    simp only [Bool.false_eq_true, if_false]
    rw [hdst] at hk
    exact hk g _ w (h.put o.dst hd (p := .tup []) (v := undef) (.inr (.inr (.inr ⟨[], [], rfl, rfl, rfl, by simp⟩)))) (PB.refl _ _ _ _)
  | pop hw hp =>
    rw [wanted_of h hr hw]
    simp only [if_true]
    rw [hdst] at hp hk
    exact .inl (sim_pop h hd hrs hp hk)
  | call hw hre hf hprep hRC =>
    rw [wanted_of h hr hw]
    simp only [if_true]
    rw [hdst] at hk
    rw [hre] at hrs
    refine .inl ?_
    rename_i f args modes fid x y ps us res out
    by_cases hm : headMode modes = .imm
    · exact sim_call_imm h hd hrs hf hm hprep hRC hk
    · exact sim_call_own h hd hrs hf hm hprep hRC hk

/-- A region in the order of the text. -/
theorem sim_ops {ops : Array Oper} {draw : Bool} {c0 : Nat → Nat} {w0 : World} {Kp : St → Prop} : ∀ (pos : List POper) (i : Nat) (g : Gh) (s : St) (a : Act) (w : World),
    (∀ (j : Nat) (po : POper), pos[j]? = some po → ∃ o, ops[i + j]? = some o ∧ RsO P n ops o po) → pwOps gl P draw pos s Kp → FR gl ph n B O g s a w → PB B O c0 w0 g.c w →
    (∀ g' s' a' w', Kp s' → FR gl ph n B O g' s' a' w' → PB B O c0 w0 g'.c w' → Q .normal a' w') → wpOps P ops Q (List.range' i pos.length) a w
  | [], i, g, s, a, w, _, hp, h, hPB, hQ => by
    simp only [List.length_nil, List.range'_zero, wpOps]
    exact hQ g s a w hp h hPB
  | po :: pos, i, g, s, a, w, hops, hp, h, hPB, hQ => by
    simp only [List.length_cons, List.range'_succ]
    rw [wpOps_cons]
    obtain ⟨o, ho, hr⟩ := hops 0 po rfl
    obtain ⟨s', hs, hk⟩ := PStep.of_pwOp hp
    refine sim_step h (by simpa using ho) hr hs (fun g' a' w' hF hPB' => ?_)
    exact sim_ops pos (i + 1) g' s' a' w' (fun j po' hj => by
      have := hops (j + 1) po' (by simpa using hj)
      rwa [show i + 1 + j = i + (j + 1) by omega]) hk hF (hPB.trans hPB') hQ
end
end Go.Pf

/- Functions that defer a call which does nothing, or range over a function which yields nothing: their contracts from the predicate transformer. -/
import Derived.Test.YtlefgpakmgbgaaaGreatDoorFg
set_option linter.unusedVariables false
set_option linter.unusedSimpArgs false
set_option linter.unusedSectionVars false
namespace Go.Hf
open Go.RowKit
section
variable [Tok]
def dfrOf (cats : List Nat) (ops : Array Oper) (draw : Bool) : Bool :=
  match ops, draw with
  | ⟨[o]⟩, false => match o.op, o.guard, o.dst with
    | .defer { callee := .value (.func fc), args := ⟨[_]⟩, argTypes := _ }, none, none => cats.contains fc
    | _, _, _ => false
  | _, _ => false
theorem dfrOf_ok {cats : List Nat} {ops : Array Oper} {draw : Bool} (h : dfrOf cats ops draw = true) : ∃ o fc x ts, ops = #[o] ∧ draw = false ∧ o.op = .defer { callee := .value (.func fc), args := #[x], argTypes := ts } ∧ o.guard = none ∧ o.dst = none ∧ fc ∈ cats := by
  unfold dfrOf at h
  split at h
  · rename_i o
    split at h
    · rename_i fc x ts h1 h2 h3
      exact ⟨o, fc, x, ts, rfl, rfl, h1, h2, h3, by simpa using h⟩
    · cases h
  · cases h
def rngPC (g : Operand) : PC := .region false [⟨none, none, .hcall g [.global 0] [false], [], []⟩]
def comp2 (P : Program) (H : Hints) (n : Nat) (cats : List Nat) : Code → PC
  | .skip => .skip
  | .region _ ops draw => if dfrOf cats ops draw then .skip else regionOf P H n ops draw
  | .seq a b => .seq (comp2 P H n cats a) (comp2 P H n cats b)
  | .cond c a b => if opndOk c then .cond c (comp2 P H n cats a) (comp2 P H n cats b) else badC
  | .block id b => .block id (comp2 P H n cats b)
  | .loop b => .loop (comp2 P H n cats b)
  | .exit id => .exit id
  | .label _ => .skip
  | .ret => .ret
  | .rangeFunc g _ _ _ => if opndOk g then rngPC g else badC
  | _ => badC
def GDs (P : Program) (B : Nat) (nb : Nat → Prop) (w : World) : List Deferred → Prop
  | [] => True
  | d :: ds => ((∃ r, d.target = .collected r ∧ B ≤ r ∧ r < w.heap.size ∧ w.heap[r]? = some (.deferred (some [])) ∧ ¬ nb r ∧ ∀ d' ∈ ds, d'.target ≠ .collected r) ∨ (∃ fc v, d = ⟨.fn (.func fc) #[], #[v]⟩ ∧ Enters P fc ∧ Cat P fc)) ∧ GDs P B nb w ds
theorem GDs.step {P : Program} {B : Nat} {nb nb' : Nat → Prop} {w w' : World} : ∀ {ds : List Deferred}, (w.heap.size ≤ w'.heap.size) → (∀ r, r < w.heap.size → ¬ nb r → (∃ d ∈ ds, d.target = .collected r) → w'.heap[r]? = w.heap[r]? ∧ ¬ nb' r) → GDs P B nb w ds → GDs P B nb' w' ds
  | [], _, _, _ => trivial
  | d :: ds, hs, h, hg => by
    refine ⟨?_, GDs.step hs (fun r hr hn he => h r hr hn (he.imp fun d hd => ⟨List.mem_cons_of_mem _ hd.1, hd.2⟩)) hg.2⟩
    rcases hg.1 with ⟨r, h1, h2, h3, h4, h5, h6⟩ | h1
    · obtain ⟨e1, e2⟩ := h r h3 h5 ⟨d, List.mem_cons_self, h1⟩
      exact .inl ⟨r, h1, h2, by omega, e1.trans h4, e2, h6⟩
    · exact .inr h1
theorem GDs.lt {P : Program} {B : Nat} {nb : Nat → Prop} {w : World} : ∀ {ds : List Deferred}, GDs P B nb w ds → ∀ d ∈ ds, ∀ r, d.target = .collected r → r < w.heap.size
  | d :: ds, hg, d', hd', r, hr => by
    rcases List.mem_cons.1 hd' with rfl | h
    · rcases hg.1 with ⟨r', h1, _, h3, _⟩ | ⟨fc, v, rfl, _⟩
      · rw [hr] at h1; cases h1; exact h3
      · cases hr
    · exact GDs.lt hg.2 d' h r hr
section
variable {P : Program} {H : Hints} {n B bs : Nat} {O : Nat → Prop} {gl : Gl} {g0 : Gh} {ob0 : Nat → Obj} {w00 : World} {c0 : Nat → Nat} {w0 : World} {cats : List Nat}
theorem FR.rebase {ds : List Deferred} {g : Gh} {s : St} {a : Act} {w : World} (h : FR gl (g0, ob0, w00, ds) n B O g s a w) : FR gl (g, s.objs, w, ds) n w.heap.size (Blk g s.objs) g s a w :=
  ⟨h.size, h.defers, Nat.le_refl _, h.env, h.obj, h.inj, fun k hl => ⟨.inr ⟨k, hl, rfl⟩, (h.fresh k hl).2⟩, ⟨ObStep.refl _ _, Ext.refl _ _⟩, h.glob⟩
theorem FR.notBlk {ds : List Deferred} {g : Gh} {s : St} {a : Act} {w : World} (h : FR gl (g0, ob0, w00, ds) n B O g s a w) {b : Nat} (hb : b < B) (hO : ¬ O b) : ¬ Blk g s.objs b := by
  rintro ⟨k, hl, rfl⟩
  rcases (h.fresh k hl).1 with h1 | h1
  · omega
  · exact hO h1
theorem FR.unbase {ds ds' : List Deferred} {g g' : Gh} {s s' : St} {a a' : Act} {w w' : World} (h : FR gl (g0, ob0, w00, ds) n B O g s a w) (h' : FR gl (g, s.objs, w, ds') n w.heap.size (Blk g s.objs) g' s' a' w') (hP : PB w.heap.size (Blk g s.objs) g.c w g'.c w') :
    FR gl (g0, ob0, w00, ds') n B O g' s' a' w' ∧ PB B O g.c w g'.c w' := by
  have hb := h.base
  refine ⟨⟨h'.size, h'.defers, Nat.le_trans hb h'.base, h'.env, h'.obj, h'.inj, fun k hl => ⟨?_, (h'.fresh k hl).2⟩, ⟨h.home.1.trans h'.home.1, h.home.2.trans h'.home.2⟩, h'.glob⟩,
    ⟨hP.os, hP.tape, hP.output, hP.size, fun b hb' hO => hP.block b (by omega) (h.notBlk hb' hO), fun b hb' hO => hP.c b (by omega) (h.notBlk hb' hO)⟩⟩
  rcases (h'.fresh k hl).1 with h1 | ⟨k0, hl0, h1⟩
  · exact .inl (by omega)
  · rw [← h1]; exact (h.fresh k0 hl0).1
theorem FR.other {ds : List Deferred} {g : Gh} {s : St} {a : Act} {w : World} (h : FR gl (g0, ob0, w00, ds) n B O g s a w) {r : Nat} {o o' : Go.Obj} (hr : B ≤ r) (hb : ¬ Blk g s.objs r) (ho : w.heap[r]? = some o) (hn : ∀ i, w.cell? ⟨r, i, none⟩ = none)
    (hn' : ∀ i, (w.putObj r o').cell? ⟨r, i, none⟩ = none) : FR gl (g0, ob0, w00, ds) n B O g s a (w.putObj r o') ∧ PB B O g.c w g.c (w.putObj r o') := by
  have hE : Ext g.c w g.c (w.putObj r o') := ⟨by simp, fun _ _ => Nat.le_refl _, fun b i _ _ => by
    by_cases e : b = r
    · subst e; rw [hn, hn']
    · simp only [World.cell?, World.putObj_heap_other e]⟩
  refine ⟨h.pass s.objs (fun _ => False) hE (ObStep.refl _ _) (fun _ _ => rfl) (fun k _ hl => ⟨rfl, rfl, rfl, World.putObj_heap_other (fun e => hb ⟨k, hl, e⟩)⟩) (fun k hk => hk.elim),
    ⟨rfl, rfl, rfl, by simp, fun b hb' _ => World.putObj_heap_other (by omega), fun _ _ _ => rfl⟩⟩
theorem cell_none_deferred {w : World} {r : Nat} {x : Option (List Deferred)} (h : w.heap[r]? = some (.deferred x)) (i : Nat) : w.cell? ⟨r, i, none⟩ = none := by simp [World.cell?, h]
theorem cell_none_loop {w : World} {r : Nat} {x : Loop} (h : w.heap[r]? = some (.loop x)) (i : Nat) : w.cell? ⟨r, i, none⟩ = none := by simp [World.cell?, h]
set_option maxHeartbeats 1000000 in
theorem sim_rng {g : Gh} {s : St} {a : Act} {w : World} {ds : List Deferred} {gop : Operand} {ps : Array Tmp} {assign body : Code} {Qp : PX → St → Prop} {Q : Exit → Act → World → Prop} (hgo : opndOk gop = true)
    (hp : pw gl P bs (rngPC gop) Qp s) (h : FR gl (g0, ob0, w00, ds) n B O g s a w) (hD : GDs P B (Blk g s.objs) w ds) (hPB : PB B O c0 w0 g.c w)
    (hQ : ∀ g' s' a' w' ds', Qp .normal s' → FR gl (g0, ob0, w00, ds') n B O g' s' a' w' → GDs P B (Blk g' s'.objs) w' ds' → PB B O c0 w0 g'.c w' → Q .normal a' w') : (Code.rangeFunc gop ps assign body).wp P Q a w := by
  simp only [rngPC, pw, pwOps, pwOp, wantedIn] at hp
  obtain ⟨_, hp⟩ := hp
  split at hp
  · rename_i fid caps hf
    simp only [prep, handArg, evalIn, shareArg, Bool.false_eq_true, if_false, List.nil_append, updAll] at hp
    obtain ⟨res, ob', hHC, _, hK⟩ := hp
    obtain ⟨hen, hcall⟩ := hHC
    have ef := h.opnd hgo
    have hcaps : ∃ cv : List Value, a.eval gop = .func (.func fid) #[] cv.toArray ∧ caps.length = cv.length ∧ ∀ (j : Nat) (q : PV) (u : Value), caps[j]? = some q → cv[j]? = some u → XR g w s.objs q u := by
      cases hev : evalIn s.env gop with
      | clo f' caps' =>
        rw [hev] at ef hf
        simp only [fnOf, Option.some.injEq, Prod.mk.injEq] at hf
        obtain ⟨rfl, rfl⟩ := hf
        obtain ⟨_, vs, e1, e2, e3⟩ := ef.clo_inv
        refine ⟨vs, e1, e2, fun j q u hq hu => ?_⟩
        rcases e3 j q u hq hu with ⟨rfl, rfl⟩ | h1
        · exact XR.sc rfl
        · refine .inr (.inl (.inr ?_))
          cases q with
          | clo => exact h1.elim
          | _ => exact h1
      | sc v =>
        rw [hev] at ef hf
        obtain ⟨ef1, ef2⟩ := ef.sc_inv
        unfold fnOf at hf
        split at hf
        · rename_i f0 heq
          cases heq
          cases hf
          exact ⟨[], ef1, rfl, by simp⟩
        · rename_i heq; cases heq
        · cases hf
      | _ => rw [hev] at hf; simp [fnOf] at hf
    obtain ⟨cv, hc1, hc2, hc3⟩ := hcaps
    refine wp_rangeFunc_none hc1 hen (fun L _ _ => ?_)
    have hbel : Below w.heap.size w ((w.alloc (.deferred (some []))).alloc (.loop L)) := ((Below.refl _ w).alloc (Nat.le_refl _) _).alloc (by simp) _
    generalize hW : ((w.alloc (.deferred (some []))).alloc (.loop L)) = W1 at hbel ⊢
    have hWd : W1.heap[w.heap.size]? = some (.deferred (some [])) := by rw [← hW]; exact (Below.heap_alloc _ _ _ (by simp)).trans (World.alloc_heap_new w _)
    have hWl : W1.heap[w.heap.size + 1]? = some (.loop L) := by
      rw [← hW]; have := World.alloc_heap_new (w.alloc (.deferred (some []))) (.loop L); rwa [World.size_alloc] at this
    have hWs : W1.heap.size = w.heap.size + 2 := by rw [← hW]; simp
    obtain ⟨F1, PB1⟩ := h.called (After.below h.heap hbel)
    have harr : (#[.func (.yield (w.heap.size + 1)) #[] #[]] ++ cv.toArray : Array Value) = (Value.func (.yield (w.heap.size + 1)) #[] #[] :: cv).toArray := by simp
    rw [harr]
    refine (hcall g W1 (Value.func (.yield (w.heap.size + 1)) #[] #[] :: cv) F1.glob F1.heap ⟨by simp [hc2], fun i p v hp hv => ?_⟩).mono ?_
    · cases i with
      | zero => simp at hp; subst hp; exact .inl rfl
      | succ i =>
        simp at hp hv
        exact (hc3 i p v hp hv).step (After.below h.heap hbel).ext (ObStep.refl _ _)
    · rintro e w3 ⟨v, g', rfl, hA, _⟩
      have hnb : ∀ r, w.heap.size ≤ r → ¬ Blk g s.objs r := by
        rintro r hr ⟨k, hl, rfl⟩
        have := (h.fresh k hl).2
        omega
      have hnb' : ∀ r, r < W1.heap.size → ¬ Blk g s.objs r → ¬ Blk g' ob' r := by
        rintro r hr hn ⟨k, hl, rfl⟩
        rcases hA.src k hl with h1 | h1
        · omega
        · exact hn h1
      obtain ⟨F3, PB3⟩ := F1.called hA
      have h3l : w3.heap[w.heap.size + 1]? = some (.loop L) := (hA.pres.block _ (by omega) (hnb _ (by omega))).trans hWl
      have h3d : w3.heap[w.heap.size]? = some (.deferred (some [])) := (hA.pres.block _ (by omega) (hnb _ (by omega))).trans hWd
      have hb := h.base
      have h4 := F3.other (o' := .loop { L with state := .exhausted }) (by omega) (hnb' _ (by omega) (hnb _ (by omega))) h3l (cell_none_loop h3l) (fun i => cell_none_loop (World.putObj_heap_same (Array.getElem?_eq_some_iff.1 h3l).1) i)
      generalize hW4 : w3.putObj (w.heap.size + 1) (.loop { L with state := .exhausted }) = W4 at h4 ⊢
      have h4o : ∀ r, r ≠ w.heap.size + 1 → W4.heap[r]? = w3.heap[r]? := fun r hr => by rw [← hW4]; exact World.putObj_heap_other hr
      have h4s : W4.heap.size = w3.heap.size := by rw [← hW4]; simp
      obtain ⟨F4, P4⟩ := h4
      have F5 : FR gl (g0, ob0, w00, { target := .collected w.heap.size, args := #[] } :: ds) n B O g' ⟨s.env, ob'⟩ { a with defers := { target := .collected w.heap.size, args := #[] } :: a.defers } W4 :=
        ⟨F4.size, congrArg (List.cons _) F4.defers, F4.base, F4.env, F4.obj, F4.inj, F4.fresh, F4.home, F4.glob⟩
      have hD5 : GDs P B (Blk g' ob') W4 ({ target := .collected w.heap.size, args := #[] } :: ds) := by
        refine ⟨.inl ⟨w.heap.size, rfl, hb, ?_, ?_, hnb' _ (by omega) (hnb _ (Nat.le_refl _)), fun d' hd' e => ?_⟩, ?_⟩
        · have := (Array.getElem?_eq_some_iff.1 h3d).1; omega
        · rw [h4o _ (by omega)]; exact h3d
        · have := hD.lt d' hd' _ e; omega
        · refine GDs.step ?_ (fun r hr hn _ => ⟨?_, hnb' r (by omega) hn⟩) hD
          · have := hA.ext.size; omega
          · rw [h4o _ (by omega), hA.pres.block r (by omega) hn, hbel.block r hr]
      exact ⟨⟨v, rfl⟩, h3l, hQ g' ⟨s.env, ob'⟩ _ W4 _ hK F5 hD5 (((hPB.trans PB1).trans PB3).trans P4)⟩
  · exact hp.elim
theorem sim_code2 (hm : P.follows .mixedOrders = true) (hcat : ∀ fc ∈ cats, Enters P fc ∧ Cat P fc) : ∀ (c : Code) (Qp : PX → St → Prop) (Q : Exit → Act → World → Prop) (g : Gh) (s : St) (a : Act) (w : World) (ds : List Deferred),
    pw gl P bs (comp2 P H n cats c) Qp s → FR gl (g0, ob0, w00, ds) n B O g s a w → GDs P B (Blk g s.objs) w ds → PB B O c0 w0 g.c w →
    (∀ x g' s' a' w' ds', Qp x s' → FR gl (g0, ob0, w00, ds') n B O g' s' a' w' → GDs P B (Blk g' s'.objs) w' ds' → PB B O c0 w0 g'.c w' → Q (toX x) a' w') → c.wp P Q a w := by
  intro c
  induction c with
  | skip => intro Qp Q g s a w ds hp h hD hPB hQ; exact wp_skip (hQ .normal g s a w ds hp h hD hPB)
  | region id ops draw =>
    intro Qp Q g s a w ds hp h hD hPB hQ
    simp only [comp2] at hp
    split at hp
    · rename_i hd
      obtain ⟨o, fc, x, ts, rfl, rfl, ho, hg, hdst, hfc⟩ := dfrOf_ok hd
      obtain ⟨hen, hc⟩ := hcat fc hfc
      refine wp_region ?_
      have hrun : (execOp a.eval o).run P w = .ok (.defer ⟨.fn (.func fc) #[], #[a.eval x]⟩) w := by
        simp only [execOp, ho, resolve]
        simp [Act.eval, go_sem]
      have hw : Region.wanted o (yielded #[o] a.tmps) = true := by simp [Region.wanted, hg]
      simp only [List.size_toArray, List.length_cons, List.length_nil, Nat.zero_add, List.range_one, wpOps, List.getElem?_toArray, List.getElem?_cons_zero, hw, if_true]
      left
      unfold Oper.wp
      rw [hrun, Oper.upon_defer, hdst]
      refine hQ .normal g s _ w (⟨.fn (.func fc) #[], #[a.eval x]⟩ :: ds) hp ⟨h.size, by simp [Act.put, h.defers], h.base, h.env, h.obj, h.inj, h.fresh, h.home, h.glob⟩ ⟨.inr ⟨fc, _, rfl, hen, hc⟩, hD⟩ hPB
    · refine sim_region hm hp h.rebase (PB.refl _ _ _ _) (fun x g' s' a' w' hq hF hP => ?_)
      obtain ⟨F2, P2⟩ := h.unbase hF hP
      refine hQ x g' s' a' w' ds hq F2 (hD.step hP.size (fun r hr hn _ => ⟨hP.block r hr hn, ?_⟩)) (hPB.trans P2)
      rintro ⟨k, hl, rfl⟩
      rcases (hF.fresh k hl).1 with h1 | h1
      · omega
      · exact hn h1
  | seq x y ihx ihy =>
    intro Qp Q g s a w ds hp h hD hPB hQ
    refine wp_seq (ihx (thenX (weak (pw gl P bs (comp2 P H n cats y) Qp)) Qp) _ g s a w ds hp h hD hPB (fun e g' s' a' w' ds' hk hF hD' hP => ?_))
    cases e with
    | normal =>
      obtain ⟨env', he, hk⟩ := hk
      exact ihy Qp Q g' ⟨env', s'.objs⟩ a' w' ds' hk (hF.weak he) hD' hP hQ
    | exit i => exact hQ (.exit i) g' s' a' w' ds' hk hF hD' hP
    | ret => exact hQ .ret g' s' a' w' ds' hk hF hD' hP
  | cond c x y ihx ihy =>
    intro Qp Q g s a w ds hp h hD hPB hQ
    simp only [comp2] at hp
    split at hp
    · rename_i hc
      have e := h.opnd hc
      simp only [pw] at hp
      split at hp
      · rename_i hv; rw [hv] at e; exact wp_cond_true e.sc_inv.1 (ihx Qp Q g s a w ds hp h hD hPB hQ)
      · rename_i hv; rw [hv] at e; exact wp_cond_false e.sc_inv.1 (ihy Qp Q g s a w ds hp h hD hPB hQ)
      · exact hp.elim
    · exact (pw_bad hp).elim
  | block id b ih =>
    intro Qp Q g s a w ds hp h hD hPB hQ
    refine wp_block (ih (inBlockX id Qp) _ g s a w ds hp h hD hPB (fun e g' s' a' w' ds' hk hF hD' hP => ?_))
    cases e with
    | normal => exact hQ .normal g' s' a' w' ds' hk hF hD' hP
    | exit i =>
      simp only [inBlockX] at hk
      simp only [toX, Exit.inBlock]
      by_cases hi : i = id
      · rw [if_pos hi] at hk ⊢; exact hQ .normal g' s' a' w' ds' hk hF hD' hP
      · rw [if_neg hi] at hk ⊢; exact hQ (.exit i) g' s' a' w' ds' hk hF hD' hP
    | ret => exact hQ .ret g' s' a' w' ds' hk hF hD' hP
  | loop b ih =>
    intro Qp Q g s a w ds hp h hD hPB hQ
    obtain ⟨m, hr⟩ := hp
    refine wp_loop_rounds m ?_
    induction m generalizing g s a w ds with
    | zero => exact hr.elim
    | succ m ihm =>
      obtain ⟨env', he, hr⟩ := hr
      refine ih (thenX (rounds (pw gl P bs (comp2 P H n cats b)) Qp m) Qp) _ g ⟨env', s.objs⟩ a w ds hr (h.weak he) hD hPB (fun e g' s' a' w' ds' hk hF hD' hP => ?_)
      cases e with
      | normal => exact ihm g' s' a' w' ds' hF hD' hP hk
      | exit i => exact hQ (.exit i) g' s' a' w' ds' hk hF hD' hP
      | ret => exact hQ .ret g' s' a' w' ds' hk hF hD' hP
  | exit id => intro Qp Q g s a w ds hp h hD hPB hQ; exact wp_exit (hQ (.exit id) g s a w ds hp h hD hPB)
  | label l => intro Qp Q g s a w ds hp h hD hPB hQ; exact wp_label (hQ .normal g s a w ds hp h hD hPB)
  | ret => intro Qp Q g s a w ds hp h hD hPB hQ; exact wp_ret (hQ .ret g s a w ds hp h hD hPB)
  | rangeFunc gop ps assign body =>
    intro Qp Q g s a w ds hp h hD hPB hQ
    simp only [comp2] at hp
    split at hp
    · rename_i hgo
      exact sim_rng hgo hp h hD hPB (fun g' s' a' w' ds' => hQ .normal g' s' a' w' ds')
    · exact (pw_bad hp).elim
  | scope _ => intro Qp Q g s a w ds hp; exact (pw_bad hp).elim
  | goto _ => intro Qp Q g s a w ds hp; exact (pw_bad hp).elim
  | refuse _ => intro Qp Q g s a w ds hp; exact (pw_bad hp).elim
theorem leave_all {fn : Func} {R : Ending → World → Prop} {g : Gh} {s : St} {a : Act} {ds0 : List Deferred} : ∀ {ds : List Deferred} {w : World}, FR gl (g0, ob0, w00, ds0) n B O g s a w → GDs P B (Blk g s.objs) w ds → PB B O c0 w0 g.c w →
    (∀ w', FR gl (g0, ob0, w00, ds0) n B O g s a w' → PB B O c0 w0 g.c w' → ∃ v, (results fn a.tmps).run P w' = .ok v w' ∧ R (.returned v) w') → LeavesM P fn a.tmps R ds w
  | [], w, h, _, hP, hR => hR w h hP
  | d :: ds, w, h, hD, hP, hR => by
    rcases hD.1 with ⟨r, h1, h2, h3, h4, h5, h6⟩ | ⟨fc, v, e, h1, h2⟩
    · have ho := h.other (o' := .deferred none) h2 h5 h4 (cell_none_deferred h4) (fun i => cell_none_deferred (World.putObj_heap_same h3) i)
      refine .inl ⟨r, _, h1, run_takeDeferred h4, leave_all ho.1 (GDs.step (by simp) (fun r' hr' hn he => ⟨World.putObj_heap_other ?_, hn⟩) hD.2) (hP.trans ho.2) hR⟩
      rintro rfl
      obtain ⟨d', hd', e'⟩ := he
      exact h6 d' hd' e'
    · exact .inr ⟨fc, v, e, h1, h2, leave_all h hD.2 hP hR⟩
end
theorem HC_of_pw2 {P : Program} {gl : Gl} {H : Hints} {cats : List Nat} {f : Nat} {fn : Func} {body : Code} {args : List PV} {ob obF : Nat → Obj} {res : PV} (bs : Nat) (rfz : List Bool) (rvs : List RV) (hmix : P.follows .mixedOrders = true) (hcat : ∀ fc ∈ cats, Enters P fc ∧ Cat P fc) (hf : P.funcs[f]? = some fn) (hb : fn.body = some body)
    (hname : (fn.name == "runtime.NumGoroutine") = false) (hn : args.length ≤ fn.ntmps) (hrv : rvsOf P fn.results.toList = some rvs)
    (hp : pw gl P bs (comp2 P H fn.ntmps cats body) (Fin rfz rvs ob obF res) (initSt args ob)) : HC gl P f args ob res obF := by
  refine ⟨⟨fn, hf, hname, by rw [hb]; rfl⟩, fun g w vs hG hH hA => ?_⟩
  have F0 := FR.start hG hH hA hn
  refine calls_of_wp_marks hf hb ?_
  refine sim_code2 (bs := bs) (c0 := g.c) (w0 := w) hmix hcat body (Fin rfz rvs ob obF res) _ g (initSt args ob) _ w [] hp F0 trivial (PB.refl _ _ _ _) ?_
  have key : ∀ g' s' a' w' ds', (∃ vals qs us, rvVals s' rvs = some vals ∧ handAll s'.objs rfz vals = some (qs, us) ∧ qs.all tupOk = true ∧ res = pack qs ∧ Kept ob (updAll s'.objs us) obF res) → FR gl (g, ob, w, ds') fn.ntmps w.heap.size (Blk g ob) g' s' a' w' → GDs P w.heap.size (Blk g' s'.objs) w' ds' → PB w.heap.size (Blk g ob) g.c w g'.c w' →
      LeavesM P fn a'.tmps (fun e w' => ∃ v g', e = .returned v ∧ After g w ob g' w' obF ∧ XR g' w' obF res v) a'.defers w' := by
    rintro g' ⟨env, ob'⟩ a w' ds' ⟨vals, qs, us, hv1, hv2, hone, rfl, hK⟩ hF hD hP
    rw [hF.defers]
    refine leave_all hF hD hP (fun w2 hF hP => ?_)
    obtain ⟨vs', hu1, hu2, hu3, hu4, hu5⟩ := results_run (fn := fn) hF hrv hv1
    obtain ⟨g2, F2, PB2, _, S2, L2, V2⟩ := share_rvs fn.results.toList rfz rvs vals qs us vs' g' ob' hF (Sh.refl ob') hrv hv1 hu3 hu4 hv2
    refine ⟨packV vs', hu1, packV vs', g2, rfl, F2.after hH (hP.trans PB2) hK, ?_⟩
    exact (XR.of_pack L2 V2 hone).keep hK.res
  intro x g' s' a' w' ds' hk hF hD hP
  cases x with
  | exit i => exact hk.elim
  | normal => exact key g' s' a' w' ds' hk hF hD hP
  | ret => exact key g' s' a' w' ds' hk hF hD hP
noncomputable def FnD.den2 (P : Program) (cats : List Nat) (d : FnD) : Bd := denF d.np 1000000 (ann (comp2 P d.H d.fn.ntmps cats (bodyOf d.fn)) d.lv).1 d.rvs d.rfz
theorem body_ok2 {gl : Gl} {P : Program} {cats : List Nat} (d : FnD) {g : Bd} (hmix : P.follows .mixedOrders = true) (hcat : ∀ fc ∈ cats, Enters P fc ∧ Cat P fc) (hf : P.funcs[d.f]? = some d.fn) (hb : d.fn.body.isSome = true)
    (hname : (d.fn.name == "runtime.NumGoroutine") = false) (hnp : Nat.ble d.np d.fn.ntmps = true) (hrv : rvsOf P d.fn.results.toList = some d.rvs) (hg : g = d.den2 P cats) : BodyOk gl P d.f g := by
  intro u hu args ub segs res ub' segs' dirty h
  subst hg
  have hb' : d.fn.body = some (bodyOf d.fn) := by
    unfold bodyOf
    cases hh : d.fn.body with
    | none => rw [hh] at hb; cases hb
    | some b => rfl
  refine denF_okG hu (m := d.fn.ntmps) (Nat.le_of_ble_eq_true hnp) (fun ub args ob obF res hl hp => ?_) h
  rw [ann_pc] at hp
  exact HC_of_pw2 ub d.rfz d.rvs hmix hcat hf hb' hname hl hrv hp
end
end Go.Hf

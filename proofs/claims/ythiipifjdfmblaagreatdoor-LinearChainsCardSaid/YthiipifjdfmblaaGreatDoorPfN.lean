/- Pure frames, part N: bytes to a string; calls. -/
import Derived.Test.YthiipifjdfmblaaGreatDoorPfM
set_option linter.unusedVariables false
set_option linter.unusedSimpArgs false
namespace Go.Pf
open Go.RowKit

section
variable {P : Program} {n B : Nat} {O : Option Nat} {gl : Gl} {ph : Option (Nat × Value)} {g : Gh} {s : St} {a : Act} {w w' : World} {o : Oper} {K : Act → World → Prop} {Q : Exit → Act → World → Prop}

theorem bytesOf_inv : ∀ {es : List (List PV)} {l : List UInt8}, bytesOf es = some l → ∃ ns : List Int, es = ns.map (fun m => [PV.sc (.int .u8 m)]) ∧ l = ns.map (fun m => UInt8.ofNat m.toNat)
  | [], l, h => by simp only [bytesOf, Option.some.injEq] at h; subst h; exact ⟨[], rfl, rfl⟩
  | cs :: r, l, h => by
    unfold bytesOf at h
    split at h
    · rename_i heq; cases heq
    · rename_i m r' heq
      cases heq
      simp only [Option.map_eq_some_iff] at h
      obtain ⟨l', h1, rfl⟩ := h
      obtain ⟨ns, rfl, rfl⟩ := bytesOf_inv h1
      exact ⟨m :: ns, rfl, rfl⟩
    · simp at h

theorem foldl_push_bytes : ∀ (ns : List Int) (b : ByteArray), ns.foldl (fun r m => r.push (UInt8.ofNat m.toNat)) b = ⟨(b.data.toList ++ ns.map (fun m => UInt8.ofNat m.toNat)).toArray⟩
  | [], b => by simp
  | m :: ns, b => by
    rw [List.foldl_cons, foldl_push_bytes ns]
    simp [ByteArray.push]

theorem sim_b2s {x : Operand} {p : PV} {us : List (Nat × Obj)} (h : FR gl ph n B O g s a w) (hd : ∀ t, o.dst = some t → t < n) (hr : Rs P o (.b2s x))
    (hp : pop (evalIn s.env) s.objs (o.dst.getD 0) (.b2s x) = some (p, us)) (hk : Owed gl ph n B O g w ⟨put s.env o.dst p, updAll s.objs us⟩ K) : o.wp P a w K Q := by
  obtain ⟨t1, t2, e, ho, h1, h2, h3, hx⟩ := hr
  simp only [pop, Option.map_eq_some_iff, Prod.mk.injEq, Option.bind_eq_some_iff] at hp
  obtain ⟨l, ⟨es, hes, hl⟩, rfl, rfl⟩ := hp
  obtain ⟨ns, rfl, rfl⟩ := bytesOf_inv hl
  refine sim_val h hd (v := .string ⟨(ns.map (fun m => UInt8.ofNat m.toNat)).toArray⟩) ?_ (.sc rfl) hk
  rcases h.news hx hes with ⟨e1, e2⟩ | ⟨ad, cap, news, e1, e2, e3, e4, e5, e6⟩
  · have hns : ns = [] := by simpa using e2
    subst hns
    simp only [execOp, ho, e1, Sem.run_bind, run_convert_bytes_string w t1 t2 e none 0 0 h1 h2 h3, Conv.bytesToString, Sem.run_pure, Result.andThen_ok]
    rfl
  · have hnews : news = ns.map (Value.int .u8) := by
      apply List.ext_getElem?
      intro j
      by_cases hj : j < ns.length
      · obtain ⟨u, q1, q2, q3⟩ := e6 j 0 [.sc (.int .u8 ns[j])] (.sc (.int .u8 ns[j])) (by simp [hj]) rfl
        have := q3.sc_inv.1
        subst this
        simp only [Nat.mul_one, Nat.add_zero] at q1
        rw [q1]; simp [hj]
      · rw [List.getElem?_eq_none (by rw [e2]; simp; omega), List.getElem?_eq_none (by simp; omega)]
    subst hnews
    have hload := run_loadCells_list (P := P) w ad (ns.map (Value.int .u8)) e3
    have hlen : (ns.map fun m => [PV.sc (.int .u8 m)]).length = (ns.map (Value.int .u8)).length := by simp
    rw [hlen] at e1
    have hb := run_bytesToString (P := P) w ad (ns.map (Value.int .u8)).length cap ns hload
    simp only [execOp, ho, e1, Sem.run_bind, run_convert_bytes_string w t1 t2 e (some ad) _ _ h1 h2 h3, hb, Sem.run_pure, Result.andThen_ok]
    rw [foldl_push_bytes]
    simp [ByteArray.empty, ByteArray.emptyWithCapacity]
    rfl

theorem run_call {fid : FuncId} {f : Operand} {args : List Operand} {ts : Array TypeId} (ho : o.op = .call { callee := .value f, args := args.toArray, argTypes := ts }) (hf : a.eval f = .func (.func fid) #[] #[]) (hen : Enters P fid) :
    (execOp a.eval o).run P w = .ok (.enter fid (args.map a.eval).toArray) w := by
  obtain ⟨fn, h1, h2, h3⟩ := hen
  simp only [execOp, ho, resolve, hf, Deferred.ofValue, Sem.run_bind, Sem.run_pure, Result.andThen_ok, invoke, callFunc, program, Sem.run, h1, h2, h3, Bool.false_eq_true, if_false]
  simp

theorem VR.not_own {c : Nat → Nat} {p : PV} {v : Value} (h : VR c w p v) : ∀ e sz raw es, p ≠ .own e sz raw es := by
  intro e sz raw es hp; subst hp; cases h

theorem ArgR.of_VR {c : Nat → Nat} {p : PV} {v : Value} (h : VR c w p v) : ArgR c w p v := by
  cases p with
  | own e sz raw es => cases h
  | _ => exact h

/-- Behind a call that has turned nothing of what was there but, perhaps, the block of the object k. -/
theorem FR.called (h : FR gl ph n B O g s a w) {c' : Nat → Nat} {w' : World} (hP : Pres g.c w c' w' none) : FR gl ph n B O ⟨c', g.blk, g.cap⟩ s a w' ∧ PB B O g.c w c' w' ∧ Ext g.c w c' w' := by
  have hE : Ext g.c w c' w' := ⟨hP.size, fun b hb => by rw [hP.c b hb (by simp)]; exact Nat.le_refl _, fun b i hb _ => by simp only [World.cell?, hP.block b hb (by simp)]⟩
  have hb := h.base
  refine ⟨?_, ⟨hP.os, hP.tape, hP.output, hP.size, fun b hb' _ => hP.block b (by omega) (by simp), fun b hb' _ => hP.c b (by omega) (by simp)⟩, hE⟩
  have := h.pass (g' := ⟨c', g.blk, g.cap⟩) s.objs (fun _ => False) hE (ObStep.refl g s.objs) (fun _ _ => rfl) (fun k _ hl => ⟨rfl, rfl, hP.c _ (h.fresh k hl).2 (by simp), hP.block _ (h.fresh k hl).2 (by simp)⟩) (fun _ hf => hf.elim)
  exact this

/-- A slice with a block of its own becomes an object of the frame. -/
theorem FR.adopt (h : FR gl ph n B O g s a w) (d e sz : Nat) (raw : Bool) (es : List (List PV)) {b cap : Nat} {arr : Array Value} (hb : w.heap[b]? = some (.cells arr e (0, 0))) (hsz : arr.size = cap * sz) (hl : es.length ≤ cap) (hm : cap ≤ maxLen)
    (hE : ERel (VR g.c w) sz es arr) (hraw : raw = true → g.c b = 0) (hc : g.c b ≤ es.length * sz) (hB : B ≤ b ∨ O = some b) (hblt : b < w.heap.size) (hfree : ∀ k, k ≠ d → (s.objs k).live → g.blk k ≠ b) :
    FR gl ph n B O ⟨g.c, upd g.blk d b, upd g.cap d cap⟩ ⟨s.env, upd s.objs d (.bld ((s.objs d).stamp + 1) e sz es raw)⟩ a w ∧
      ObStep g s.objs ⟨g.c, upd g.blk d b, upd g.cap d cap⟩ (upd s.objs d (.bld ((s.objs d).stamp + 1) e sz es raw)) := by
  have hS : ObStep g s.objs ⟨g.c, upd g.blk d b, upd g.cap d cap⟩ (upd s.objs d (.bld ((s.objs d).stamp + 1) e sz es raw)) := by
    intro k
    by_cases hk : k = d
    · subst hk
      simp only [upd_same]
      refine ⟨by simp [Obj.stamp], (fun cs hc => by cases hc), fun e' sz' es' raw' hc => ?_⟩
      simp at hc
    · simp only [upd_ne _ _ hk]
      exact ⟨Nat.le_refl _, fun cs hc => ⟨⟨cs, hc⟩, by simp⟩, fun e sz es raw hc => ⟨⟨es, raw, hc, Nat.le_refl _⟩, by simp, by simp⟩⟩
  refine ⟨h.pass (g' := ⟨g.c, upd g.blk d b, upd g.cap d cap⟩) (upd s.objs d (.bld ((s.objs d).stamp + 1) e sz es raw)) (· = d) (Ext.refl _ _) hS (fun k hk => upd_ne _ _ hk) (fun k hk hl' => ⟨upd_ne _ _ hk, upd_ne _ _ hk, rfl, rfl⟩) (fun k hk hl' => ?_), hS⟩
  subst hk
  refine ⟨?_, by simp only [upd_same]; exact hB, by simp only [upd_same]; exact hblt, fun k' hk' hl2 => ?_⟩
  · rw [upd_same]
    refine ⟨arr, by simp only [upd_same]; exact hb, by simp only [upd_same]; exact hsz, by simp only [upd_same]; exact hl, by simp only [upd_same]; exact hm, hE.1, hE.2, by simp only [upd_same]; exact hraw, by simp only [upd_same]; exact hc⟩
  · rw [upd_ne _ _ hk'] at hl2
    simp only [upd_same, upd_ne _ _ hk']
    exact hfree k' hk' hl2

/-- The result of a call comes into the frame. -/
theorem FR.finish (h : FR gl ph n B O g s a w) {ob0 : Nat → Obj} (hst : ∀ k, (s.objs k).stamp = (ob0 k).stamp) {d : Option Nat} (hd : ∀ t, d = some t → t < n) {res : PV} {v : Value} {may : Nat → Prop} (hR : ResR g.c w may res v)
    (hmay : ∀ b, may b → (B ≤ b ∨ O = some b) ∧ ∀ k, (s.objs k).live → g.blk k ≠ b) :
    ∃ g', FR gl ph n B O g' ⟨Pf.put s.env d (Pf.adopt ob0 (d.getD 0) res).1, updAll s.objs (Pf.adopt ob0 (d.getD 0) res).2⟩ (a.put d v) w ∧ g'.c = g.c := by
  have own : ∀ {e sz : Nat} {raw : Bool} {es : List (List PV)} {u : Value}, OwnR g.c w u e sz raw es → (∀ (a : Addr) (l cap : Nat), u = .slice (some a) l cap → may a.block) →
      ∃ g', FR gl ph n B O g' ⟨s.env, upd s.objs (d.getD 0) (.bld ((ob0 (d.getD 0)).stamp + 1) e sz es raw)⟩ a w ∧ g'.c = g.c ∧ ObStep g s.objs g' (upd s.objs (d.getD 0) (.bld ((ob0 (d.getD 0)).stamp + 1) e sz es raw)) ∧
        KR g' w (upd s.objs (d.getD 0) (.bld ((ob0 (d.getD 0)).stamp + 1) e sz es raw)) (.bld (d.getD 0) ((ob0 (d.getD 0)).stamp + 1) 0 es.length) u := by
    intro e sz raw es u hO hm
    obtain ⟨b, cap, arr, rfl, h1, h2, h3, h4, h5, h6, h7, h8⟩ := hO
    obtain ⟨m1, m2⟩ := hmay b (hm _ _ _ rfl)
    have hblt : b < w.heap.size := by
      rcases Nat.lt_or_ge b w.heap.size with hb | hb
      · exact hb
      · rw [Array.getElem?_eq_none hb] at h1; cases h1
    have hA := h.adopt (d.getD 0) e sz raw es h1 h2 h3 h4 ⟨h5, h6⟩ h7 h8 m1 hblt (fun k _ hl => m2 k hl)
    rw [hst] at hA
    refine ⟨_, hA.1, rfl, hA.2, .inr ⟨by simp [upd, Obj.stamp], _, _, _, rfl, h3, h4, fun e' sz' es' raw' hob => ?_⟩⟩
    rw [upd_same] at hob
    cases hob
    simp [upd]
  have plain : ∀ {p : PV}, VR g.c w p v → (Pf.adopt ob0 (d.getD 0) p).1 = p → (Pf.adopt ob0 (d.getD 0) p).2 = [] →
      ∃ g', FR gl ph n B O g' ⟨Pf.put s.env d (Pf.adopt ob0 (d.getD 0) p).1, updAll s.objs (Pf.adopt ob0 (d.getD 0) p).2⟩ (a.put d v) w ∧ g'.c = g.c := by
    intro p hV e1 e2
    rw [e1, e2]
    exact ⟨g, h.put d hd (.inr (.inl (.inl hV))), rfl⟩
  cases res with
  | own e sz raw es =>
    obtain ⟨g', F, hc, hS, hX⟩ := own hR.1 hR.2
    exact ⟨g', F.put d hd (.inr (.inl hX)), hc⟩
  | tup ps =>
    obtain ⟨vs, rfl, hl, hv⟩ := hR
    match ps, hl, hv with
    | [], hl, hv =>
      refine ⟨g, h.put d hd (p := .tup []) (.inr (.inr (.inr ⟨[], vs, rfl, rfl, hl, by simp⟩))), rfl⟩
    | p :: ps, hl, hv =>
      match vs, hl, hv with
      | u :: vs, hl, hv =>
        have htail : ∀ (j : Nat) (q : PV) (x : Value), ps[j]? = some q → vs[j]? = some x → VR g.c w q x := by
          intro j q x hq hx
          rcases hv (j + 1) q x (by simpa using hq) (by simpa using hx) with h1 | ⟨h1, _⟩
          · exact h1
          · omega
        rcases hv 0 p u rfl rfl with h1 | ⟨_, e, sz, raw, es, rfl, hO, hm⟩
        · have hno := h1.not_own
          have e1 : Pf.adopt ob0 (d.getD 0) (.tup (p :: ps)) = (.tup (p :: ps), []) := by
            cases p with
            | own e sz raw es => exact absurd rfl (hno e sz raw es)
            | _ => rfl
          rw [e1]
          refine ⟨g, h.put d hd (.inr (.inr (.inr ⟨p :: ps, u :: vs, rfl, rfl, hl, fun j q x hq hx => ?_⟩))), rfl⟩
          cases j with
          | zero => simp at hq hx; subst hq; subst hx; exact .inl h1
          | succ j => exact .inl (htail j q x (by simpa using hq) (by simpa using hx))
        · obtain ⟨g', F, hc, hS, hX⟩ := own hO hm
          refine ⟨g', F.put d hd (p := .tup (.bld (d.getD 0) ((ob0 (d.getD 0)).stamp + 1) 0 es.length :: ps)) (.inr (.inr (.inr ⟨_, u :: vs, rfl, rfl, by simpa using hl, fun j q x hq hx => ?_⟩))), hc⟩
          cases j with
          | zero => simp at hq hx; subst hq; subst hx; exact hX
          | succ j => exact .inl (by rw [hc]; exact htail j q x (by simpa using hq) (by simpa using hx))
  | undef => exact plain hR rfl rfl
  | sc _ => exact plain hR rfl rfl
  | agg _ => exact plain hR rfl rfl
  | lst _ _ => exact plain hR rfl rfl
  | eptr _ _ => exact plain hR rfl rfl
  | bptr _ _ _ => exact plain hR rfl rfl
  | bld _ _ _ _ => exact plain hR rfl rfl
  | kptr _ _ _ _ => exact plain hR rfl rfl

theorem func_inv {fid : FuncId} {x y : Array Value} (h : scalarV (.func (.func fid) x y) = true) : x = #[] ∧ y = #[] := by
  obtain ⟨x⟩ := x
  obtain ⟨y⟩ := y
  cases x <;> cases y <;> simp_all [scalarV]

theorem ownBlk_none {c : Nat → Nat} {ps : List PV} {vs : List Value} (h : ∀ (j : Nat) (q : PV) (u : Value), ps[j]? = some q → vs[j]? = some u → VR c w q u) : ownBlk ps vs = none := by
  match ps, vs with
  | [], _ => rfl
  | p :: ps, [] => cases p <;> rfl
  | p :: ps, v :: vs =>
    have := h 0 p v rfl rfl
    cases p with
    | own e sz raw es => cases this
    | _ => rfl

/-- A call whose arguments are only read. -/
theorem sim_call_imm {f : Operand} {args : List Operand} {modes : List Mode} {fid : FuncId} {x y : Array Value} {ps : List PV} {us : List (Nat × Obj)} {res : PV} {out : List (List PV)} (h : FR gl ph n B O g s a w) (hd : ∀ t, o.dst = some t → t < n)
    (hr : Rs P o (.call f args modes)) (hf : evalIn s.env f = .sc (.func (.func fid) x y)) (hm : headMode modes = .imm) (hprep : prep (evalIn s.env) s.objs (headMode modes) args = some (ps, us))
    (hRC : RC gl P fid (headMode modes) ps res out)
    (hk : Owed gl ph n B O g w ⟨put s.env o.dst (Pf.adopt s.objs (o.dst.getD 0) res).1, updAll s.objs (us ++ outUpd s.objs (headMode modes) (firstOf (evalIn s.env) args) out ++ (Pf.adopt s.objs (o.dst.getD 0) res).2)⟩ K) : o.wp P a w K Q := by
  obtain ⟨ts, ho, hfo, hargs⟩ := hr
  have ef := h.opnd hfo
  rw [hf] at ef
  obtain ⟨ef1, ef2⟩ := ef.sc_inv
  obtain ⟨rfl, rfl⟩ := func_inv ef2
  rw [hm] at hprep hk hRC
  simp only [prep, Option.map_eq_some_iff, Prod.mk.injEq] at hprep
  obtain ⟨qs, hqs, rfl, rfl⟩ := hprep
  obtain ⟨g1, F1, PB1, E1, S1, L1, V1⟩ := FR.shareOpnds args qs g s h (Sh.refl _) hargs hqs
  obtain ⟨hen, hcall⟩ := hRC
  have hV : ∀ (j : Nat) (q : PV) (u : Value), qs[j]? = some q → (args.map a.eval)[j]? = some u → VR g1.c w q u := by
    intro j q u hq hu
    simp only [List.getElem?_map, Option.map_eq_some_iff] at hu
    obtain ⟨x, hx, rfl⟩ := hu
    exact V1 j q x hq hx
  have hblk := ownBlk_none hV
  refine wp_enter (run_call ho ef1 hen) ((hcall g1.c w (args.map a.eval) F1.glob ⟨by simp [L1], fun j q u hq hu => ArgR.of_VR (hV j q u hq hu)⟩).mono ?_)
  rintro e w2 ⟨v, c', rfl, hP, hR, _⟩
  refine ⟨v, rfl, ?_⟩
  rw [hblk] at hP
  obtain ⟨F2, PB2, E2⟩ := F1.called hP
  obtain ⟨g3, F3, hc3⟩ := F2.finish (ob0 := s.objs) (fun k => S1.stamp k) hd hR (fun b hb => by
    rcases hb with hb | ⟨hb, _⟩
    · refine ⟨.inl (Nat.le_trans h.base hb), fun k hl e => ?_⟩
      have := (F1.fresh k hl).2
      have e' : g1.blk k = b := e
      omega
    · cases hb)
  refine hk g3 _ w2 ?_ (PB1.trans (by rw [hc3]; exact PB2))
  simp only [outUpd, List.append_nil, updAll_append]
  exact F3
end
end Go.Pf

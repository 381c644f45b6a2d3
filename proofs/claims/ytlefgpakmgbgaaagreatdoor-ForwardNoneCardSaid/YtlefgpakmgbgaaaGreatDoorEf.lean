/- Frames over one store, part O: functions that capture variables; maps. -/
import Derived.Test.YtlefgpakmgbgaaaGreatDoorEe
set_option linter.unusedVariables false
set_option linter.unusedSimpArgs false
set_option linter.unusedSectionVars false
namespace Go.Hf
open Go.RowKit
section
variable {P : Program} {n B bs : Nat} {O : Nat → Prop} {gl : Gl} {ph : Gh × (Nat → Obj) × World × List Deferred} {g : Gh} {s : St} {a : Act} {w w' : World} {o : Oper} {K : Act → World → Prop} {Q : Exit → Act → World → Prop}
theorem sim_mkfun {f : Nat} {caps : List Operand} {p : PV} {us : List (Nat × Obj)} (h : FR gl ph n B O g s a w) (hd : ∀ t, o.dst = some t → t < n) (hr : Rs P o (.mkfun f caps))
    (hp : pop (evalIn s.env) s.objs (bs + o.dst.getD 0) (.mkfun f caps) = some (p, us)) (hk : Owed gl ph n B O g w ⟨put s.env o.dst p, updAll s.objs us⟩ K) : o.wp P a w K Q := by
  obtain ⟨ho, hok⟩ := hr
  have hrun : (execOp a.eval o).run P w = .ok (.value (.func (.func f) #[] (caps.map a.eval).toArray)) w := by
    simp [execOp, ho, Instr.makeFunc]
  simp only [pop] at hp
  split at hp
  · rename_i hl
    cases hp
    have : caps = [] := List.length_eq_zero_iff.1 hl
    subst this
    exact sim_val h hd hrun (.sc rfl) hk
  · split at hp
    · rename_i hc
      cases hp
      refine sim_val h hd hrun (.inr (.inl (.inr ?_))) hk
      simp only [capsOk, Bool.and_eq_true, List.all_eq_true, List.any_eq_true] at hc
      obtain ⟨hc1, q0, hq0, hc2⟩ := hc
      refine ⟨?_, caps.map a.eval, rfl, by simp, fun j q u hq hu => ?_⟩
      · intro hnil
        rw [List.flatMap_eq_nil_iff] at hnil
        have := hnil q0 hq0
        cases q0 <;> simp_all [PV.key0]
      · simp only [List.getElem?_map, Option.map_eq_some_iff] at hq hu
        obtain ⟨x, hx, rfl⟩ := hq
        obtain ⟨x', hx', rfl⟩ := hu
        rw [hx] at hx'
        cases hx'
        have ex := h.opnd (List.all_eq_true.1 hok x (List.mem_of_getElem? hx))
        have hcap := hc1 (evalIn s.env x) (List.mem_map.2 ⟨x, List.mem_of_getElem? hx, rfl⟩)
        cases hev : evalIn s.env x with
        | bptr k st off =>
          rw [hev] at ex
          exact .inr (ex.ref_inv (by simp [PV.key, PV.key0]))
        | sc v =>
          rw [hev] at ex hcap
          unfold capOk at hcap
          split at hcap
          · rename_i heq; cases heq
          · rename_i heq; cases heq; exact .inl ⟨rfl, ex.sc_inv.1⟩
          · cases hcap
        | _ => rw [hev] at hcap; simp [capOk] at hcap
    · cases hp
theorem sim_mkmap {p : PV} {us : List (Nat × Obj)} (h : FR gl ph n B O g s a w) (hd : ∀ t, o.dst = some t → t < n) (hr : Rs P o .mkmap)
    (hp : pop (evalIn s.env) s.objs (bs + o.dst.getD 0) .mkmap = some (p, us)) (hk : Owed gl ph n B O g w ⟨put s.env o.dst p, updAll s.objs us⟩ K) : o.wp P a w K Q := by
  obtain ⟨t, ho, _⟩ := hr
  have hrun : (execOp a.eval o).run P w = .ok (.value (.map (some w.heap.size))) (w.alloc (.map #[] 0)) := by
    simp [execOp, ho, Instr.makeMap, run_newObj]
  simp only [pop] at hp
  cases hp
  generalize bs + o.dst.getD 0 = d at *
  have hw : (w.alloc (.map #[] 0)).heap = w.heap.push (.map #[] 0) := rfl
  have hx : (s.objs d).stamp < (Obj.map ((s.objs d).stamp + 1) []).stamp := Nat.lt_succ_self _
  have hF := h.new (w' := w.alloc (.map #[] 0)) d 0 (.map ((s.objs d).stamp + 1) []) hx hw (by
    refine ⟨#[], 0, ?_, rfl, ?_, rfl⟩
    · simp only [Gh.new, upd_same]; exact heap_push_new hw
    · simp [Gh.new, upd])
  refine wp_value hrun (hk _ _ _ (hF.put o.dst hd (p := .mref d ((s.objs d).stamp + 1)) (v := .map (some w.heap.size)) (.inr (.inl (.inr ⟨by simp [upd, Obj.stamp], _, rfl, fun es _ => by simp [Gh.new, upd]⟩)))) (PB.push h hw rfl rfl rfl))
theorem bytes_eq (a b : ByteArray) : (a == b) = (a.data.toList == b.data.toList) := by
  rw [Bool.eq_iff_iff, beq_iff_eq (a := a.data.toList)]
  show (a.data == b.data) = true ↔ _
  rw [beq_iff_eq]
  exact ⟨fun h => by rw [h], fun h => Array.toList_inj.1 h⟩
theorem sameNow_eq {kd : Nat} {d : TypeDesc} {x k : Value} (hd : keyD kd d = true) (hx : keyV kd x = true) (hs : sameKind x k = true) : Instr.sameNow d x k = some (sameKey x k) := by
  cases x with
  | int j a =>
    cases k with
    | int j' b =>
      simp only [sameKind, beq_iff_eq] at hs
      subst hs
      match kd, hx with
      | 0, _ => cases d <;> simp_all [Instr.sameNow, sameKey, keyD]
      | 1, hx => simp [keyV] at hx
      | 2, hx => simp [keyV] at hx
      | _ + 3, hx => simp [keyV] at hx
    | _ => simp [sameKind] at hs
  | string a =>
    cases k with
    | string b =>
      match kd, hx with
      | 0, hx => simp [keyV] at hx
      | 1, _ => cases d <;> simp_all [Instr.sameNow, sameKey, keyD, bytes_eq]
      | 2, hx => simp [keyV] at hx
      | _ + 3, hx => simp [keyV] at hx
    | _ => simp [sameKind] at hs
  | bool a =>
    cases k with
    | bool b =>
      match kd, hx with
      | 0, hx => simp [keyV] at hx
      | 1, hx => simp [keyV] at hx
      | 2, _ => cases d <;> simp_all [Instr.sameNow, sameKey, keyD]
      | _ + 3, hx => simp [keyV] at hx
    | _ => simp [sameKind] at hs
  | _ => simp [keyV] at hx
def findAt : List (Value × Value) → Value → Nat → Option (Nat × Value)
  | [], _, _ => none
  | (k, v) :: r, x, i => if sameKey x k then some (i, v) else findAt r x (i + 1)
theorem findNow_eq {kd : Nat} {d : TypeDesc} {x : Value} (hd : keyD kd d = true) (hx : keyV kd x = true) : ∀ (es : List MapEntry) (i : Nat), (∀ e ∈ es, sameKind x e.key = true) →
    Instr.findNow d x es i = some (findAt (es.map fun e => (e.key, e.val)) x i)
  | [], _, _ => rfl
  | e :: es, i, h => by
    simp only [Instr.findNow, List.map_cons, findAt]
    rw [sameNow_eq hd hx (h e (by simp))]
    cases sameKey x e.key
    · simp only [Bool.false_eq_true, if_false]; exact findNow_eq hd hx es (i + 1) (fun e' he' => h e' (by simp [he']))
    · rfl
theorem findAt_get : ∀ (es : List (Value × Value)) (x : Value) (i : Nat), (findAt es x i).map (·.2) = mapGet es x
  | [], _, _ => rfl
  | (k, v) :: r, x, i => by
    simp only [findAt, mapGet]
    split
    · rfl
    · exact findAt_get r x (i + 1)
theorem findAt_put_none : ∀ (es : List (Value × Value)) (x y : Value) (i : Nat), findAt es x i = none → mapPut es x y = es ++ [(x, y)]
  | [], _, _, _, _ => rfl
  | (k, v) :: r, x, y, i, h => by
    simp only [findAt] at h
    split at h
    · cases h
    · rename_i hk
      simp only [mapPut, if_neg hk, List.cons_append]
      rw [findAt_put_none r x y (i + 1) h]
theorem findAt_put_some : ∀ (es : List (Value × Value)) (x y v : Value) (i j : Nat), findAt es x i = some (j, v) → i ≤ j ∧ j - i < es.length ∧ mapPut es x y = es.set (j - i) (x, y) ∧ ∃ k, es[j - i]? = some (k, v) ∧ sameKey x k = true
  | [], _, _, _, _, _, h => by cases h
  | (k, v') :: r, x, y, v, i, j, h => by
    simp only [findAt] at h
    split at h
    · rename_i hk
      cases h
      refine ⟨Nat.le_refl _, by simp, ?_, k, by simp, hk⟩
      simp [mapPut, hk]
    · rename_i hk
      obtain ⟨h1, h2, h3, k', h4, h5⟩ := findAt_put_some r x y v (i + 1) j h
      have e : j - i = (j - (i + 1)) + 1 := by omega
      refine ⟨by omega, by simp; omega, ?_, k', ?_, h5⟩
      · simp only [mapPut, if_neg hk]
        rw [e, List.set_cons_succ, ← h3]
      · rw [e, List.getElem?_cons_succ]; exact h4
theorem sameBits_of {x k : Value} (h1 : sameKind x k = true) (h2 : sameKey x k = true) : Instr.sameBits 10000 k x = true := by
  cases x with
  | int j a =>
    cases k with
    | int j' b => simp_all [sameKind, sameKey, Instr.sameBits]
    | _ => simp [sameKind] at h1
  | string a =>
    cases k with
    | string b =>
      simp only [sameKey] at h2
      simp only [Instr.sameBits]
      rw [bytes_eq]
      simp only [beq_iff_eq] at h2 ⊢
      exact h2.symm
    | _ => simp [sameKind] at h1
  | bool a =>
    cases k with
    | bool b => simp_all [sameKind, sameKey, Instr.sameBits]
    | _ => simp [sameKind] at h1
  | _ => simp [sameKind] at h1
theorem run_checkKey {kd : Nat} {kt : TypeId} {d : TypeDesc} {x : Value} (ht : P.underlying kt = some d) (hd : keyD kd d = true) (e : Bool) : (Instr.checkKey e 10000 kt x).run P w = .ok () w := by
  rw [show (10000 : Nat) = 9999 + 1 from rfl, Instr.checkKey]
  simp only [Sem.run_bind, run_underlying ht, Result.andThen_ok]
  match kd, d, hd with
  | 0, .int _, _ => rfl
  | 1, .string, _ => rfl
  | 2, .bool, _ => rfl
theorem run_getMap {r : Nat} {arr : Array MapEntry} {clock : Nat} (h : w.heap[r]? = some (.map arr clock)) : (getObj r).run P w = .ok (.map arr clock) w := by
  simp only [getObj, Sem.run, h]
theorem all_kind {es : List (Value × Value)} {arr : Array MapEntry} {x : Value} (h : arr.toList.map (fun e => (e.key, e.val)) = es) (hk : es.all (fun e => sameKind x e.1) = true) : ∀ e ∈ arr.toList, sameKind x e.key = true := by
  intro e he
  rw [← h] at hk
  simp only [List.all_map, List.all_eq_true] at hk
  exact hk e he
theorem run_findKey {kd : Nat} {kt : TypeId} {d : TypeDesc} {x : Value} {es : List (Value × Value)} {arr : Array MapEntry} (ht : P.underlying kt = some d) (hd : keyD kd d = true) (hx : keyV kd x = true)
    (h : arr.toList.map (fun e => (e.key, e.val)) = es) (hk : es.all (fun e => sameKind x e.1) = true) : (Instr.findKey kt x arr.toList).run P w = .ok (findAt es x 0) w := by
  simp only [Instr.findKey, Sem.run_bind, run_underlying ht, Result.andThen_ok, findNow_eq hd hx arr.toList 0 (all_kind h hk), h, Sem.run_pure]
theorem sim_mget {kd : Nat} {ok : Bool} {zero : Value} {m k : Operand} {p : PV} {us : List (Nat × Obj)} (h : FR gl ph n B O g s a w) (hd : ∀ t, o.dst = some t → t < n) (hr : Rs P o (.mget kd ok zero m k))
    (hp : pop (evalIn s.env) s.objs (bs + o.dst.getD 0) (.mget kd ok zero m k) = some (p, us)) (hk : Owed gl ph n B O g w ⟨put s.env o.dst p, updAll s.objs us⟩ K) : o.wp P a w K Q := by
  obtain ⟨t, kt, et, d, i, ho, ht, hkt, hkd, hi, hz, hzs, hm, hkk⟩ := hr
  have em := h.opnd hm
  have ek := h.opnd hkk
  simp only [pop] at hp
  split at hp
  · rename_i r st x hem hek
    rw [hem] at em
    rw [hek] at ek
    obtain ⟨ek1, ek2⟩ := ek.sc_inv
    obtain ⟨_, b, e1, e2⟩ := em.ref_inv (by simp [PV.key, PV.key0])
    split at hp
    · rename_i st' es hob
      split at hp
      · rename_i hc
        obtain ⟨rfl, hx, hsk⟩ := hc
        have hO := h.obj r
        rw [hob] at hO
        obtain ⟨arr, clock, r1, r2, r3, r4⟩ := hO
        have e3 := e2 es hob
        subst e3
        have hrun : (Instr.lookup t (a.eval m) (a.eval k) ok).run P w = .ok (if ok then .tuple #[((findAt es x 0).map (·.2)).getD zero, .bool (findAt es x 0).isSome] else ((findAt es x 0).map (·.2)).getD zero) w := by
          simp only [Instr.lookup, Sem.run_bind, run_underlying ht, Result.andThen_ok, e1, run_getMap r1, Sem.run_pure, run_checkKey hkt hkd, ek1, run_findKey hkt hkd hx r2 hsk]
          cases hf : findAt es x 0 with
          | none => simp [run_zeroValue hi hz]
          | some q => simp
        have hexec : ∀ v, (Instr.lookup t (a.eval m) (a.eval k) ok).run P w = .ok v w → (execOp a.eval o).run P w = .ok (.value v) w := by
          intro v hv
          simp only [execOp, ho, Sem.run_bind, hv, Result.andThen_ok, Sem.run_pure]
        have hg := findAt_get es x 0
        rw [hg] at hrun
        have hsome : (findAt es x 0).isSome = (mapGet es x).isSome := by rw [← hg]; simp
        rw [hsome] at hrun
        cases hmg : mapGet es x with
        | some y =>
          rw [hmg] at hp hrun
          simp only [Option.some.injEq, Prod.mk.injEq] at hp
          obtain ⟨rfl, rfl⟩ := hp
          have hys : scalarV y = true := by
            have : ∀ (es : List (Value × Value)), mapGet es x = some y → ∃ k, (k, y) ∈ es := by
              intro es
              induction es with
              | nil => intro hh; cases hh
              | cons e r ih =>
                intro hh
                obtain ⟨k', v'⟩ := e
                simp only [mapGet] at hh
                split at hh
                · cases hh; exact ⟨k', by simp⟩
                · obtain ⟨k2, hk2⟩ := ih hh; exact ⟨k2, by simp [hk2]⟩
            obtain ⟨k', hk'⟩ := this es hmg
            exact List.all_eq_true.1 r4 _ hk'
          cases ok with
          | false => exact sim_val h hd (hexec _ hrun) (.sc hys) hk
          | true =>
            refine sim_val h hd (hexec _ hrun) ?_ hk
            refine .inr (.inr (.inr ⟨_, [y, .bool true], rfl, rfl, rfl, fun j q u hq hu => ?_⟩))
            match j, hq, hu with
            | 0, hq, hu => simp at hq hu; subst hq; subst hu; exact .inl (.inl (.sc hys))
            | 1, hq, hu => simp at hq hu; subst hq; subst hu; exact .inl (.inl (.sc rfl))
        | none =>
          rw [hmg] at hp hrun
          simp only [Option.some.injEq, Prod.mk.injEq] at hp
          obtain ⟨rfl, rfl⟩ := hp
          cases ok with
          | false => exact sim_val h hd (hexec _ hrun) (.sc hzs) hk
          | true =>
            refine sim_val h hd (hexec _ hrun) ?_ hk
            refine .inr (.inr (.inr ⟨_, [zero, .bool false], rfl, rfl, rfl, fun j q u hq hu => ?_⟩))
            match j, hq, hu with
            | 0, hq, hu => simp at hq hu; subst hq; subst hu; exact .inl (.inl (.sc hzs))
            | 1, hq, hu => simp at hq hu; subst hq; subst hu; exact .inl (.inl (.sc rfl))
      · cases hp
    · cases hp
  · cases hp
theorem run_setMap {r : Nat} {x : Go.Obj} {arr : Array MapEntry} {clock : Nat} (h : w.heap[r]? = some (.map arr clock)) : (setObj r x).run P w = .ok () { w with heap := w.heap.setIfInBounds r x } := by
  simp only [setObj, Sem.run, h]
theorem sim_mput {kd : Nat} {m k v : Operand} {p : PV} {us : List (Nat × Obj)} (h : FR gl ph n B O g s a w) (hd : ∀ t, o.dst = some t → t < n) (hr : Rs P o (.mput kd m k v))
    (hp : pop (evalIn s.env) s.objs (bs + o.dst.getD 0) (.mput kd m k v) = some (p, us)) (hk : Owed gl ph n B O g w ⟨put s.env o.dst p, updAll s.objs us⟩ K) : o.wp P a w K Q := by
  obtain ⟨t, kt, et, d, ho, ht, hkt, hkd, hm, hkk, hvv⟩ := hr
  have em := h.opnd hm
  have ek := h.opnd hkk
  have ev := h.opnd hvv
  simp only [pop] at hp
  split at hp
  · rename_i r st x y hem hek hev
    rw [hem] at em
    rw [hek] at ek
    rw [hev] at ev
    obtain ⟨ek1, ek2⟩ := ek.sc_inv
    obtain ⟨ev1, ev2⟩ := ev.sc_inv
    obtain ⟨_, b, e1, e2⟩ := em.ref_inv (by simp [PV.key, PV.key0])
    split at hp
    · rename_i st' es hob
      split at hp
      · rename_i hc
        obtain ⟨rfl, hx, hsk, hys⟩ := hc
        cases hp
        have hO := h.obj r
        rw [hob] at hO
        obtain ⟨arr, clock, r1, r2, r3, r4⟩ := hO
        have e3 := e2 es hob
        subst e3
        have hlive : (s.objs r).live := by rw [hob]; trivial
        obtain ⟨arr', clock', hrun, harr⟩ : ∃ arr' clock', (Instr.mapUpdate t (a.eval m) (a.eval k) (a.eval v)).run P w = .ok () { w with heap := w.heap.setIfInBounds (g.blk r) (.map arr' clock') } ∧ arr'.toList.map (fun e => (e.key, e.val)) = mapPut es x y := by
          cases hf : findAt es x 0 with
          | none =>
            refine ⟨arr.push { key := x, val := y, born := clock }, clock + 1, ?_, ?_⟩
            · simp only [Instr.mapUpdate, Sem.run_bind, run_underlying ht, Result.andThen_ok, e1, run_getMap r1, run_checkKey hkt hkd, ek1, ev1, run_findKey hkt hkd hx r2 hsk, hf, run_setMap r1]
            · rw [findAt_put_none es x y 0 hf]; simp [r2]
          | some q =>
            obtain ⟨i, v'⟩ := q
            obtain ⟨h1, h2, h3, k', h4, h5⟩ := findAt_put_some es x y v' 0 i hf
            simp only [Nat.sub_zero] at h2 h3 h4
            have hlen : arr.size = es.length := by rw [← r2]; simp
            have hi : i < arr.size := by omega
            have hk' : arr[i].key = k' := by
              rw [← r2] at h4
              simp only [List.getElem?_map, Option.map_eq_some_iff] at h4
              obtain ⟨e, he, hh⟩ := h4
              have : arr[i]? = some e := by simpa using he
              rw [Array.getElem?_eq_getElem hi] at this
              cases this
              cases hh; rfl
            have hbits : Instr.sameBits 10000 k' x = true := sameBits_of (by
              have := List.all_eq_true.1 hsk (k', v') (List.mem_of_getElem? h4)
              exact this) h5
            refine ⟨arr.modify i fun e => { e with key := x, val := y }, clock, ?_, ?_⟩
            · simp only [Instr.mapUpdate, Sem.run_bind, run_underlying ht, Result.andThen_ok, e1, run_getMap r1, run_checkKey hkt hkd, ek1, ev1, run_findKey hkt hkd hx r2 hsk, hf, Array.getElem?_eq_getElem hi, Option.map_some, Option.getD_some, hk', Instr.keyThatStays, hbits, if_true, Sem.run_pure, run_setMap r1]
            · rw [h3, ← r2]
              apply List.ext_getElem?
              intro j
              simp only [List.getElem?_map, List.getElem?_set, List.length_map, Array.length_toList, Array.getElem?_toList, Array.getElem?_modify]
              by_cases hij : i = j
              · subst hij; simp [hi]
              · simp [hij]
        let w1 : World := { w with heap := w.heap.setIfInBounds (g.blk r) (.map arr' clock') }
        have hblt := (h.fresh r hlive).2
        have hother : ∀ b, b ≠ g.blk r → w1.heap[b]? = w.heap[b]? := by
          intro b hb
          show (w.heap.setIfInBounds (g.blk r) _)[b]? = _
          rw [Array.getElem?_setIfInBounds, if_neg (fun e => hb e.symm)]
        have hE : Ext g.c w g.c w1 := by
          refine ⟨by simp [w1], fun _ _ => Nat.le_refl _, fun b i hb hi => ?_⟩
          by_cases hbk : b = g.blk r
          · subst hbk; omega
          · simp only [World.cell?, hother b hbk]
        have hS : ObStep g s.objs g (upd s.objs r (.map st (mapPut es x y))) := by
          intro k'
          by_cases hk' : k' = r
          · subst hk'
            rw [upd_same, hob]
            exact ⟨Nat.le_refl _, (fun _ hc => by cases hc), (fun _ _ _ _ hc => by cases hc), fun es' hc => ⟨⟨es, rfl⟩, rfl⟩⟩
          · rw [upd_ne _ _ hk']
            exact ObStep.refl g s.objs k'
        have hF : FR gl ph n B O g ⟨s.env, upd s.objs r (.map st (mapPut es x y))⟩ a w1 := by
          refine h.pass (upd s.objs r (.map st (mapPut es x y))) (· = r) hE hS (fun k' hk' => upd_ne _ _ hk') (fun k' hkk hl' => ?_) (fun k' hkk hl' => ?_)
          · exact ⟨rfl, rfl, rfl, hother _ (fun e => hkk (h.inj k' r hl' hlive e))⟩
          · subst hkk
            refine ⟨?_, (h.fresh k' hlive).1, by simp [w1]; exact hblt, fun k2 hk2 hl2 => ?_⟩
            · rw [upd_same]
              refine ⟨arr', clock', ?_, harr, r3, ?_⟩
              · show (w.heap.setIfInBounds (g.blk k') _)[g.blk k']? = _
                rw [Array.getElem?_setIfInBounds, if_pos rfl, if_pos hblt]
              · have : ∀ (es : List (Value × Value)), es.all (fun e => scalarV e.2) = true → (mapPut es x y).all (fun e => scalarV e.2) = true := by
                  intro es
                  induction es with
                  | nil => intro _; simp [mapPut, hys]
                  | cons e r ih =>
                    intro hh
                    obtain ⟨k2, v2⟩ := e
                    simp only [List.all_cons, Bool.and_eq_true] at hh
                    simp only [mapPut]
                    split
                    · simp [hys, hh.2]
                    · simp [hh.1, ih hh.2]
                exact this es r4
            · rw [upd_ne _ _ hk2] at hl2
              exact fun e => hk2 (h.inj k2 k' hl2 hlive e)
        have hPB : PB B O g.c w g.c w1 := by
          refine ⟨rfl, rfl, rfl, by simp [w1], fun b hb hO => hother b ?_, fun _ _ _ => rfl⟩
          intro e
          subst e
          rcases (h.fresh r hlive).1 with h1 | h1
          · omega
          · exact hO h1
        have hexec : (execOp a.eval o).run P w = .ok .skip w1 := by
          rcases ho with ho | ho
          · simp only [execOp, ho, Sem.run_bind, hrun, Result.andThen_ok, Sem.run_pure]; rfl
          · simp only [execOp, ho, Sem.run_bind, hrun, Result.andThen_ok, Sem.run_pure]; rfl
        exact wp_skip' hexec (hk g _ _ (hF.put o.dst hd (.inl rfl)) hPB)
      · cases hp
    · cases hp
  · cases hp
end
end Go.Hf

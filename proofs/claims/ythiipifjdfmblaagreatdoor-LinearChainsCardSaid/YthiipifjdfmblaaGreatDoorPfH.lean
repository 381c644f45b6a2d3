/- Pure frames, part H: new blocks, writing in place, sharing a local slice: how the frame passes on; the operations alloc, box and store. -/
import Derived.Test.YthiipifjdfmblaaGreatDoorPfG
set_option linter.unusedVariables false
set_option linter.unusedSimpArgs false
namespace Go.Pf
open Go.RowKit

section
variable {P : Program} {n B : Nat} {O : Option Nat} {gl : Gl} {ph : Option (Nat × Value)} {g : Gh} {s : St} {a : Act} {w w' : World} {o : Oper} {K : Act → World → Prop} {Q : Exit → Act → World → Prop}

theorem heap_push_old {arr : Array Value} {T : Nat} (hw : w'.heap = w.heap.push (.cells arr T (0, 0))) {b : Nat} (hb : b < w.heap.size) : w'.heap[b]? = w.heap[b]? := by
  rw [hw, Array.getElem?_push, if_neg (by omega)]
theorem heap_push_new {arr : Array Value} {T : Nat} (hw : w'.heap = w.heap.push (.cells arr T (0, 0))) : w'.heap[w.heap.size]? = some (.cells arr T (0, 0)) := by
  rw [hw, Array.getElem?_push, if_pos rfl]

/-- What the memory is known by, behind a new block for the object d. -/
def Gh.new (g : Gh) (w : World) (d cap : Nat) : Gh := ⟨upd g.c w.heap.size 0, upd g.blk d w.heap.size, upd g.cap d cap⟩

theorem Ext.push (g : Gh) {arr : Array Value} {T d cap : Nat} (hw : w'.heap = w.heap.push (.cells arr T (0, 0))) : Ext g.c w (g.new w d cap).c w' := by
  refine ⟨by rw [hw]; simp, fun b hb => ?_, fun b i hb hi => ?_⟩
  · simp [Gh.new, upd, Nat.ne_of_lt hb]
  · simp only [World.cell?, heap_push_old hw hb]

theorem PB.push (h : FR gl ph n B O g s a w) {arr : Array Value} {T d cap : Nat} (hw : w'.heap = w.heap.push (.cells arr T (0, 0))) (ho : w'.os = w.os) (ht : w'.tape = w.tape) (hu : w'.output = w.output) :
    PB B O g.c w (g.new w d cap).c w' := by
  have hb := h.base
  refine ⟨ho, ht, hu, by rw [hw]; simp, fun b hb' _ => heap_push_old hw (by omega), fun b hb' _ => ?_⟩
  have : b ≠ w.heap.size := by omega
  simp [Gh.new, upd, this]

theorem ObStep.new (g : Gh) (ob : Nat → Obj) (w : World) (d cap : Nat) (x : Obj) (hx : x.stamp = (ob d).stamp + 1) : ObStep g ob (g.new w d cap) (upd ob d x) := by
  intro k
  by_cases hk : k = d
  · subst hk
    simp only [upd_same]
    refine ⟨by omega, fun cs hc => ?_, fun e sz es raw hc => ?_⟩
    · rw [hc] at hx; simp [Obj.stamp] at hx
    · rw [hc] at hx; simp [Obj.stamp] at hx
  · simp only [upd_ne _ _ hk]
    refine ⟨Nat.le_refl _, fun cs hc => ⟨⟨cs, hc⟩, ?_⟩, fun e sz es raw hc => ⟨⟨es, raw, hc, Nat.le_refl _⟩, ?_, ?_⟩⟩ <;> simp [Gh.new, upd, hk]

/-- A new object with a block of its own. -/
theorem FR.new (h : FR gl ph n B O g s a w) {arr : Array Value} {T : Nat} (d cap : Nat) (x : Obj) (hx : x.stamp = (s.objs d).stamp + 1) (hw : w'.heap = w.heap.push (.cells arr T (0, 0)))
    (hobj : ObjR (g.new w d cap) w' (upd s.objs d x) d x) : FR gl ph n B O (g.new w d cap) ⟨s.env, upd s.objs d x⟩ a w' := by
  refine h.pass (upd s.objs d x) (· = d) (Ext.push g hw) (ObStep.new g s.objs w d cap x hx) (fun k hk => upd_ne _ _ hk) (fun k hkd hl => ?_) (fun k hk hl => ?_)
  · have hb := (h.fresh k hl).2
    refine ⟨by simp [Gh.new, upd, hkd], by simp [Gh.new, upd, hkd], by simp [Gh.new, upd, Nat.ne_of_lt hb], heap_push_old hw hb⟩
  · subst hk
    have hbase := h.base
    refine ⟨by rw [upd_same]; exact hobj, .inl (by simp [Gh.new, upd]; omega), by rw [hw]; simp [Gh.new, upd], fun k' hk' hl' => ?_⟩
    rw [upd_ne _ _ hk'] at hl'
    have hb := (h.fresh k' hl').2
    simp [Gh.new, upd, hk']
    omega

theorem KR.new {ob : Nat → Obj} (g : Gh) {arr : Array Value} {T : Nat} {d cap : Nat} {x : Obj} (hx : x.stamp = (ob d).stamp + 1) (hw : w'.heap = w.heap.push (.cells arr T (0, 0))) {p : PV} {v : Value}
    (h : KR g w ob p v) : KR (g.new w d cap) w' (upd ob d x) p v := h.step (Ext.push g hw) (ObStep.new g ob w d cap x hx)

/-- alloc and box: a new variable with these cells. -/
theorem sim_newBox (h : FR gl ph n B O g s a w) (hd : ∀ t, o.dst = some t → t < n) (hds : o.dst.isSome = true) {T : Nat} {arr : Array Value} {cs : List PV}
    (hrun : (execOp a.eval o).run P w = .ok (.value (.pointer (some ⟨w.heap.size, 0, none⟩))) (w.alloc (.cells arr T))) (hl : arr.size = cs.length)
    (hc : ∀ (j : Nat) (q : PV), cs[j]? = some q → ∃ u, arr[j]? = some u ∧ q.isCell = true ∧ KR g w s.objs q u)
    (hk : Owed gl ph n B O g w ⟨put s.env o.dst (.bptr (o.dst.getD 0) ((s.objs (o.dst.getD 0)).stamp + 1) 0), updAll s.objs [(o.dst.getD 0, .box ((s.objs (o.dst.getD 0)).stamp + 1) cs)]⟩ K) : o.wp P a w K Q := by
  obtain ⟨d, hds⟩ := Option.isSome_iff_exists.1 hds
  simp only [hds, Option.getD_some] at hk
  have hw : (w.alloc (.cells arr T)).heap = w.heap.push (.cells arr T (0, 0)) := rfl
  have hx : (Obj.box ((s.objs d).stamp + 1) cs).stamp = (s.objs d).stamp + 1 := rfl
  have hF := h.new (w' := w.alloc (.cells arr T)) d 0 (.box ((s.objs d).stamp + 1) cs) hx hw (by
    refine ⟨arr, T, ?_, hl, ?_, fun j q hq => ?_⟩
    · simp only [Gh.new, upd_same]; exact heap_push_new hw
    · simp [Gh.new, upd]
    · obtain ⟨u, h1, h2, h3⟩ := hc j q hq
      exact ⟨u, h1, h2, h3.new g hx hw⟩)
  refine wp_value hrun (hk _ _ _ (by
    have := hF.put o.dst hd (p := .bptr d ((s.objs d).stamp + 1) 0) (v := .pointer (some ⟨w.heap.size, 0, none⟩)) (.inr (.inl (.inr ⟨by simp [upd, Obj.stamp], _, rfl, fun cs' _ => by simp [Gh.new, upd]⟩)))
    rw [hds] at this ⊢
    exact this) (PB.push h hw rfl rfl rfl))

theorem sim_alloc {zero : List Value} {p : PV} {us : List (Nat × Obj)} (h : FR gl ph n B O g s a w) (hd : ∀ t, o.dst = some t → t < n) (hr : Rs P o (.alloc zero))
    (hp : pop (evalIn s.env) s.objs (o.dst.getD 0) (.alloc zero) = some (p, us)) (hk : Owed gl ph n B O g w ⟨put s.env o.dst p, updAll s.objs us⟩ K) : o.wp P a w K Q := by
  obtain ⟨t, ho, hds, sz, i, z, hi, hz, hzc, _, _, hall⟩ := hr
  simp only [pop] at hp
  cases hp
  refine sim_newBox h hd hds (arr := z.cells) (T := t) ?_ ?_ ?_ hk
  · simp only [execOp, ho, Instr.alloc, Sem.run_bind, run_zeroValue hi hz, Result.andThen_ok, newVar, newRow, run_newObj, Sem.run_pure]
  · rw [← hzc]; simp
  · intro j q hq
    simp only [List.getElem?_map, Option.map_eq_some_iff] at hq
    obtain ⟨v, hv, rfl⟩ := hq
    have hs : scalarV v = true := List.all_eq_true.1 hall v (List.mem_of_getElem? hv)
    exact ⟨v, by rw [← hzc] at hv; simpa using hv, hs, .inl (.sc hs)⟩

theorem sim_box {x : Operand} {p : PV} {us : List (Nat × Obj)} (h : FR gl ph n B O g s a w) (hd : ∀ t, o.dst = some t → t < n) (hr : Rs P o (.box x))
    (hp : pop (evalIn s.env) s.objs (o.dst.getD 0) (.box x) = some (p, us)) (hk : Owed gl ph n B O g w ⟨put s.env o.dst p, updAll s.objs us⟩ K) : o.wp P a w K Q := by
  obtain ⟨t, ho, hds, hx⟩ := hr
  have ex := h.opnd hx
  simp only [pop] at hp
  split at hp
  · rename_i cs hcs
    cases hp
    obtain ⟨h1, h2⟩ := ex.cells hcs
    refine sim_newBox h hd hds (arr := (a.eval x).cells) (T := t) ?_ (by simpa using h1) (fun j q hq => ?_) hk
    · simp only [execOp, ho, Instr.box, Sem.run_bind, Result.andThen_ok, newVar, newRow, run_newObj, Sem.run_pure]
    · obtain ⟨u, hu, h3⟩ := h2 j q hq
      exact ⟨u, by simpa using hu, h3⟩
  · simp at hp

/-- An object's block is written; its stamp and its place stay. -/
theorem FR.write (h : FR gl ph n B O g s a w) (k : Nat) (x : Obj) (arr : Array Value) (hl : (s.objs k).live) (hc0 : g.c (g.blk k) = 0)
    (hS : ObStep g s.objs g (upd s.objs k x)) (hobj : ObjR g (w.setRow (g.blk k) arr) (upd s.objs k x) k x) :
    FR gl ph n B O g ⟨s.env, upd s.objs k x⟩ a (w.setRow (g.blk k) arr) ∧ PB B O g.c w g.c (w.setRow (g.blk k) arr) := by
  obtain ⟨a1, a2, a3, a4⟩ := setRow_alike w (g.blk k) arr
  have hother : ∀ b, b ≠ g.blk k → (w.setRow (g.blk k) arr).heap[b]? = w.heap[b]? := fun b hb => setRow_other w (g.blk k) b arr (fun e => hb (by simpa using e))
  have hE : Ext g.c w g.c (w.setRow (g.blk k) arr) := by
    refine ⟨by omega, fun _ _ => Nat.le_refl _, fun b i hb hi => ?_⟩
    by_cases hbk : b = g.blk k
    · subst hbk; omega
    · simp only [World.cell?, hother b hbk]
  refine ⟨h.pass (upd s.objs k x) (· = k) hE hS (fun k' hk' => upd_ne _ _ hk') (fun k' hkk hl' => ?_) (fun k' hkk hl' => ?_), ⟨a1, a2, a3, by omega, fun b hb hO => hother b ?_, fun _ _ _ => rfl⟩⟩
  · exact ⟨rfl, rfl, rfl, hother _ (fun e => hkk (h.inj k' k hl' hl e))⟩
  · subst hkk
    refine ⟨by rw [upd_same]; exact hobj, (h.fresh k' hl).1, by rw [a4]; exact (h.fresh k' hl).2, fun k2 hk2 hl2 => ?_⟩
    rw [upd_ne _ _ hk2] at hl2
    exact fun e => hk2 (h.inj k2 k' hl2 hl e)
  · intro e
    subst e
    rcases (h.fresh k hl).1 with h1 | h1
    · omega
    · exact hO h1

theorem Ext.write (g : Gh) (w : World) (b : Nat) (arr : Array Value) (hc0 : g.c b = 0) : Ext g.c w g.c (w.setRow b arr) := by
  obtain ⟨a1, a2, a3, a4⟩ := setRow_alike w b arr
  refine ⟨by omega, fun _ _ => Nat.le_refl _, fun b' i hb hi => ?_⟩
  by_cases hbk : b' = b
  · subst hbk; omega
  · simp only [World.cell?, setRow_other w b b' arr (fun e => hbk (by simpa using e))]

theorem ObStep.box {ob : Nat → Obj} (g : Gh) {k st : Nat} {cs cs' : List PV} (h : ob k = .box st cs) : ObStep g ob g (upd ob k (.box st cs')) := by
  intro k'
  by_cases hk : k' = k
  · subst hk
    rw [upd_same, h]
    exact ⟨Nat.le_refl _, fun _ _ => ⟨⟨cs, rfl⟩, rfl⟩, (fun _ _ _ _ hc => by cases hc)⟩
  · rw [upd_ne _ _ hk]
    exact ⟨Nat.le_refl _, fun cs hc => ⟨⟨cs, hc⟩, rfl⟩, fun _ _ es raw hc => ⟨⟨es, raw, hc, Nat.le_refl _⟩, rfl, rfl⟩⟩

theorem ObStep.bld {ob : Nat → Obj} (g : Gh) {k st e sz : Nat} {es es' : List (List PV)} {raw raw' : Bool} (h : ob k = .bld st e sz es raw) (hl : es.length ≤ es'.length) : ObStep g ob g (upd ob k (.bld st e sz es' raw')) := by
  intro k'
  by_cases hk : k' = k
  · subst hk
    rw [upd_same, h]
    refine ⟨Nat.le_refl _, (fun _ hc => by cases hc), fun e2 sz2 es2 raw2 hc => ?_⟩
    cases hc
    exact ⟨⟨es, raw, rfl, hl⟩, rfl, rfl⟩
  · rw [upd_ne _ _ hk]
    exact ⟨Nat.le_refl _, fun cs hc => ⟨⟨cs, hc⟩, rfl⟩, fun _ _ es raw hc => ⟨⟨es, raw, hc, Nat.le_refl _⟩, rfl, rfl⟩⟩

theorem splice_get {α : Type} (l new : List α) (off j : Nat) (h : off + new.length ≤ l.length) :
    (l.take off ++ new ++ l.drop (off + new.length))[j]? = if j < off then l[j]? else if j < off + new.length then new[j - off]? else l[j]? := by
  simp only [List.getElem?_append, List.length_append, List.length_take, List.getElem?_take, List.getElem?_drop]
  have hm : min off l.length = off := by omega
  rw [hm]
  by_cases h1 : j < off
  · simp [h1, (by omega : j < off + new.length)]
  · by_cases h2 : j < off + new.length
    · simp [h1, h2]
    · simp only [h1, h2, if_false]
      congr 1
      omega

theorem RefR.key_ne {ob : Nat → Obj} {p : PV} {v : Value} (h : RefR g ob p v) : p.key ≠ [] := by
  cases p <;> simp_all [RefR, PV.key]

theorem pureCells_same {ob : Nat → Obj} : ∀ {cs qs : List PV}, (∀ q ∈ cs, q.key = []) → pureCells ob cs = some qs → qs = cs
  | [], qs, _, h => by simp [pureCells] at h; exact h
  | p :: ps, qs, hk, h => by
    simp only [pureCells] at h
    split at h
    · rename_i q qs' h1 h2
      cases h
      have e1 : q = p := by
        have := hk p (by simp)
        cases p <;> simp_all [pureCell, PV.key]
      rw [e1, pureCells_same (fun q hq => hk q (by simp [hq])) h2]
    · simp at h

/-- A value that names no object of the frame. -/
theorem XR.noKeys {p q : PV} {v : Value} {ob : Nat → Obj} (h : XR g w ob p v) (hk : p.keys = []) (hp : pureVal ob p = some q) : q = p ∧ VR g.c w p v := by
  cases p with
  | sc u => simp only [pureVal, pureCell, Option.some.injEq] at hp; obtain ⟨rfl, hs⟩ := h.sc_inv; exact ⟨hp.symm, .sc hs⟩
  | lst sz es => simp only [pureVal, pureCell, Option.some.injEq] at hp; exact ⟨hp.symm, h.lst_inv⟩
  | eptr cs off => simp only [pureVal, pureCell, Option.some.injEq] at hp; exact ⟨hp.symm, h.eptr_inv⟩
  | agg cs =>
    simp only [PV.keys, List.flatMap_eq_nil_iff] at hk
    simp only [pureVal, Option.map_eq_some_iff] at hp
    obtain ⟨qs, h1, rfl⟩ := hp
    rw [pureCells_same hk h1]
    obtain ⟨vs, rfl, hl, hv⟩ := h.agg_inv
    have hlt : ∀ (j : Nat) (r : PV), cs[j]? = some r → ∃ u, vs[j]? = some u := fun j r hr => ⟨vs[j]'(by have := (List.getElem?_eq_some_iff.1 hr).1; omega), List.getElem?_eq_getElem _⟩
    refine ⟨rfl, .agg hl (fun j r hr => ?_) (fun j r u hr hu => ?_)⟩
    · obtain ⟨u, hu⟩ := hlt j r hr
      exact (hv j r u hr hu).1
    · rcases (hv j r u hr hu).2 with h2 | h2
      · exact h2
      · exact absurd (hk r (List.mem_of_getElem? hr)) h2.key_ne
  | undef => simp [pureVal, pureCell] at hp
  | tup => simp [pureVal, pureCell] at hp
  | own => simp [pureVal, pureCell] at hp
  | bptr => simp [PV.keys, PV.key] at hk
  | bld => simp [PV.keys, PV.key] at hk
  | kptr => simp [PV.keys, PV.key] at hk

theorem block_lt {i i' sz j off m : Nat} (hj : j < sz) (hm : off + m ≤ sz) (h : i' ≠ i) : ¬ (i * sz + off ≤ i' * sz + j ∧ i' * sz + j < i * sz + off + m) := by
  rcases Nat.lt_or_gt_of_ne h with h1 | h1
  · have := Nat.mul_le_mul_right sz (show i' + 1 ≤ i from h1)
    rw [Nat.add_mul, Nat.one_mul] at this
    omega
  · have := Nat.mul_le_mul_right sz (show i + 1 ≤ i' from h1)
    rw [Nat.add_mul, Nat.one_mul] at this
    omega

theorem sim_store {m : Nat} {x v : Operand} {p : PV} {us : List (Nat × Obj)} (h : FR gl ph n B O g s a w) (hd : ∀ t, o.dst = some t → t < n) (hr : Rs P o (.store m x v))
    (hp : pop (evalIn s.env) s.objs (o.dst.getD 0) (.store m x v) = some (p, us)) (hk : Owed gl ph n B O g w ⟨put s.env o.dst p, updAll s.objs us⟩ K) : o.wp P a w K Q := by
  obtain ⟨t, agg, ho, ht, hx, hv⟩ := hr
  have ex := h.opnd hx
  have ev := h.opnd hv
  have key : ∀ (b o' : Nat) (w1 : World), a.eval x = .pointer (some ⟨b, o', none⟩) → (storeVar t ⟨b, o', none⟩ (a.eval v)).run P w = .ok () w1 → (execOp a.eval o).run P w = .ok .skip w1 := by
    intro b o' w1 e1 e2
    simp only [execOp, ho, Instr.storeAt, e1, Instr.sureAddr, Sem.run_bind, Sem.run_pure, Result.andThen_ok, e2]
  simp only [pop] at hp
  split at hp
  · rename_i k st off hu
    rw [hu] at ex
    obtain ⟨_, ad, e1, e2⟩ := ex.ref_inv (by simp [PV.key])
    split at hp
    · rename_i s' cs new hob hnew
      split at hp
      · rename_i hc
        obtain ⟨rfl, hln, hfit⟩ := hc
        cases hp
        obtain ⟨hn1, hn2⟩ := ev.cells hnew
        have hO := h.obj k
        rw [hob] at hO
        obtain ⟨arr, T, r1, r2, r3, r4⟩ := hO
        have e3 := e2 cs hob
        have hone : ∀ u ∈ (a.eval v).cells.toList, u.oneCell' = true := by
          intro u hu'
          obtain ⟨j, hj⟩ := List.mem_iff_getElem?.1 hu'
          have hjl : j < new.length := by have := (List.getElem?_eq_some_iff.1 hj).1; omega
          obtain ⟨u', q1, q2, q3⟩ := hn2 j new[j] (List.getElem?_eq_getElem hjl)
          rw [hj] at q1; cases q1
          exact q3.oneCell q2
        have hst := run_storeVar_at (P := P) (w := w) ht (g.blk k) off T arr (a.eval v) r1 (by simpa [hln] using hn1) (by omega) hone
        have hlive : (s.objs k).live := by rw [hob]; trivial
        let arr' : Array Value := (arr.toList.take off ++ (a.eval v).cells.toList ++ arr.toList.drop (off + m)).toArray
        have hS := ObStep.box g (cs' := putCells cs off new) hob
        have hE := Ext.write g w (g.blk k) arr' r3
        have hW := h.write k (.box st (putCells cs off new)) arr' hlive r3 hS (by
          refine ⟨arr', T, setRow_heap w (g.blk k) arr arr' T (0, 0) r1, ?_, r3, fun j q hq => ?_⟩
          · simp [arr', putCells]; simp at hn1; omega
          · have hsp := splice_get cs new off j (by omega)
            have hsp' := splice_get arr.toList (a.eval v).cells.toList off j (by rw [hn1]; simp; omega)
            simp only [putCells] at hq
            rw [hsp] at hq
            have harr : arr'[j]? = (arr.toList.take off ++ (a.eval v).cells.toList ++ arr.toList.drop (off + (a.eval v).cells.toList.length))[j]? := by
              simp only [arr', hn1, hln]; simp
            rw [harr, hsp']
            rw [hn1]
            by_cases c1 : j < off
            · rw [if_pos c1] at hq ⊢
              obtain ⟨u, q1, q2, q3⟩ := r4 j q hq
              exact ⟨u, by simpa using q1, q2, q3.step hE hS⟩
            · rw [if_neg c1] at hq ⊢
              by_cases c2 : j < off + new.length
              · rw [if_pos c2] at hq ⊢
                obtain ⟨u, q1, q2, q3⟩ := hn2 (j - off) q hq
                exact ⟨u, q1, q2, q3.step hE hS⟩
              · rw [if_neg c2] at hq ⊢
                obtain ⟨u, q1, q2, q3⟩ := r4 j q hq
                exact ⟨u, by simpa using q1, q2, q3.step hE hS⟩)
        refine wp_skip' (key _ _ _ (by rw [e1, e3]) hst) (hk g _ _ (hW.1.put o.dst hd (.inl rfl)) hW.2)
      · simp at hp
    · simp at hp
  · rename_i k st i off hu
    rw [hu] at ex
    obtain ⟨_, ad, e1, e2⟩ := ex.ref_inv (by simp [PV.key])
    split at hp
    · rename_i s' e sz es new hob hnew
      split at hp
      · rename_i cs hcs
        split at hp
        · rename_i hc
          obtain ⟨rfl, hln, hfit, hkeys⟩ := hc
          cases hp
          have hO := h.obj k
          rw [hob] at hO
          obtain ⟨arr, r1, r2, r3, r4, r5, r6, r7, r8⟩ := hO
          have e3 := e2 e sz es true hob
          have hcl := r5 i cs hcs
          have hil : i < es.length := (List.getElem?_eq_some_iff.1 hcs).1
          simp only [Option.bind_eq_some_iff] at hnew
          obtain ⟨q0, hq0, hnew⟩ := hnew
          obtain ⟨rfl, hVR⟩ := ev.noKeys hkeys hq0
          have evp : XR g w (fun _ => Obj.no 0) (evalIn s.env v) (a.eval v) := .inr (.inl (.inl hVR))
          obtain ⟨hn1, hn2⟩ := evp.cells hnew
          have hn3 : ∀ (j : Nat) (q : PV), new[j]? = some q → ∃ u, (a.eval v).cells.toList[j]? = some u ∧ q.isCell = true ∧ VR g.c w q u := by
            intro j q hq
            obtain ⟨u, q1, q2, q3⟩ := hn2 j q hq
            refine ⟨u, q1, q2, ?_⟩
            rcases q3 with q3 | q3
            · exact q3
            · exfalso
              have hmem : q ∈ new := List.mem_of_getElem? hq
              have : q.key = [] := by
                cases hev : evalIn s.env v with
                | agg cs' =>
                  rw [hev] at hkeys hnew
                  simp only [PV.keys, List.flatMap_eq_nil_iff] at hkeys
                  simp only [PV.cells, Option.some.injEq] at hnew
                  subst hnew
                  exact hkeys q hmem
                | sc _ => rw [hev] at hkeys hnew; simp only [PV.cells, Option.some.injEq] at hnew; subst hnew; simp at hmem; subst hmem; exact hkeys
                | lst _ _ => rw [hev] at hkeys hnew; simp only [PV.cells, Option.some.injEq] at hnew; subst hnew; simp at hmem; subst hmem; exact hkeys
                | eptr _ _ => rw [hev] at hkeys hnew; simp only [PV.cells, Option.some.injEq] at hnew; subst hnew; simp at hmem; subst hmem; exact hkeys
                | undef => rw [hev] at hnew; simp [PV.cells] at hnew
                | tup _ => rw [hev] at hnew; simp [PV.cells] at hnew
                | own _ _ _ _ => rw [hev] at hnew; simp [PV.cells] at hnew
                | bptr _ _ _ => rw [hev] at hkeys; simp [PV.keys, PV.key] at hkeys
                | bld _ _ _ _ => rw [hev] at hkeys; simp [PV.keys, PV.key] at hkeys
                | kptr _ _ _ _ => rw [hev] at hkeys; simp [PV.keys, PV.key] at hkeys
              exact q3.key_ne this
          have hc0 : g.c (g.blk k) = 0 := r7 rfl
          have hone : ∀ u ∈ (a.eval v).cells.toList, u.oneCell' = true := by
            intro u hu'
            obtain ⟨j, hj⟩ := List.mem_iff_getElem?.1 hu'
            have hjl : j < new.length := by have := (List.getElem?_eq_some_iff.1 hj).1; omega
            obtain ⟨u', q1, q2, q3⟩ := hn2 j new[j] (List.getElem?_eq_getElem hjl)
            rw [hj] at q1; cases q1
            exact q3.oneCell q2
          have hmul : (i + 1) * sz ≤ es.length * sz := Nat.mul_le_mul_right sz hil
          rw [Nat.add_mul, Nat.one_mul] at hmul
          have hmul2 : es.length * sz ≤ g.cap k * sz := Nat.mul_le_mul_right sz r3
          have hst := run_storeVar_at (P := P) (w := w) ht (g.blk k) (i * sz + off) e arr (a.eval v) r1 (by simpa [hln] using hn1) (by omega) hone
          have hlive : (s.objs k).live := by rw [hob]; trivial
          let arr' : Array Value := (arr.toList.take (i * sz + off) ++ (a.eval v).cells.toList ++ arr.toList.drop (i * sz + off + m)).toArray
          have hS := ObStep.bld g (es' := es.set i (putCells cs off new)) (raw' := true) hob (by simp)
          have hE := Ext.write g w (g.blk k) arr' hc0
          have hpl : (putCells cs off new).length = sz := by simp [putCells]; omega
          have hget : ∀ j, arr'[j]? = if j < i * sz + off then arr[j]? else if j < i * sz + off + m then (a.eval v).cells.toList[j - (i * sz + off)]? else arr[j]? := by
            intro j
            have hsp' := splice_get arr.toList (a.eval v).cells.toList (i * sz + off) j (by rw [hn1]; simp; omega)
            rw [hn1, hln] at hsp'
            simp only [arr', List.getElem?_toArray, hsp', Array.getElem?_toList]
          have hW := h.write k (.bld st e sz (es.set i (putCells cs off new)) true) arr' hlive hc0 hS (by
            refine ⟨arr', setRow_heap w (g.blk k) arr arr' e (0, 0) r1, ?_, by simpa using r3, r4, fun i' cs' hi' => ?_, fun i' j cs' q hi' hj => ?_, fun _ => hc0, by rw [hc0]; omega⟩
            · simp [arr']; simp at hn1; omega
            · rw [List.getElem?_set] at hi'
              split at hi'
              · cases hi'; exact hpl
              · exact r5 i' cs' hi'
            · rw [List.getElem?_set] at hi'
              split at hi'
              · rename_i hii
                subst hii
                · cases hi'
                  have hjl : j < sz := by have := (List.getElem?_eq_some_iff.1 hj).1; omega
                  simp only [putCells] at hj
                  rw [splice_get cs new off j (by omega)] at hj
                  rw [hget]
                  by_cases c1 : j < off
                  · rw [if_pos c1] at hj
                    rw [if_pos (by omega)]
                    obtain ⟨u, q1, q2, q3⟩ := r6 i j cs q hcs hj
                    exact ⟨u, q1, q2, q3.mono hE⟩
                  · rw [if_neg c1] at hj
                    rw [if_neg (by omega)]
                    by_cases c2 : j < off + new.length
                    · rw [if_pos c2] at hj
                      rw [if_pos (by omega)]
                      obtain ⟨u, q1, q2, q3⟩ := hn3 (j - off) q hj
                      exact ⟨u, by rw [show i * sz + j - (i * sz + off) = j - off by omega]; exact q1, q2, q3.mono hE⟩
                    · rw [if_neg c2] at hj
                      rw [if_neg (by omega)]
                      obtain ⟨u, q1, q2, q3⟩ := r6 i j cs q hcs hj
                      exact ⟨u, q1, q2, q3.mono hE⟩
              · rename_i hii
                have hjl : j < sz := by have := (List.getElem?_eq_some_iff.1 hj).1; have := r5 i' cs' hi'; omega
                have hout := block_lt (i := i) (i' := i') (sz := sz) (j := j) (off := off) (m := m) hjl (by omega) (fun x => hii x.symm)
                rw [hget]
                obtain ⟨u, q1, q2, q3⟩ := r6 i' j cs' q hi' hj
                refine ⟨u, ?_, q2, q3.mono hE⟩
                by_cases c1 : i' * sz + j < i * sz + off
                · rw [if_pos c1]; exact q1
                · rw [if_neg c1, if_neg (by omega)]; exact q1)
          refine wp_skip' (key _ _ _ (by rw [e1, e3]) hst) (hk g _ _ (hW.1.put o.dst hd (.inl rfl)) hW.2)
        · simp at hp
      · simp at hp
    · simp at hp
  · simp at hp
end
end Go.Pf

/- A call whose store is a part of a greater store. -/
import Derived.Test.YtlefgpakmgbgaaaGreatDoorFi
set_option linter.unusedVariables false
set_option linter.unusedSimpArgs false
set_option linter.unusedSectionVars false
section
namespace Go.Hf
open Go.RowKit
def Agr (g : Gh) (ob : Nat → Obj) (g2 : Gh) (ob2 : Nat → Obj) (k : Nat) : Prop := ob2 k = ob k ∧ g2.blk k = g.blk k ∧ g2.cap k = g.cap k
theorem Ref0.cong {g g2 : Gh} {ob ob2 : Nat → Obj} {p : PV} {v : Value} (h : ∀ k ∈ p.key0, Agr g ob g2 ob2 k) (r : Ref0 g ob p v) : Ref0 g2 ob2 p v := by
  cases p with
  | bptr k s off =>
    obtain ⟨e1, e2, e3⟩ := h k List.mem_cons_self
    simp only [Ref0, e1, e2] at r ⊢; exact r
  | kptr k s i off =>
    obtain ⟨e1, e2, e3⟩ := h k List.mem_cons_self
    simp only [Ref0, e1, e2] at r ⊢; exact r
  | bld k s off len =>
    obtain ⟨e1, e2, e3⟩ := h k List.mem_cons_self
    simp only [Ref0, e1, e2, e3] at r ⊢; exact r
  | mref k s =>
    obtain ⟨e1, e2, e3⟩ := h k List.mem_cons_self
    simp only [Ref0, e1, e2] at r ⊢; exact r
  | _ => exact r.elim
theorem RefR.cong {g g2 : Gh} {ob ob2 : Nat → Obj} {p : PV} {v : Value} (h : ∀ k ∈ p.key, Agr g ob g2 ob2 k) (r : RefR g ob p v) : RefR g2 ob2 p v := by
  cases p with
  | clo f caps =>
    obtain ⟨hk, vs, rfl, hl, hv⟩ := r
    refine ⟨hk, vs, rfl, hl, fun j q u hq hu => (hv j q u hq hu).imp id (Ref0.cong fun k hk => h k ?_)⟩
    exact List.mem_flatMap.2 ⟨q, List.mem_of_getElem? hq, hk⟩
  | bptr k s off => exact Ref0.cong (p := .bptr k s off) h r
  | kptr k s i off => exact Ref0.cong (p := .kptr k s i off) h r
  | bld k s off len => exact Ref0.cong (p := .bld k s off len) h r
  | mref k s => exact Ref0.cong (p := .mref k s) h r
  | _ => exact r.elim
theorem KR.cong {g g2 : Gh} {w : World} {ob ob2 : Nat → Obj} {p : PV} {v : Value} (hc : g2.c = g.c) (h : ∀ k ∈ p.key, Agr g ob g2 ob2 k) (r : KR g w ob p v) : KR g2 w ob2 p v :=
  r.imp (fun r => by rw [hc]; exact r) (RefR.cong h)
theorem XR.cong {g g2 : Gh} {w : World} {ob ob2 : Nat → Obj} {p : PV} {v : Value} (hc : g2.c = g.c) (h : ∀ k ∈ p.keys, Agr g ob g2 ob2 k) (r : XR g w ob p v) : XR g2 w ob2 p v := by
  rcases r with r | r | ⟨cs, vs, rfl, r2, r3, r4⟩ | ⟨cs, vs, rfl, r2, r3, r4⟩
  · exact .inl r
  · refine .inr (.inl ?_)
    rcases r with r | r
    · exact .inl (by rw [hc]; exact r)
    · refine .inr ?_
      cases p with
      | agg => exact r.elim
      | tup => exact r.elim
      | clo f caps => exact RefR.cong (p := .clo f caps) h r
      | _ => exact RefR.cong h r
  · exact .inr (.inr (.inl ⟨cs, vs, rfl, r2, r3, fun j q u hq hu => ⟨(r4 j q u hq hu).1, (r4 j q u hq hu).2.cong hc fun k hk => h k (List.mem_flatMap.2 ⟨q, List.mem_of_getElem? hq, hk⟩)⟩⟩))
  · refine .inr (.inr (.inr ⟨cs, vs, rfl, r2, r3, fun j q u hq hu => ?_⟩))
    have hq' : ∀ k ∈ q.keysA, Agr g ob g2 ob2 k := fun k hk => h k (List.mem_flatMap.2 ⟨q, List.mem_of_getElem? hq, hk⟩)
    rcases r4 j q u hq hu with r | ⟨cs', vs', rfl, s2, s3, s4⟩
    · left
      rcases r with r | r
      · exact .inl (by rw [hc]; exact r)
      · refine .inr ?_
        cases q with
        | agg => exact r.elim
        | clo f caps => exact RefR.cong (p := .clo f caps) hq' r
        | _ => exact RefR.cong hq' r
    · exact .inr ⟨cs', vs', rfl, s2, s3, fun j q u hq hu => ⟨(s4 j q u hq hu).1, (s4 j q u hq hu).2.cong hc fun k hk => hq' k (List.mem_flatMap.2 ⟨q, List.mem_of_getElem? hq, hk⟩)⟩⟩
def Obj.keysB : Obj → List Nat
  | .box _ cs => cs.flatMap PV.key
  | _ => []
theorem ObjR.cong {g g2 : Gh} {w : World} {ob ob2 : Nat → Obj} {k : Nat} {o : Obj} (hc : g2.c = g.c) (h0 : g2.blk k = g.blk k ∧ g2.cap k = g.cap k) (h : ∀ j ∈ o.keysB, Agr g ob g2 ob2 j) (r : ObjR g w ob k o) : ObjR g2 w ob2 k o := by
  obtain ⟨e1, e2⟩ := h0
  cases o with
  | no s => trivial
  | box s cs =>
    obtain ⟨arr, T, r1, r2, r3, r4⟩ := r
    refine ⟨arr, T, by rw [e1]; exact r1, r2, by rw [e1, hc]; exact r3, fun j q hq => ?_⟩
    obtain ⟨u, h1, h2, h3⟩ := r4 j q hq
    exact ⟨u, h1, h2, h3.cong hc fun i hi => h i (List.mem_flatMap.2 ⟨q, List.mem_of_getElem? hq, hi⟩)⟩
  | bld s e sz es raw =>
    obtain ⟨arr, r1, r2, r3, r4, r5, r6, r7, r8⟩ := r
    refine ⟨arr, by rw [e1]; exact r1, by rw [e2]; exact r2, by rw [e2]; exact r3, by rw [e2]; exact r4, r5, fun i j cs p hi hj => ?_, by rw [e1, hc]; exact r7, by rw [e1, hc]; exact r8⟩
    obtain ⟨u, h1, h2, h3⟩ := r6 i j cs p hi hj
    exact ⟨u, h1, h2, by rw [hc]; exact h3⟩
  | map s es =>
    obtain ⟨arr, clock, r1, r2, r3, r4⟩ := r
    exact ⟨arr, clock, by rw [e1]; exact r1, r2, by rw [e1, hc]; exact r3, r4⟩
def part2 (K : Nat → Bool) (a b : Nat → Obj) : Nat → Obj := fun k => if K k = true then a k else b k
theorem HC_part {gl : Gl} {P : Program} {f : Nat} {args : List PV} {res : PV} {obS obS' ob : Nat → Obj} (K : Nat → Bool) (h : HC gl P f args obS res obS')
    (h1 : ∀ k, K k = true → ob k = obS k) (h2 : ∀ k, K k = false → ¬ (obS k).live) (h2' : ∀ k, K k = false → ¬ (obS' k).live)
    (ha : ∀ p ∈ args, ∀ k ∈ p.keys, K k = true) (h3 : ∀ k, ∀ j ∈ (obS k).keysB, K j = true) (h3' : ∀ k, ∀ j ∈ (obS' k).keysB, K j = true) (hr : ∀ k ∈ res.keys, K k = true) :
    HC gl P f args ob res (part2 K obS' ob) := by
  obtain ⟨hE, hC⟩ := h
  refine ⟨hE, fun g w vs hG hH hA => ?_⟩
  have live : ∀ k, (obS k).live → K k = true := fun k hl => by
    cases hk : K k with
    | true => rfl
    | false => exact absurd hl (h2 k hk)
  have live' : ∀ k, (obS' k).live → K k = true := fun k hl => by
    cases hk : K k with
    | true => rfl
    | false => exact absurd hl (h2' k hk)
  have agr : ∀ k, K k = true → Agr g ob g obS k := fun k hk => ⟨(h1 k hk).symm, rfl, rfl⟩
  have lv : ∀ k, (obS k).live → (ob k).live := fun k hl => by rw [h1 k (live k hl)]; exact hl
  have blk : ∀ b, Blk g obS b → Blk g ob b := fun b ⟨k, hl, hb⟩ => ⟨k, lv k hl, hb⟩
  have hS : HeapR g w obS := by
    refine ⟨fun k => ?_, fun k k' hl hl' => hH.inj k k' (lv k hl) (lv k' hl'), fun k hl => hH.lt k (lv k hl)⟩
    cases hk : K k with
    | true =>
      have := hH.obj k
      rw [h1 k hk] at this
      exact this.cong rfl ⟨rfl, rfl⟩ fun j hj => agr j (h3 k j hj)
    | false =>
      have := h2 k hk
      cases ho : obS k with
      | no s => trivial
      | _ => rw [ho] at this; exact absurd trivial this
  refine (hC g w vs hG hS ⟨hA.1, fun i p v hp hv => (hA.2 i p v hp hv).cong rfl fun k hk => agr k (ha p (List.mem_of_getElem? hp) k hk)⟩).mono ?_
  rintro e w' ⟨v, g', rfl, hA', hX⟩
  refine ⟨v, ⟨g'.c, fun k => if K k = true then g'.blk k else g.blk k, fun k => if K k = true then g'.cap k else g.cap k⟩, rfl, ?_, ?_⟩
  · have bl : ∀ k, K k = false → (ob k).live → ¬ Blk g obS (g.blk k) := fun k hk hl ⟨j, hj, hb⟩ => by
      have := hH.inj j k (lv j hj) hl hb
      subst this
      rw [live j hj] at hk; cases hk
    have agr' : ∀ k, K k = true → Agr g' obS' ⟨g'.c, fun k => if K k = true then g'.blk k else g.blk k, fun k => if K k = true then g'.cap k else g.cap k⟩ (part2 K obS' ob) k := fun k hk => by
      simp [Agr, part2, hk]
    have step : ObStep g ob ⟨g'.c, fun k => if K k = true then g'.blk k else g.blk k, fun k => if K k = true then g'.cap k else g.cap k⟩ (part2 K obS' ob) := by
      intro k
      cases hk : K k with
      | true =>
        have := hA'.step k
        simp only [part2, hk, if_true, h1 k hk]
        exact this
      | false =>
        have := ObStep.refl g ob k
        simp only [part2, hk, Bool.false_eq_true, if_false]
        simpa using this
    refine ⟨⟨hA'.pres.os, hA'.pres.tape, hA'.pres.output, hA'.pres.size, fun b hb hn => hA'.pres.block b hb fun hx => hn (blk b hx), fun b hb hn => hA'.pres.c b hb fun hx => hn (blk b hx)⟩, hA'.ext, ⟨fun k => ?_, fun k k' hl hl' he => ?_, fun k hl => ?_⟩, step, fun k hl => ?_⟩
    · cases hk : K k with
      | true =>
        have e : part2 K obS' ob k = obS' k := by simp [part2, hk]
        rw [e]
        exact (hA'.heap.obj k).cong (g := g') rfl ⟨(agr' k hk).2.1, (agr' k hk).2.2⟩ fun j hj => agr' j (h3' k j hj)
      | false =>
        have e : part2 K obS' ob k = ob k := by simp [part2, hk]
        rw [e]
        refine (hH.obj k).keep hA'.ext step fun hl => ⟨by simp [hk], by simp [hk], hA'.pres.c _ (hH.lt k hl) (bl k hk hl), hA'.pres.block _ (hH.lt k hl) (bl k hk hl)⟩
    · have mix : ∀ k k', K k = true → K k' = false → (obS' k).live → (ob k').live → g'.blk k = g.blk k' → False := by
        intro k k' hk hk' hl hl' he
        rcases hA'.src k hl with h | h
        · have := hH.lt k' hl'; omega
        · rw [he] at h; exact bl k' hk' hl' h
      cases hk : K k with
      | true =>
        cases hk' : K k' with
        | true =>
          simp only [part2, hk, hk', if_true] at hl hl' he
          exact hA'.heap.inj k k' hl hl' he
        | false =>
          simp only [part2, hk, hk', if_true, Bool.false_eq_true, if_false] at hl hl' he
          exact (mix k k' hk hk' hl hl' he).elim
      | false =>
        cases hk' : K k' with
        | true =>
          simp only [part2, hk, hk', if_true, Bool.false_eq_true, if_false] at hl hl' he
          exact (mix k' k hk' hk hl' hl he.symm).elim
        | false =>
          simp only [part2, hk, hk', Bool.false_eq_true, if_false] at hl hl' he
          exact hH.inj k k' hl hl' he
    · cases hk : K k with
      | true =>
        simp only [part2, hk, if_true] at hl ⊢
        exact hA'.heap.lt k hl
      | false =>
        simp only [part2, hk, Bool.false_eq_true, if_false] at hl ⊢
        exact Nat.lt_of_lt_of_le (hH.lt k hl) hA'.ext.size
    · cases hk : K k with
      | true =>
        simp only [part2, hk, if_true] at hl ⊢
        rcases hA'.src k hl with h | h
        · exact .inl h
        · exact .inr (blk _ h)
      | false =>
        simp only [part2, hk, Bool.false_eq_true, if_false] at hl ⊢
        exact .inr ⟨k, hl, rfl⟩
  · refine hX.cong (g := g') rfl fun k hk => ?_
    simp [Agr, part2, hr k hk]
end Go.Hf
end
section
namespace Go.Hf
open Go.RowKit
def forget (K : Nat → Bool) (ob : Nat → Obj) : Nat → Obj := fun k => if K k = true then ob k else .no (ob k).stamp
theorem forget_step (g : Gh) (K : Nat → Bool) (ob : Nat → Obj) : ObStep g ob g (forget K ob) := by
  intro k
  cases hk : K k with
  | true =>
    have := ObStep.refl g ob k
    simp only [forget, hk, if_true]
    simpa using this
  | false =>
    simp only [forget, hk, Bool.false_eq_true, if_false]
    exact ⟨Nat.le_refl _, fun _ h => (by cases h), fun _ _ _ _ h => (by cases h), fun _ h => (by cases h)⟩
theorem HC_forget {gl : Gl} {P : Program} {f : Nat} {args : List PV} {res : PV} {ob ob' : Nat → Obj} (K : Nat → Bool) (h : HC gl P f args ob res ob') : HC gl P f args ob res (forget K ob') := by
  obtain ⟨hE, hC⟩ := h
  refine ⟨hE, fun g w vs hG hH hA => (hC g w vs hG hH hA).mono ?_⟩
  rintro e w' ⟨v, g', rfl, hA', hX⟩
  have st := forget_step g' K ob'
  have lv : ∀ k, (forget K ob' k).live → (ob' k).live := fun k hl => by
    cases hk : K k with
    | true => simpa [forget, hk] using hl
    | false => simp [forget, hk, Obj.live] at hl
  refine ⟨v, g', rfl, ⟨hA'.pres, hA'.ext, ⟨fun k => ?_, fun k k' hl hl' => hA'.heap.inj k k' (lv k hl) (lv k' hl'), fun k hl => hA'.heap.lt k (lv k hl)⟩, hA'.step.trans st, fun k hl => hA'.src k (lv k hl)⟩, hX.step (Ext.refl _ _) st⟩
  cases hk : K k with
  | true =>
    have e : forget K ob' k = ob' k := by simp [forget, hk]
    rw [e]
    exact (hA'.heap.obj k).keep (Ext.refl _ _) st fun _ => ⟨rfl, rfl, rfl, rfl⟩
  | false =>
    have e : forget K ob' k = .no (ob' k).stamp := by simp [forget, hk]
    rw [e]; trivial
section
variable (p0 s0 : Nat)
inductive Al where
  | n (k : Nat)
  | a (n : Nat)
  | t
  | z
  | g (q st e len ub : Nat)
def Al.res (t : Nat → PV) : Al → PV
  | .n k => .sc (.int .i64 k)
  | .a m => .agg ((List.range m).map t)
  | .t => t 0
  | .z => nils
  | .g q st _ len _ => .bld q st 0 len
def rowsP (t : Nat → PV) (len : Nat) : List (List PV) := (List.range len).map fun r => (List.range 11).map fun c => t (11 * r + c)
def srcOb (B A : PV) : Nat → Obj := fun k => if k = p0 then .box s0 [B, A] else .no 0
def Al.ob (B : PV) (t : Nat → PV) (A : PV) : Al → Nat → Obj
  | .g q st e len _ => fun k => if k = q then .bld st e 11 (rowsP t len) false else srcOb p0 s0 B A k
  | _ => srcOb p0 s0 B A
def Pos (m : Nat) (a : PV) : Prop := ∃ z : Nat, z ≤ m ∧ a = .sc (.int .i64 z)
def Like (o ob' : Nat → Obj) : Prop := ∀ k, ((o k).live → ob' k = o k) ∧ (¬ (o k).live → ¬ (ob' k).live)
def Draw (gl : Gl) (P : Program) (B : PV) (m f : Nat) (args : List PV) (n : Nat) (al : Nat → Al) : Prop :=
  ∀ a, Pos m a → ∃ i, i < n ∧ ∃ t : Nat → PV, (∀ i, flat (t i) = true) ∧ ∃ a', Pos m a' ∧ ∃ ob', Like ((al i).ob p0 s0 B t a') ob' ∧
    HC gl P f (.bptr p0 s0 0 :: args) (srcOb p0 s0 B a) ((al i).res t) ob'
inductive Sp where
  | ints (n : Nat)
  | one (al : Al)
  | lst (q e ub : Nat)
def Sp.n : Sp → Nat
  | .ints n => n
  | .one _ => 1
  | .lst _ _ _ => 4
def Sp.al : Sp → Nat → Al
  | .ints _ => fun i => .n i
  | .one a => fun _ => a
  | .lst q e ub => fun i => match i with | 0 => .z | i + 1 => .g q (i + 1) e (i + 1) ub
structure Sc where
  f : Nat
  args : List XV
  al : Al
inductive Dr where
  | done
  | ask (f : Nat) (args : List XV) (sp : Sp) (kid : Nat → Dr)
def tks (b n : Nat) : List XV := (List.range n).map fun i => .tok (b + i)
def rowsX (b len : Nat) : List (List XV) := (List.range len).map fun r => (List.range 11).map fun c => .tok (b + (11 * r + c))
def Al.resX (j : Nat) : Al → XV
  | .n k => .i .i64 (Nat.add 18446744073709551616 k)
  | .a m => .agg (tks (64 * j) m)
  | .t => .tok (64 * j)
  | .z => .nl
  | .g q st _ len _ => .bld q st 0 len
def srcS (j : Nat) : SObj := .x (.box s0 [.tok 62, .tok (64 * j + 63)])
noncomputable def ansS (b : Nat) (segs : SL) (j : Nat) : Al → Ans
  | .g q st e len ub => bo (Nat.ble b q) (bo (Nat.ble (Nat.succ q) ub) (bo (Nat.ble b ub)
      (.ok (.bld q st 0 len) ub (.cons b (.cons q (.x (.bld st e 11 (rowsX (64 * j) len) false)) .nil) (segs.set p0 (srcS s0 (j + 1)))) [p0]) .no) .no) .no
  | .n k => .ok (.i .i64 (Nat.add 18446744073709551616 k)) b (segs.set p0 (srcS s0 (j + 1))) [p0]
  | .a m => .ok (.agg (tks (64 * j) m)) b (segs.set p0 (srcS s0 (j + 1))) [p0]
  | .t => .ok (.tok (64 * j)) b (segs.set p0 (srcS s0 (j + 1))) [p0]
  | .z => .ok .nl b (segs.set p0 (srcS s0 (j + 1))) [p0]
def eqX1 : XV → XV → Bool
  | .i k n, .i k' n' => eqK' k k' && Nat.beq n n'
  | .tok i, .tok j => Nat.beq i j && Nat.beq i 61
  | _, _ => false
where eqK' : IntKind → IntKind → Bool := sameK
def eqXs : List XV → List XV → Bool
  | [], [] => true
  | x :: r, y :: s => eqX1 x y && eqXs r s
  | _, _ => false
variable [Tok]
theorem eqX1_ok {x y : XV} (h : eqX1 x y = true) : x = y ∧ ((∃ k n, x = .i k n) ∨ x = .tok 61) := by
  unfold eqX1 at h
  split at h
  · simp only [Bool.and_eq_true] at h
    obtain ⟨h1, h2⟩ := h
    have e1 := sameK_ok h1
    have e2 := Nat.eq_of_beq_eq_true h2
    subst e1; subst e2; exact ⟨rfl, .inl ⟨_, _, rfl⟩⟩
  · simp only [Bool.and_eq_true] at h
    have e1 := Nat.eq_of_beq_eq_true h.1
    have e2 := Nat.eq_of_beq_eq_true h.2
    subst e1; subst e2; exact ⟨rfl, .inr rfl⟩
  · cases h
theorem eqXs_ok : ∀ {l r : List XV}, eqXs l r = true → l = r ∧ ∀ x ∈ l, (∃ k n, x = .i k n) ∨ x = .tok 61
  | [], [], _ => ⟨rfl, fun _ h => by cases h⟩
  | x :: l, y :: r, h => by
    simp only [eqXs, Bool.and_eq_true] at h
    obtain ⟨e1, h1⟩ := eqX1_ok h.1
    obtain ⟨e2, h2⟩ := eqXs_ok h.2
    subst e1; subst e2
    refine ⟨rfl, fun x' hx => ?_⟩
    rcases List.mem_cons.1 hx with rfl | hx
    · exact h1
    · exact h2 x' hx
  | [], _ :: _, h => by cases h
  | _ :: _, [], h => by cases h
def ctoks : Nat → List (List XV)
  | 0 => []
  | n + 1 => ctoks n ++ [[.tok (1000000 + n)]]
def eqRows : List (List XV) → Nat → Bool
  | [], _ => true
  | [.tok i] :: r, n => Nat.beq i n && eqRows r (n + 1)
  | _ :: _, _ => false
def bOk (ini : Option (Option Nat)) : XV → Bool
  | .tok i => Nat.beq i 62
  | .nl => match ini with | some none => true | _ => false
  | .lst sz es => match ini with | some (some L) => Nat.beq sz 1 && Nat.beq es.length L && eqRows es 1000000 | _ => false
  | _ => false
def atTok (ini : Option (Option Nat)) : List XV → Option Nat
  | [b, .tok i] => if bOk ini b && Nat.beq (Nat.mod i 64) 63 then some (Nat.div i 64) else none
  | [b, .i .i64 n] => match ini with | some _ => if bOk ini b && Nat.beq n 18446744073709551616 then some 0 else none | none => none
  | _ => none
theorem atTok_ok {ini : Option (Option Nat)} {l : List XV} {j : Nat} (h : atTok ini l = some j) : ∃ x y, l = [x, y] ∧ bOk ini x = true ∧ (y = .tok (64 * j + 63) ∨ (∃ o, ini = some o) ∧ j = 0 ∧ y = .i .i64 18446744073709551616) := by
  unfold atTok at h
  split at h
  · rename_i b i
    split at h
    · rename_i hc
      simp only [Bool.and_eq_true] at hc
      have e2 : i % 64 = 63 := Nat.eq_of_beq_eq_true hc.2
      simp only [Option.some.injEq] at h
      have e3 : i / 64 = j := h
      have : i = 64 * j + 63 := by omega
      exact ⟨b, _, rfl, hc.1, .inl (by rw [this])⟩
    · cases h
  · rename_i b n
    split at h
    · rename_i o
      split at h
      · rename_i hc
        simp only [Bool.and_eq_true] at hc
        have e1 := Nat.eq_of_beq_eq_true hc.2
        subst e1
        simp only [Option.some.injEq] at h
        exact ⟨b, _, rfl, hc.1, .inr ⟨⟨_, rfl⟩, h.symm, rfl⟩⟩
      · cases h
    · cases h
  · cases h
noncomputable def gD (ini : Option (Option Nat)) (σ : List Sc) (f : Nat) : Bd := fun _ l b segs => argK l fun p l' =>
  onP p (fun _ _ => .no) (fun k s o => bo (an (Nat.beq k p0) (an (Nat.beq s s0) (an (Nat.beq o 0) (Nat.ble (Nat.succ p0) b))))
    (onBox (obX b segs p0) fun s' cs => bo (Nat.beq s' s0) (@Option.rec Nat (fun _ => Ans) .no (fun j => nthK j σ fun sc => bo (an (Nat.beq sc.f f) (eqXs sc.args l')) (ansS p0 s0 b segs j sc.al) .no) (atTok ini cs)) .no) .no) (fun _ _ _ _ => .no)
noncomputable def uS (ini : Option (Option Nat)) (T : DT) (N : Nat) (σ : List Sc) (g104 : Bd) : Fn := fun f l b segs =>
  @Bool.rec (fun _ => Ans) (@Bool.rec (fun _ => Ans) (tab T N f l b segs) (g104 (tab T N) l b segs) (Nat.beq f 104)) (gD p0 s0 ini σ f (tab T N) l b segs) (memF [7, 23, 24, 25, 27, 37, 9] f)
end
end Go.Hf
end

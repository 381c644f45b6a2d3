/- Pure frames, part V: regions and whole bodies, resolved; the pure predicate transformer says what the model's does. -/
import Derived.Test.YthiipifjdfmblaaGreatDoorPfU
set_option linter.unusedVariables false
set_option linter.unusedSimpArgs false
namespace Go.Pf
open Go.RowKit

/-- The code of a place, for masks. -/
def locBit : Loc → Nat
  | .inl t => 2 * t
  | .inr k => 2 * k + 1

theorem locBit_inj {a b : Loc} (h : locBit a = locBit b) : a = b := by
  cases a <;> cases b <;> simp only [locBit] at h
  · congr 1; omega
  · omega
  · omega
  · congr 1; omega

def maskOf : List Loc → Nat
  | [] => 0
  | l :: r => (1 <<< locBit l) ||| maskOf r

theorem maskOf_mem : ∀ {l : Loc} {ls : List Loc}, l ∈ ls → (maskOf ls).testBit (locBit l) = true
  | l, [], h => by cases h
  | l, x :: r, h => by
    simp only [maskOf, Nat.testBit_or, Bool.or_eq_true]
    rcases List.mem_cons.1 h with rfl | h
    · left; simp [Nat.testBit_shiftLeft]
    · right; exact maskOf_mem h

theorem mask_meet {l : Loc} {a b : List Loc} (ha : l ∈ a) (hb : l ∈ b) : (maskOf a &&& maskOf b) ≠ 0 := by
  intro h
  have : (maskOf a &&& maskOf b).testBit (locBit l) = true := by rw [Nat.testBit_and, maskOf_mem ha, maskOf_mem hb]; rfl
  rw [h] at this
  simp at this

/-- The operations that come before one, by its edges: a mask. -/
def edgesAnc (done : Nat → Nat) : List Edge → Nat
  | [] => 0
  | e :: r => (if Region.binds .any e then (1 <<< e.on) ||| done e.on else 0) ||| edgesAnc done r

theorem edgesAnc_ok {ops : Array Oper} {j : Nat} {o : Oper} (ho : ops[j]? = some o) {done : Nat → Nat} : ∀ (l : List Edge), (∀ e ∈ l, e ∈ o.after ∧ (Region.binds .any e = true → ∀ i, (done e.on).testBit i = true → Anc ops i e.on)) →
    ∀ i, (edgesAnc done l).testBit i = true → Anc ops i j
  | [], _, i, h => by simp [edgesAnc] at h
  | e :: r, hl, i, h => by
    simp only [edgesAnc, Nat.testBit_or, Bool.or_eq_true] at h
    rcases h with h | h
    · split at h
      · rename_i hb
        obtain ⟨he, hd⟩ := hl e (by simp)
        rw [Nat.testBit_or, Bool.or_eq_true] at h
        rcases h with h | h
        · have : i = e.on := by
            rw [Nat.testBit_shiftLeft] at h
            simp only [Bool.and_eq_true, decide_eq_true_eq] at h
            obtain ⟨h1, h2⟩ := h
            rcases Nat.eq_zero_or_pos (i - e.on) with h4 | h4
            · omega
            · have : (1 : Nat).testBit (i - e.on) = false := Nat.testBit_lt_two_pow (Nat.one_lt_two_pow (by omega))
              rw [this] at h2; cases h2
          subst this
          exact .edge ho (by simpa using he) hb rfl
        · exact .trans (hd hb i h) (.edge ho (by simpa using he) hb rfl)
      · simp at h
    · exact edgesAnc_ok ho r (fun e he => hl e (by simp [he])) i h

/-- Does this operation, the j-th, stand well behind those before it? They are given from the last to the first, each with its masks. -/
def okBefore (rd wr anc : Nat) : List (Nat × Nat × Nat) → Bool
  | [] => true
  | (r', w', _) :: rest => ((w' &&& (rd ||| wr)) == 0 && (r' &&& wr) == 0 || anc.testBit rest.length) && okBefore rd wr anc rest

def ancOf : List (Nat × Nat × Nat) → Nat → Nat
  | [], _ => 0
  | (_, _, a) :: rest, i => if i = rest.length then a else ancOf rest i

def backOk (j : Nat) (l : List Edge) : Bool := l.all fun e => !Region.binds .any e || decide (e.on < j)

def drawFrom : List Oper → List POper → List (Nat × Nat × Nat) → Bool
  | [], [], _ => true
  | o :: os, p :: ps, acc =>
    let rd := maskOf (readsOf p)
    let wr := maskOf (writesOf p)
    let anc := edgesAnc (ancOf acc) o.after.toList
    backOk acc.length o.after.toList && (!p.r.makes || p.wk.contains (p.dst.getD 0)) && okBefore rd wr anc acc && drawFrom os ps ((rd, wr, anc) :: acc)
  | _, _, _ => false

structure AccOk (ops : Array Oper) (pos : List POper) (acc : List (Nat × Nat × Nat)) : Prop where
  get : ∀ i, i < acc.length → ∃ p, pos[i]? = some p ∧ acc.reverse[i]? = some (maskOf (readsOf p), maskOf (writesOf p), ancOf acc i)
  anc : ∀ i j, j < acc.length → (ancOf acc j).testBit i = true → Anc ops i j

theorem okBefore_ok {rd wr anc : Nat} : ∀ (acc : List (Nat × Nat × Nat)), okBefore rd wr anc acc = true → ∀ i r' w' a', acc.reverse[i]? = some (r', w', a') → ((w' &&& (rd ||| wr)) = 0 ∧ (r' &&& wr) = 0) ∨ anc.testBit i = true
  | [], _, i, r', w', a', h => by simp at h
  | (r, w, a) :: rest, hk, i, r', w', a', h => by
    simp only [okBefore, Bool.and_eq_true, Bool.or_eq_true, beq_iff_eq] at hk
    rw [List.reverse_cons] at h
    rcases Nat.lt_or_ge i rest.length with hi | hi
    · rw [List.getElem?_append_left (by simpa using hi)] at h
      exact okBefore_ok rest hk.2 i r' w' a' h
    · rw [List.getElem?_append_right (by simpa using hi)] at h
      have : i = rest.length := by
        rcases Nat.eq_or_lt_of_le hi with e | e
        · exact e.symm
        · rw [List.getElem?_eq_none (by simp; omega)] at h; cases h
      subst this
      simp at h
      obtain ⟨rfl, rfl, rfl⟩ := h
      exact hk.1

theorem drawFrom_ok {ops : Array Oper} {pos : List POper} : ∀ (os : List Oper) (ps : List POper) (acc : List (Nat × Nat × Nat)), drawFrom os ps acc = true → (∀ j, os[j]? = ops[acc.length + j]?) → (∀ j, ps[j]? = pos[acc.length + j]?) → AccOk ops pos acc →
    (∀ (j : Nat) (o : Oper), acc.length ≤ j → ops[j]? = some o → ∀ e ∈ o.after, Region.binds .any e = true → e.on < j) ∧
    (∀ (i j : Nat) (p q : POper), i < j → acc.length ≤ j → pos[i]? = some p → pos[j]? = some q → Conf p q → Anc ops i j) ∧
    (∀ (j : Nat) (p : POper), acc.length ≤ j → pos[j]? = some p → p.r.makes = true → p.dst.getD 0 ∈ p.wk)
  | [], [], acc, _, ho, hp, _ => by
    have e1 : ∀ j, acc.length ≤ j → ops[j]? = none := fun j hj => by have := ho (j - acc.length); rw [show acc.length + (j - acc.length) = j by omega] at this; simpa using this.symm
    have e2 : ∀ j, acc.length ≤ j → pos[j]? = none := fun j hj => by have := hp (j - acc.length); rw [show acc.length + (j - acc.length) = j by omega] at this; simpa using this.symm
    exact ⟨fun j o hj h => absurd h (by simp [e1 j hj]), fun i j p q _ hj _ h => absurd h (by simp [e2 j hj]), fun j p hj h => absurd h (by simp [e2 j hj])⟩
  | [], p :: ps, acc, h, _, _, _ => by simp [drawFrom] at h
  | o :: os, [], acc, h, _, _, _ => by simp [drawFrom] at h
  | o :: os, p :: ps, acc, h, ho, hp, hA => by
    simp only [drawFrom, Bool.and_eq_true] at h
    obtain ⟨⟨⟨h1, h2⟩, h3⟩, h4⟩ := h
    have ho0 : ops[acc.length]? = some o := by have := ho 0; simpa using this.symm
    have hp0 : pos[acc.length]? = some p := by have := hp 0; simpa using this.symm
    have hback : ∀ e ∈ o.after, Region.binds .any e = true → e.on < acc.length := by
      intro e he hb
      rw [backOk, List.all_eq_true] at h1
      have := h1 e (by simpa using he)
      simpa [hb] using this
    have hanc : ∀ i, (edgesAnc (ancOf acc) o.after.toList).testBit i = true → Anc ops i acc.length :=
      edgesAnc_ok ho0 _ (fun e he => ⟨by simpa using he, fun hb i hi => hA.anc i e.on (hback e (by simpa using he) hb) hi⟩)
    have hA' : AccOk ops pos ((maskOf (readsOf p), maskOf (writesOf p), edgesAnc (ancOf acc) o.after.toList) :: acc) := by
      refine ⟨fun i hi => ?_, fun i j hj hb => ?_⟩
      · simp only [List.length_cons] at hi
        rw [List.reverse_cons]
        simp only [ancOf]
        by_cases e : i = acc.length
        · subst e
          refine ⟨p, hp0, ?_⟩
          rw [List.getElem?_append_right (by simp)]
          simp
        · obtain ⟨q, hq1, hq2⟩ := hA.get i (by omega)
          refine ⟨q, hq1, ?_⟩
          rw [List.getElem?_append_left (by simp; omega), if_neg e]
          exact hq2
      · simp only [List.length_cons] at hj
        simp only [ancOf] at hb
        split at hb
        · rename_i e; subst e; exact hanc i hb
        · exact hA.anc i j (by omega) hb
    obtain ⟨r1, r2, r3⟩ := drawFrom_ok (ops := ops) (pos := pos) os ps _ h4 (fun j => by have := ho (j + 1); simp only [List.getElem?_cons_succ] at this; rw [this]; congr 1; simp only [List.length_cons]; omega)
      (fun j => by have := hp (j + 1); simp only [List.getElem?_cons_succ] at this; rw [this]; congr 1; simp only [List.length_cons]; omega) hA'
    simp only [List.length_cons] at r1 r2 r3
    refine ⟨fun j o' hj ho' => ?_, fun i j q r hij hj hq hr hc => ?_, fun j q hj hq hm => ?_⟩
    · by_cases e : j = acc.length
      · subst e; rw [ho0] at ho'; cases ho'; exact hback
      · exact r1 j o' (by omega) ho'
    · by_cases e : j = acc.length
      · subst e
        rw [hp0] at hr; cases hr
        obtain ⟨q', hq1, hq2⟩ := hA.get i hij
        rw [hq] at hq1; cases hq1
        rcases okBefore_ok acc h3 i _ _ _ hq2 with ⟨k1, k2⟩ | k
        · exfalso
          rcases hc with ⟨l, hl1, hl2⟩ | ⟨l, hl1, hl2⟩
          · have : (maskOf (writesOf q) &&& (maskOf (readsOf p) ||| maskOf (writesOf p))).testBit (locBit l) = true := by
              rw [Nat.testBit_and, Nat.testBit_or, maskOf_mem hl1]
              rcases List.mem_append.1 hl2 with h | h
              · rw [maskOf_mem h]; rfl
              · rw [maskOf_mem h]; simp
            rw [k1] at this; simp at this
          · exact mask_meet hl1 hl2 k2
        · exact hanc i k
      · exact r2 i j q r hij (by omega) hq hr hc
    · by_cases e : j = acc.length
      · subst e
        rw [hp0] at hq; cases hq
        simp only [hm, Bool.not_true, Bool.false_or, List.contains_eq_mem, decide_eq_true_eq] at h2
        exact h2
      · exact r3 j q (by omega) hq hm

def drawOk (ops : Array Oper) (pos : List POper) : Bool := drawFrom ops.toList pos []

theorem drawOk_ok {ops : Array Oper} {pos : List POper} (hl : ops.size = pos.length) (h : drawOk ops pos = true) : DrawOk ops pos := by
  obtain ⟨h1, h2, h3⟩ := drawFrom_ok (ops := ops) (pos := pos) ops.toList pos [] h (by simp) (by simp) ⟨fun i hi => by simp at hi, fun i j hj => by simp at hj⟩
  refine ⟨hl, fun j o ho => h1 j o (by simp) ho, fun i j p q hij hp hq hc => h2 i j p q hij (by simp) hp hq hc, fun po hpo hm => ?_⟩
  obtain ⟨j, hj⟩ := List.mem_iff_getElem?.1 hpo
  exact h3 j po (by simp) hj hm
end Go.Pf

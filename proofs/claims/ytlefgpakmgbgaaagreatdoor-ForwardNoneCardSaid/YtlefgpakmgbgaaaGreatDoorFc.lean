/- Fast values, part F: the store over fast objects: lists by frames; the elder objects that have turned. -/
import Derived.Test.YtlefgpakmgbgaaaGreatDoorFb
set_option linter.unusedVariables false
set_option linter.unusedSimpArgs false
set_option linter.unusedSectionVars false
section
namespace Go.Hf
section
variable [Tok]
def stepR {α β : Type} (f : α → β) (x : α) : β := f x
noncomputable def revA {α : Type} (l : List α) : List α → List α := @List.rec α (fun _ => List α → List α) (fun acc => acc) (fun x _ ih acc => stepR ih (x :: acc)) l
noncomputable def revL {α : Type} (l : List α) : List α := revA l []
theorem revA_eq {α : Type} : ∀ (l acc : List α), revA l acc = l.reverse ++ acc
  | [], _ => rfl
  | x :: r, acc => by
    show revA r (x :: acc) = _
    rw [revA_eq r]; simp
theorem revL_eq {α : Type} (l : List α) : revL l = l.reverse := by unfold revL; rw [revA_eq, List.append_nil]
inductive SObj where
  | x (o : XObj)
  | rb (s e sz : Nat) (rs : List (List XV)) (raw : Bool)
noncomputable def SObj.o (s : SObj) : XObj := @SObj.rec (fun _ => XObj) (fun o => o) (fun s e sz rs raw => .bld s e sz (revL rs) raw) s
def no0 : SObj := .x (.no 0)
inductive AL where
  | nil
  | cons (k : Nat) (o : SObj) (r : AL)
inductive SL where
  | nil
  | cons (b : Nat) (l : AL) (r : SL)
noncomputable def AL.get (l : AL) (k : Nat) : SObj :=
  @AL.rec (fun _ => SObj) no0 (fun k' o _ g => @Bool.rec (fun _ => SObj) g o (Nat.beq k' k)) l
noncomputable def AL.del (l : AL) (k : Nat) : AL :=
  @AL.rec (fun _ => AL) .nil (fun k' o r g => @Bool.rec (fun _ => AL) (.cons k' o g) r (Nat.beq k' k)) l
noncomputable def SL.get (l : SL) (k : Nat) : SObj :=
  @SL.rec (fun _ => SObj) no0 (fun b l _ g => @Bool.rec (fun _ => SObj) g (l.get k) (Nat.ble b k)) l
noncomputable def SL.set (l : SL) (k : Nat) (o : SObj) : SL :=
  @SL.rec (fun _ => SL) (.cons 0 (.cons k o .nil) .nil) (fun b l r g => @Bool.rec (fun _ => SL) (.cons b l g) (.cons b (.cons k o (l.del k)) r) (Nat.ble b k)) l
noncomputable def SL.drop (l : SL) (b : Nat) : SL :=
  @SL.rec (fun _ => SL) .nil (fun a l r g => @Bool.rec (fun _ => SL) (.cons a l r) g (Nat.ble b a)) l
theorem beq_ne {a b : Nat} (h : b ≠ a) : Nat.beq a b = false := by
  cases hh : Nat.beq a b with
  | true => exact absurd (Nat.eq_of_beq_eq_true hh).symm h
  | false => rfl
theorem beq_self (a : Nat) : Nat.beq a a = true := by simp
theorem AL.get_del : ∀ (l : AL) (k j : Nat), j ≠ k → (l.del k).get j = l.get j
  | .nil, _, _, _ => rfl
  | .cons a o r, k, j, h => by
    show AL.get (@Bool.rec (fun _ => AL) (.cons a o (r.del k)) r (Nat.beq a k)) j = @Bool.rec (fun _ => SObj) (r.get j) o (Nat.beq a j)
    cases hb : Nat.beq a k with
    | true =>
      have e := Nat.eq_of_beq_eq_true hb
      subst e
      rw [beq_ne h]
    | false =>
      show @Bool.rec (fun _ => SObj) ((r.del k).get j) o (Nat.beq a j) = _
      rw [AL.get_del r k j h]
theorem SL.get_set : ∀ (l : SL) (k j : Nat) (o : SObj), (l.set k o).get j = if j = k then o else l.get j
  | .nil, k, j, o => by
    show @Bool.rec (fun _ => SObj) no0 (@Bool.rec (fun _ => SObj) no0 o (Nat.beq k j)) (Nat.ble 0 j) = _
    have h0 : Nat.ble 0 j = true := Nat.ble_eq_true_of_le (Nat.zero_le j)
    rw [h0]
    by_cases e : j = k
    · subst e; rw [beq_self, if_pos rfl]
    · rw [beq_ne e, if_neg e]; rfl
  | .cons b l r, k, j, o => by
    show SL.get (@Bool.rec (fun _ => SL) (.cons b l (r.set k o)) (.cons b (.cons k o (l.del k)) r) (Nat.ble b k)) j = if j = k then o else @Bool.rec (fun _ => SObj) (r.get j) (l.get j) (Nat.ble b j)
    cases hb : Nat.ble b k with
    | true =>
      show @Bool.rec (fun _ => SObj) (r.get j) (@Bool.rec (fun _ => SObj) ((l.del k).get j) o (Nat.beq k j)) (Nat.ble b j) = _
      by_cases e : j = k
      · subst e; rw [hb, if_pos rfl, beq_self]
      · rw [beq_ne e, if_neg e]
        show @Bool.rec (fun _ => SObj) (r.get j) ((l.del k).get j) (Nat.ble b j) = _
        rw [AL.get_del l k j e]
    | false =>
      show @Bool.rec (fun _ => SObj) ((r.set k o).get j) (l.get j) (Nat.ble b j) = _
      rw [SL.get_set r k j o]
      by_cases e : j = k
      · subst e; simp [hb]
      · rw [if_neg e, if_neg e]
theorem SL.get_drop (b : Nat) : ∀ (l : SL) (k : Nat), k < b → (l.drop b).get k = l.get k
  | .nil, _, _ => rfl
  | .cons a l r, k, h => by
    show SL.get (@Bool.rec (fun _ => SL) (.cons a l r) (r.drop b) (Nat.ble b a)) k = @Bool.rec (fun _ => SObj) (r.get k) (l.get k) (Nat.ble a k)
    cases hb : Nat.ble b a with
    | true =>
      have h1 : b ≤ a := Nat.le_of_ble_eq_true hb
      have h2 : Nat.ble a k = false := by
        cases hh : Nat.ble a k with
        | true => have := Nat.le_of_ble_eq_true hh; omega
        | false => rfl
      rw [h2]
      exact SL.get_drop b r k h
    | false => rfl
noncomputable def obX (ub : Nat) (l : SL) : Nat → XObj := fun k => @Bool.rec (fun _ => XObj) (.no 0) (l.get k).o (Nat.blt k ub)
theorem obX_lt {ub k : Nat} {l : SL} (h : k < ub) : obX ub l k = (l.get k).o := by
  unfold obX; rw [blt_iff, decide_eq_true h]
theorem obX_ge {ub k : Nat} {l : SL} (h : ub ≤ k) : obX ub l k = .no 0 := by
  unfold obX; rw [blt_iff, decide_eq_false (Nat.not_lt.2 h)]
inductive HS where
  | mk (ub : Nat) (segs : SL) (dirty : List Nat)
noncomputable def HS.ub (h : HS) : Nat := @HS.rec (fun _ => Nat) (fun u _ _ => u) h
noncomputable def HS.segs (h : HS) : SL := @HS.rec (fun _ => SL) (fun _ s _ => s) h
noncomputable def HS.dirty (h : HS) : List Nat := @HS.rec (fun _ => List Nat) (fun _ _ d => d) h
noncomputable def HS.ob (h : HS) : Nat → XObj := @HS.rec (fun _ => Nat → XObj) (fun u s _ => obX u s) h
theorem HS.eta (h : HS) : HS.mk h.ub h.segs h.dirty = h := by cases h; rfl
theorem HS.ob_eq (h : HS) : h.ob = obX h.ub h.segs := by cases h; rfl
noncomputable def HS.dob (h : HS) : Nat → Obj := fun k => decO (h.ob k)
noncomputable def HS.sob (h : HS) (k : Nat) : SObj := @HS.rec (fun _ => SObj) (fun u s _ => @Bool.rec (fun _ => SObj) no0 (s.get k) (Nat.ble (Nat.succ k) u)) h
theorem HS.sob_o (h : HS) (k : Nat) : (h.sob k).o = h.ob k := by
  cases h with
  | mk u s d =>
    show (@Bool.rec (fun _ => SObj) no0 (s.get k) (Nat.blt k u)).o = @Bool.rec (fun _ => XObj) (.no 0) (s.get k).o (Nat.blt k u)
    cases Nat.blt k u <;> rfl
noncomputable def HS.upd1 (b : Nat) (h : HS) (k : Nat) (o : SObj) : HS :=
  @HS.rec (fun _ => HS) (fun u s d => .mk u (s.set k o) (@Bool.rec (fun _ => List Nat) d (k :: d) (Nat.blt k b))) h
structure NX (b : Nat) (h h' : HS) : Prop where
  ub : h.ub ≤ h'.ub
  dirty : ∀ k ∈ h.dirty, k ∈ h'.dirty
  same : ∀ k, k < b → k ∉ h'.dirty → h'.ob k = h.ob k
theorem NX.refl {b : Nat} {h : HS} : NX b h h := ⟨Nat.le_refl _, fun _ h => h, fun _ _ _ => rfl⟩
theorem NX.trans {b : Nat} {h h' h'' : HS} (p : NX b h h') (q : NX b h' h'') : NX b h h'' :=
  ⟨Nat.le_trans p.ub q.ub, fun x hx => q.dirty x (p.dirty x hx), fun x hx hn => (q.same x hx hn).trans (p.same x hx (fun hd => hn (q.dirty x hd)))⟩
theorem HS.upd1_ob {b : Nat} {h : HS} {k : Nat} {o : SObj} (hk : k < h.ub) : (h.upd1 b k o).ob = upd h.ob k o.o := by
  cases h with
  | mk u s d =>
    have hk' : k < u := hk
    funext j
    show obX u (s.set k o) j = upd (obX u s) k o.o j
    simp only [upd]
    by_cases hj : j < u
    · rw [obX_lt hj, SL.get_set, obX_lt hj]
      split <;> rfl
    · have hne : j ≠ k := by omega
      rw [obX_ge (by omega), if_neg hne, obX_ge (by omega)]
theorem HS.upd1_dob {b : Nat} {h : HS} {k : Nat} {o : SObj} (hk : k < h.ub) : (h.upd1 b k o).dob = upd h.dob k (decO o.o) := by
  funext j
  show decO ((h.upd1 b k o).ob j) = _
  rw [HS.upd1_ob hk]
  simp only [upd]
  split <;> rfl
theorem HS.upd1_ub {b : Nat} {h : HS} {k : Nat} {o : SObj} : (h.upd1 b k o).ub = h.ub := by cases h; rfl
theorem HS.upd1_nx {b : Nat} {h : HS} {k : Nat} {o : SObj} (hk : k < h.ub) : NX b h (h.upd1 b k o) := by
  refine ⟨by rw [HS.upd1_ub]; exact Nat.le_refl _, fun x hx => ?_, fun x hx hnd => ?_⟩
  · cases h with
    | mk u s d =>
      show x ∈ @Bool.rec (fun _ => List Nat) d (k :: d) (Nat.blt k b)
      cases Nat.blt k b with
      | true => exact List.mem_cons_of_mem _ hx
      | false => exact hx
  · rw [HS.upd1_ob hk]
    have hne : x ≠ k := by
      intro e
      subst e
      apply hnd
      cases h with
      | mk u s d =>
        show x ∈ @Bool.rec (fun _ => List Nat) d (x :: d) (Nat.blt x b)
        rw [blt_iff, decide_eq_true hx]; exact List.mem_cons_self
    rw [upd_ne _ _ hne]
def Upd (b : Nat) (us : List (Nat × XObj)) (h h' : HS) : Prop := NX b h h' ∧ h'.dob = updAll h.dob (us.map decU) ∧ h'.ub = h.ub
end
end Go.Hf
end
section
namespace Go.Hf
section
variable [Tok]
inductive Ans where
  | no
  | ok (res : XV) (ub : Nat) (segs : SL) (dirty : List Nat)
def g0 : Nat := 0
def g1 : Nat := g0
def g2 : Nat := g1
def g3 : Nat := g2
def g4 : Nat := g3
def g5 : Nat := g4
def g6 : Nat := g5
def g7 : Nat := g6
def g8 : Nat := g7
def g9 : Nat := g8
def g10 : Nat := g9
def g11 : Nat := g10
def g12 : Nat := g11
def g13 : Nat := g12
def g14 : Nat := g13
def g15 : Nat := g14
def g16 : Nat := g15
def g17 : Nat := g16
def g18 : Nat := g17
def g19 : Nat := g18
def g20 : Nat := g19
def g21 : Nat := g20
def g22 : Nat := g21
def g23 : Nat := g22
def g24 : Nat := g23
def g25 : Nat := g24
def g26 : Nat := g25
def g27 : Nat := g26
def g28 : Nat := g27
def g29 : Nat := g28
def g30 : Nat := g29
noncomputable def bo (c : Bool) (x y : Ans) : Ans := @Bool.rec (fun _ => Ans) y x c
theorem bo_ne {c : Bool} {x : Ans} (h : bo c x .no ≠ .no) : c = true ∧ bo c x .no = x := by
  cases c
  · exact absurd rfl h
  · exact ⟨rfl, rfl⟩
noncomputable def an (a b : Bool) : Bool := @Bool.rec (fun _ => Bool) false b a
theorem an_eq (a b : Bool) : an a b = (a && b) := by cases a <;> rfl
noncomputable def nt (a : Bool) : Bool := @Bool.rec (fun _ => Bool) true false a
theorem nt_eq (a : Bool) : nt a = !a := by cases a <;> rfl
noncomputable def frc (n : Nat) (f : Nat → Ans) : Ans := @Nat.rec (fun _ => Ans) (f 0) (fun p _ => f (Nat.succ p)) n
theorem frc_eq (n : Nat) (f : Nat → Ans) : frc n f = f n := by cases n <;> rfl
section
variable {α : Type}
noncomputable def lenL (l : List α) : Nat := @List.rec α (fun _ => Nat) 0 (fun _ _ n => Nat.succ n) l
theorem lenL_eq : ∀ (l : List α), lenL l = l.length
  | [] => rfl
  | _ :: r => by show Nat.succ (lenL r) = _; rw [lenL_eq r]; rfl
noncomputable def tlL (l : List α) : List α := @List.rec α (fun _ => List α) [] (fun _ t _ => t) l
theorem tlL_eq (l : List α) : tlL l = l.tail := by cases l <;> rfl
noncomputable def dropL (n : Nat) (l : List α) : List α := @Nat.rec (fun _ => List α) l (fun _ r => tlL r) n
theorem dropL_eq : ∀ (n : Nat) (l : List α), dropL n l = l.drop n
  | 0, l => rfl
  | n + 1, l => by
    show tlL (dropL n l) = _
    rw [dropL_eq n l, tlL_eq, List.tail_drop]
noncomputable def onHd (l : List α) (f : α → Ans) : Ans := @List.rec α (fun _ => Ans) .no (fun h _ _ => f h) l
noncomputable def nthK (n : Nat) (l : List α) (f : α → Ans) : Ans := onHd (dropL n l) f
theorem nthK_ne {n : Nat} {l : List α} {f : α → Ans} (h : nthK n l f ≠ .no) : ∃ x, l[n]? = some x ∧ nthK n l f = f x := by
  unfold nthK at h ⊢
  rw [dropL_eq] at h ⊢
  cases hd : l.drop n with
  | nil => rw [hd] at h; exact absurd rfl h
  | cons x r =>
    refine ⟨x, ?_, rfl⟩
    have := List.getElem?_drop (xs := l) (i := n) (j := 0)
    rw [hd] at this
    simpa using this.symm
noncomputable def takeL (n : Nat) (l : List α) : List α :=
  @Nat.rec (fun _ => List α → List α) (fun _ => []) (fun _ ih l => @List.rec α (fun _ => List α) [] (fun h t _ => h :: ih t) l) n l
theorem takeL_eq : ∀ (n : Nat) (l : List α), takeL n l = l.take n
  | 0, _ => rfl
  | _ + 1, [] => rfl
  | n + 1, x :: r => by
    show x :: takeL n r = _
    rw [takeL_eq n r]; rfl
noncomputable def owL (new cs : List α) : List α := @List.rec α (fun _ => List α → List α) (fun cs => cs) (fun x _ ih cs => x :: ih (tlL cs)) new cs
theorem owL_eq : ∀ (new cs : List α), owL new cs = new ++ cs.drop new.length
  | [], cs => rfl
  | x :: r, cs => by
    show x :: owL r (tlL cs) = _
    rw [owL_eq r, tlL_eq, List.drop_tail]; rfl
noncomputable def putL (off : Nat) (cs new : List α) : List α :=
  @Nat.rec (fun _ => List α → List α) (fun cs => owL new cs) (fun _ ih cs => @List.rec α (fun _ => List α) new (fun h t _ => h :: ih t) cs) off cs
theorem putL_eq : ∀ (off : Nat) (cs new : List α), putL off cs new = cs.take off ++ new ++ cs.drop (off + new.length)
  | 0, cs, new => by
    show owL new cs = _
    rw [owL_eq]; simp
  | off + 1, [], new => by
    show new = _
    simp
  | off + 1, x :: r, new => by
    show x :: putL off r new = _
    rw [putL_eq off r new, show off + 1 + new.length = (off + new.length) + 1 by omega]; rfl
noncomputable def spL (l : List α) (k : List α → Ans) : Ans := @List.rec α (fun _ => (List α → Ans) → Ans) (fun k => k []) (fun h _ ih k => ih fun r => k (h :: r)) l k
theorem spL_eq : ∀ (l : List α) (k : List α → Ans), spL l k = k l
  | [], _ => rfl
  | x :: r, k => by
    show spL r (fun r => k (x :: r)) = _
    rw [spL_eq r]
noncomputable def apL (a b : List α) : List α := @List.rec α (fun _ => List α) b (fun h _ ih => h :: ih) a
theorem apL_eq : ∀ (a b : List α), apL a b = a ++ b
  | [], _ => rfl
  | x :: r, b => by show x :: apL r b = _; rw [apL_eq r b]; rfl
noncomputable def setL (l : List α) (i : Nat) (x : α) : List α :=
  @Nat.rec (fun _ => List α → List α) (fun l => @List.rec α (fun _ => List α) [] (fun _ t _ => x :: t) l) (fun _ ih l => @List.rec α (fun _ => List α) [] (fun h t _ => h :: ih t) l) i l
theorem setL_eq : ∀ (i : Nat) (l : List α) (x : α), setL l i x = l.set i x
  | 0, [], _ => rfl
  | 0, _ :: _, _ => rfl
  | _ + 1, [], _ => rfl
  | i + 1, y :: r, x => by show y :: setL r i x = _; rw [setL_eq i r x]; rfl
noncomputable def repL (n : Nat) (x : α) : List α := @Nat.rec (fun _ => List α) [] (fun _ r => x :: r) n
theorem repL_eq (n : Nat) (x : α) : repL n x = List.replicate n x := by
  induction n with
  | zero => rfl
  | succ n ih => show x :: repL n x = _; rw [ih]; rfl
end
noncomputable def onI (x : XV) (f : IntKind → Nat → Ans) : Ans :=
  @XV.rec (fun _ => Ans) (fun _ => PUnit) (fun _ => PUnit) .no (fun _ => .no) f (fun _ _ => .no) .no (fun _ => .no) (fun _ _ => .no) (fun _ _ => .no) (fun _ _ _ => .no) (fun _ _ _ => .no) (fun _ _ _ => .no) (fun _ _ _ _ => .no) (fun _ _ _ _ => .no) (fun _ _ => .no) (fun _ _ _ => .no) (fun _ => .no) PUnit.unit (fun _ _ _ _ => PUnit.unit) PUnit.unit (fun _ _ _ _ => PUnit.unit) x
noncomputable def onB (x : XV) (f : Bool → Ans) : Ans :=
  @XV.rec (fun _ => Ans) (fun _ => PUnit) (fun _ => PUnit) .no f (fun _ _ => .no) (fun _ _ => .no) .no (fun _ => .no) (fun _ _ => .no) (fun _ _ => .no) (fun _ _ _ => .no) (fun _ _ _ => .no) (fun _ _ _ => .no) (fun _ _ _ _ => .no) (fun _ _ _ _ => .no) (fun _ _ => .no) (fun _ _ _ => .no) (fun _ => .no) PUnit.unit (fun _ _ _ _ => PUnit.unit) PUnit.unit (fun _ _ _ _ => PUnit.unit) x
noncomputable def onS (x : XV) (f : Nat → Nat → Ans) : Ans :=
  @XV.rec (fun _ => Ans) (fun _ => PUnit) (fun _ => PUnit) .no (fun _ => .no) (fun _ _ => .no) f .no (fun _ => .no) (fun _ _ => .no) (fun _ _ => .no) (fun _ _ _ => .no) (fun _ _ _ => .no) (fun _ _ _ => .no) (fun _ _ _ _ => .no) (fun _ _ _ _ => .no) (fun _ _ => .no) (fun _ _ _ => .no) (fun _ => .no) PUnit.unit (fun _ _ _ _ => PUnit.unit) PUnit.unit (fun _ _ _ _ => PUnit.unit) x
noncomputable def onIS (x : XV) (f : IntKind → Nat → Ans) (g : Nat → Nat → Ans) : Ans :=
  @XV.rec (fun _ => Ans) (fun _ => PUnit) (fun _ => PUnit) .no (fun _ => .no) f g .no (fun _ => .no) (fun _ _ => .no) (fun _ _ => .no) (fun _ _ _ => .no) (fun _ _ _ => .no) (fun _ _ _ => .no) (fun _ _ _ _ => .no) (fun _ _ _ _ => .no) (fun _ _ => .no) (fun _ _ _ => .no) (fun _ => .no) PUnit.unit (fun _ _ _ _ => PUnit.unit) PUnit.unit (fun _ _ _ _ => PUnit.unit) x
noncomputable def onA (x : XV) (f : List XV → Ans) : Ans :=
  @XV.rec (fun _ => Ans) (fun _ => PUnit) (fun _ => PUnit) .no (fun _ => .no) (fun _ _ => .no) (fun _ _ => .no) .no (fun _ => .no) (fun a1 _ => f a1) (fun _ _ => .no) (fun _ _ _ => .no) (fun _ _ _ => .no) (fun _ _ _ => .no) (fun _ _ _ _ => .no) (fun _ _ _ _ => .no) (fun _ _ => .no) (fun _ _ _ => .no) (fun _ => .no) PUnit.unit (fun _ _ _ _ => PUnit.unit) PUnit.unit (fun _ _ _ _ => PUnit.unit) x
noncomputable def onT (x : XV) (f : List XV → Ans) : Ans :=
  @XV.rec (fun _ => Ans) (fun _ => PUnit) (fun _ => PUnit) .no (fun _ => .no) (fun _ _ => .no) (fun _ _ => .no) .no (fun _ => .no) (fun _ _ => .no) (fun a1 _ => f a1) (fun _ _ _ => .no) (fun _ _ _ => .no) (fun _ _ _ => .no) (fun _ _ _ _ => .no) (fun _ _ _ _ => .no) (fun _ _ => .no) (fun _ _ _ => .no) (fun _ => .no) PUnit.unit (fun _ _ _ _ => PUnit.unit) PUnit.unit (fun _ _ _ _ => PUnit.unit) x
noncomputable def onP (x : XV) (e : List XV → Nat → Ans) (f : Nat → Nat → Nat → Ans) (g : Nat → Nat → Nat → Nat → Ans) : Ans :=
  @XV.rec (fun _ => Ans) (fun _ => PUnit) (fun _ => PUnit) .no (fun _ => .no) (fun _ _ => .no) (fun _ _ => .no) .no (fun _ => .no) (fun _ _ => .no) (fun _ _ => .no) (fun _ _ _ => .no) (fun a1 a2 _ => e a1 a2) f (fun _ _ _ _ => .no) g (fun _ _ => .no) (fun _ _ _ => .no) (fun _ => .no) PUnit.unit (fun _ _ _ _ => PUnit.unit) PUnit.unit (fun _ _ _ _ => PUnit.unit) x
noncomputable def onL (x : XV) (z : Ans) (f : Nat → List (List XV) → Ans) (g : Nat → Nat → Nat → Nat → Ans) : Ans :=
  @XV.rec (fun _ => Ans) (fun _ => PUnit) (fun _ => PUnit) .no (fun _ => .no) (fun _ _ => .no) (fun _ _ => .no) z (fun _ => .no) (fun _ _ => .no) (fun _ _ => .no) (fun a1 a2 _ => f a1 a2) (fun _ _ _ => .no) (fun _ _ _ => .no) g (fun _ _ _ _ => .no) (fun _ _ => .no) (fun _ _ _ => .no) (fun _ => .no) PUnit.unit (fun _ _ _ _ => PUnit.unit) PUnit.unit (fun _ _ _ _ => PUnit.unit) x
noncomputable def onBox (o : XObj) (f : Nat → List XV → Ans) : Ans := @XObj.rec (fun _ => Ans) (fun _ => .no) f (fun _ _ _ _ _ => .no) (fun _ _ => .no) o
noncomputable def onBld (o : XObj) (f : Nat → Nat → Nat → List (List XV) → Bool → Ans) : Ans := @XObj.rec (fun _ => Ans) (fun _ => .no) (fun _ _ => .no) f (fun _ _ => .no) o
theorem onI_ne {x : XV} {f : IntKind → Nat → Ans} (h : onI x f ≠ .no) : ∃ q n, x = .i q n ∧ onI x f = f q n := by
  cases x <;> first | exact absurd rfl h | exact ⟨_, _, rfl, rfl⟩
theorem onB_ne {x : XV} {f : Bool → Ans} (h : onB x f ≠ .no) : ∃ c, x = .b c ∧ onB x f = f c := by
  cases x <;> first | exact absurd rfl h | exact ⟨_, rfl, rfl⟩
theorem onS_ne {x : XV} {f : Nat → Nat → Ans} (h : onS x f ≠ .no) : ∃ l n, x = .s l n ∧ onS x f = f l n := by
  cases x <;> first | exact absurd rfl h | exact ⟨_, _, rfl, rfl⟩
theorem onIS_ne {x : XV} {f : IntKind → Nat → Ans} {g : Nat → Nat → Ans} (h : onIS x f g ≠ .no) : (∃ q n, x = .i q n ∧ onIS x f g = f q n) ∨ (∃ l n, x = .s l n ∧ onIS x f g = g l n) := by
  cases x <;> first | exact absurd rfl h | exact .inl ⟨_, _, rfl, rfl⟩ | exact .inr ⟨_, _, rfl, rfl⟩
theorem onA_ne {x : XV} {f : List XV → Ans} (h : onA x f ≠ .no) : ∃ cs, x = .agg cs ∧ onA x f = f cs := by
  cases x <;> first | exact absurd rfl h | exact ⟨_, rfl, rfl⟩
theorem onT_ne {x : XV} {f : List XV → Ans} (h : onT x f ≠ .no) : ∃ cs, x = .tup cs ∧ onT x f = f cs := by
  cases x <;> first | exact absurd rfl h | exact ⟨_, rfl, rfl⟩
theorem onP_ne {x : XV} {e : List XV → Nat → Ans} {f : Nat → Nat → Nat → Ans} {g : Nat → Nat → Nat → Nat → Ans} (h : onP x e f g ≠ .no) :
    (∃ cs o, x = .eptr cs o ∧ onP x e f g = e cs o) ∨ (∃ k s o, x = .bptr k s o ∧ onP x e f g = f k s o) ∨ (∃ k s i o, x = .kptr k s i o ∧ onP x e f g = g k s i o) := by
  cases x <;> first | exact absurd rfl h | exact .inl ⟨_, _, rfl, rfl⟩ | exact .inr (.inl ⟨_, _, _, rfl, rfl⟩) | exact .inr (.inr ⟨_, _, _, _, rfl, rfl⟩)
theorem onL_ne {x : XV} {z : Ans} {f : Nat → List (List XV) → Ans} {g : Nat → Nat → Nat → Nat → Ans} (h : onL x z f g ≠ .no) :
    (x = .nl ∧ onL x z f g = z) ∨ (∃ sz es, x = .lst sz es ∧ onL x z f g = f sz es) ∨ (∃ k s o l, x = .bld k s o l ∧ onL x z f g = g k s o l) := by
  cases x <;> first | exact absurd rfl h | exact .inl ⟨rfl, rfl⟩ | exact .inr (.inl ⟨_, _, rfl, rfl⟩) | exact .inr (.inr ⟨_, _, _, _, rfl, rfl⟩)
theorem onBox_ne {o : XObj} {f : Nat → List XV → Ans} (h : onBox o f ≠ .no) : ∃ s cs, o = .box s cs ∧ onBox o f = f s cs := by
  cases o <;> first | exact absurd rfl h | exact ⟨_, _, rfl, rfl⟩
theorem onBld_ne {o : XObj} {f : Nat → Nat → Nat → List (List XV) → Bool → Ans} (h : onBld o f ≠ .no) : ∃ s e sz es r, o = .bld s e sz es r ∧ onBld o f = f s e sz es r := by
  cases o <;> first | exact absurd rfl h | exact ⟨_, _, _, _, _, rfl, rfl⟩
noncomputable def ordK (k : IntKind) : Nat := @IntKind.rec (fun _ => Nat) 0 1 2 3 4 5 6 7 k
noncomputable def eqK (k k' : IntKind) : Bool := Nat.beq (ordK k) (ordK k')
theorem eqK_ok {k k' : IntKind} (h : eqK k k' = true) : k = k' ∧ sameK k k' = true := by
  cases k <;> cases k' <;> first | exact ⟨rfl, rfl⟩ | exact absurd h (by simp [eqK, ordK])
noncomputable def loF (k : IntKind) : Nat := @IntKind.rec (fun _ => Nat) 18446744073709551488 18446744073709518848 18446744071562067968 9223372036854775808 18446744073709551616 18446744073709551616 18446744073709551616 18446744073709551616 k
noncomputable def hiF (k : IntKind) : Nat := @IntKind.rec (fun _ => Nat) 18446744073709551743 18446744073709584383 18446744075857035263 27670116110564327423 18446744073709551871 18446744073709617151 18446744078004518911 36893488147419103231 k
noncomputable def inF (k : IntKind) (n : Nat) : Bool := an (Nat.ble (loF k) n) (Nat.ble n (hiF k))
theorem inF_eq (k : IntKind) (n : Nat) : inF k n = inK k n := by
  unfold inF
  rw [an_eq]
  cases k <;> rfl
end
end Go.Hf
end
section
namespace Go.Hf
section
variable [Tok]
def Sel (a : Ans) (x : Option XV) (k : XV → Ans) : Prop := a ≠ .no → ∃ v, x = some v ∧ a = k v
noncomputable def kv (x : Option XV) (k : XV → Ans) : Ans := @Option.rec XV (fun _ => Ans) .no k x
theorem kv_sel (x : Option XV) (k : XV → Ans) : Sel (kv x k) x k := by
  intro h
  cases x with
  | none => exact absurd rfl h
  | some v => exact ⟨v, rfl, rfl⟩
noncomputable def kPick (c a b : XV) (k : XV → Ans) : Ans := onB c fun t => bo t (k a) (k b)
theorem kPick_sel (c a b : XV) (k : XV → Ans) : Sel (kPick c a b k) (vPick c a b) k := by
  intro h
  obtain ⟨t, rfl, e⟩ := onB_ne h
  cases t
  · exact ⟨b, rfl, rfl⟩
  · exact ⟨a, rfl, rfl⟩
noncomputable def kTake (isAgg : Bool) (n : Nat) (cs : List XV) (off : Nat) (k : XV → Ans) : Ans :=
  @Bool.rec (fun _ => Ans) (nthK off cs k)
    (bo (an (Nat.beq off 0) (Nat.beq n (lenL cs))) (k (.agg cs)) (bo (Nat.ble (Nat.add off n) (lenL cs)) (k (.agg (takeL n (dropL off cs)))) .no)) isAgg
theorem kTake_sel (isAgg : Bool) (n : Nat) (cs : List XV) (off : Nat) (k : XV → Ans) : Sel (kTake isAgg n cs off k) (takeAggX isAgg n cs off) k := by
  intro h
  cases isAgg with
  | false =>
    change nthK off cs k ≠ .no at h
    obtain ⟨x, h1, h2⟩ := nthK_ne h
    exact ⟨x, h1, h2⟩
  | true =>
    change bo (an (Nat.beq off 0) (Nat.beq n (lenL cs))) (k (.agg cs)) (bo (Nat.ble (Nat.add off n) (lenL cs)) (k (.agg (takeL n (dropL off cs)))) .no) ≠ .no at h
    show ∃ v, takeAggX true n cs off = some v ∧ bo (an (Nat.beq off 0) (Nat.beq n (lenL cs))) (k (.agg cs)) (bo (Nat.ble (Nat.add off n) (lenL cs)) (k (.agg (takeL n (dropL off cs)))) .no) = k v
    rw [an_eq, lenL_eq] at h ⊢
    cases hc : (Nat.beq off 0 && Nat.beq n cs.length) with
    | true =>
      simp only [Bool.and_eq_true, Nat.beq_eq] at hc
      obtain ⟨rfl, rfl⟩ := hc
      have hl := Nat.ble_eq_true_of_le (Nat.le_refl cs.length)
      refine ⟨_, ?_, rfl⟩
      simp [takeAggX, hl]
    | false =>
      rw [hc] at h
      change bo (Nat.ble (Nat.add off n) cs.length) _ .no ≠ .no at h
      obtain ⟨h1, _⟩ := bo_ne h
      refine ⟨_, ?_, (bo_ne h).2⟩
      simp only [takeAggX, cond_true, h1, takeL_eq, dropL_eq]
noncomputable def kLoad (ob : Nat → XObj) (isAgg : Bool) (n : Nat) (a : XV) (k : XV → Ans) : Ans :=
  onP a (fun cs off => kTake isAgg n cs off k)
    (fun key s off => onBox (ob key) fun s' cs => bo (Nat.beq s s') (kTake isAgg n cs off k) .no)
    (fun key s i off => onBld (ob key) fun s' _ _ es _ => bo (Nat.beq s s') (nthK i es fun cs => kTake isAgg n cs off k) .no)
theorem kLoad_sel (ob : Nat → XObj) (isAgg : Bool) (n : Nat) (a : XV) (k : XV → Ans) : Sel (kLoad ob isAgg n a k) (vLoad ob isAgg n a) k := by
  intro h
  unfold kLoad at h ⊢
  rcases onP_ne h with ⟨cs, off, rfl, e⟩ | ⟨key, s, off, rfl, e⟩ | ⟨key, s, i, off, rfl, e⟩
  · rw [e] at h ⊢
    obtain ⟨v, h1, h2⟩ := kTake_sel _ _ _ _ _ h
    exact ⟨v, h1, h2⟩
  · rw [e] at h ⊢
    obtain ⟨s', cs, h1, h2⟩ := onBox_ne h
    rw [h2] at h ⊢
    obtain ⟨h3, h4⟩ := bo_ne h
    rw [h4] at h ⊢
    obtain ⟨v, h5, h6⟩ := kTake_sel _ _ _ _ _ h
    exact ⟨v, by simp only [vLoad, h1, h3, cond_true]; exact h5, h6⟩
  · rw [e] at h ⊢
    obtain ⟨s', _, _, es, _, h1, h2⟩ := onBld_ne h
    rw [h2] at h ⊢
    obtain ⟨h3, h4⟩ := bo_ne h
    rw [h4] at h ⊢
    obtain ⟨cs, h7, h8⟩ := nthK_ne h
    rw [h8] at h ⊢
    obtain ⟨v, h5, h6⟩ := kTake_sel _ _ _ _ _ h
    exact ⟨v, by simp only [vLoad, h1, h3, cond_true, h7]; exact h5, h6⟩
noncomputable def kNil (x : XV) (k : XV → Ans) : Ans := onP x (fun _ _ => k x) (fun _ _ _ => k x) (fun _ _ _ _ => k x)
theorem kNil_sel (x : XV) (k : XV → Ans) : Sel (kNil x k) (vNilchk x) k := by
  intro h
  unfold kNil at h ⊢
  rcases onP_ne h with ⟨cs, off, rfl, e⟩ | ⟨key, s, off, rfl, e⟩ | ⟨key, s, i, off, rfl, e⟩ <;> exact ⟨_, rfl, rfl⟩
noncomputable def eqF (l n l' n' : Nat) : Bool := an (Nat.beq l l') (Nat.beq (Nat.mod n (Nat.pow 256 l)) (Nat.mod n' (Nat.pow 256 l)))
theorem eqF_eq (l n l' n' : Nat) : eqF l n l' n' = eqS l n l' n' := by unfold eqF eqS; rw [an_eq, Nat.pow_eq]; rfl
noncomputable def kEql (x y : XV) (k : XV → Ans) : Ans :=
  onIS x (fun q a => onI y fun q' b => bo (eqK q q') (k (.b (Nat.beq a b))) .no) (fun l n => onS y fun l' n' => k (.b (eqF l n l' n')))
theorem kEql_sel (x y : XV) (k : XV → Ans) : Sel (kEql x y k) (vBin .eql x y) k := by
  intro h
  unfold kEql at h ⊢
  rcases onIS_ne h with ⟨q, a, rfl, e⟩ | ⟨l, n, rfl, e⟩
  · rw [e] at h ⊢
    obtain ⟨q', b, rfl, e2⟩ := onI_ne h
    rw [e2] at h ⊢
    obtain ⟨h3, h4⟩ := bo_ne h
    refine ⟨_, ?_, h4⟩
    simp only [vBin, (eqK_ok h3).2, cond_true, intB]
  · rw [e] at h ⊢
    obtain ⟨l', n', rfl, e2⟩ := onS_ne h
    exact ⟨_, by simp only [vBin, ← eqF_eq], e2⟩
noncomputable def kNeq (x y : XV) (k : XV → Ans) : Ans :=
  onIS x (fun q a => onI y fun q' b => bo (eqK q q') (k (.b (nt (Nat.beq a b)))) .no) (fun l n => onS y fun l' n' => k (.b (nt (eqF l n l' n'))))
theorem kNeq_sel (x y : XV) (k : XV → Ans) : Sel (kNeq x y k) (vBin .neq x y) k := by
  intro h
  unfold kNeq at h ⊢
  rcases onIS_ne h with ⟨q, a, rfl, e⟩ | ⟨l, n, rfl, e⟩
  · rw [e] at h ⊢
    obtain ⟨q', b, rfl, e2⟩ := onI_ne h
    rw [e2] at h ⊢
    obtain ⟨h3, h4⟩ := bo_ne h
    refine ⟨_, ?_, h4⟩
    simp only [vBin, (eqK_ok h3).2, cond_true, intB, nt_eq]
  · rw [e] at h ⊢
    obtain ⟨l', n', rfl, e2⟩ := onS_ne h
    exact ⟨_, by simp only [vBin, ← eqF_eq, nt_eq], e2⟩
noncomputable def kCmp (f : Nat → Nat → Bool) (x y : XV) (k : XV → Ans) : Ans := onI x fun q a => onI y fun q' b => bo (eqK q q') (k (.b (f a b))) .no
theorem kCmp_sel {f : Nat → Nat → Bool} {op : BinOp} (hf : ∀ q a b, intB op q a b = some (.b (f a b))) (x y : XV) (k : XV → Ans) : Sel (kCmp f x y k) (vBin op x y) k := by
  intro h
  unfold kCmp at h ⊢
  obtain ⟨q, a, rfl, e⟩ := onI_ne h
  rw [e] at h ⊢
  obtain ⟨q', b, rfl, e2⟩ := onI_ne h
  rw [e2] at h ⊢
  obtain ⟨h3, h4⟩ := bo_ne h
  refine ⟨_, ?_, h4⟩
  simp only [vBin, (eqK_ok h3).2, cond_true, hf]
noncomputable def kLss (x y : XV) (k : XV → Ans) : Ans := kCmp (fun a b => Nat.ble (Nat.succ a) b) x y k
theorem kLss_sel (x y : XV) (k : XV → Ans) : Sel (kLss x y k) (vBin .lss x y) k := kCmp_sel (fun _ _ _ => rfl) x y k
noncomputable def kLeq (x y : XV) (k : XV → Ans) : Ans := kCmp Nat.ble x y k
theorem kLeq_sel (x y : XV) (k : XV → Ans) : Sel (kLeq x y k) (vBin .leq x y) k := kCmp_sel (fun _ _ _ => rfl) x y k
noncomputable def kGtr (x y : XV) (k : XV → Ans) : Ans := kCmp (fun a b => Nat.ble (Nat.succ b) a) x y k
theorem kGtr_sel (x y : XV) (k : XV → Ans) : Sel (kGtr x y k) (vBin .gtr x y) k := kCmp_sel (fun _ _ _ => rfl) x y k
noncomputable def kGeq (x y : XV) (k : XV → Ans) : Ans := kCmp (fun a b => Nat.ble b a) x y k
theorem kGeq_sel (x y : XV) (k : XV → Ans) : Sel (kGeq x y k) (vBin .geq x y) k := kCmp_sel (fun _ _ _ => rfl) x y k
noncomputable def kAdd (x y : XV) (k : XV → Ans) : Ans :=
  onIS x (fun q a => onI y fun q' b => bo (eqK q q') (frc (Nat.sub (Nat.add a b) 18446744073709551616) fun c => bo (inF q c) (k (.i q c)) .no) .no)
    (fun l n => onS y fun l' n' => bo (Nat.ble (Nat.add l l') 9223372036854775807) (frc (Nat.add l l') fun l2 => frc (Nat.add (Nat.mul n (Nat.pow 256 l')) (Nat.mod n' (Nat.pow 256 l'))) fun n2 => k (.s l2 n2)) .no)
theorem kAdd_sel (x y : XV) (k : XV → Ans) : Sel (kAdd x y k) (vBin .add x y) k := by
  intro h
  unfold kAdd at h ⊢
  rcases onIS_ne h with ⟨q, a, rfl, e⟩ | ⟨l, n, rfl, e⟩
  · rw [e] at h ⊢
    obtain ⟨q', b, rfl, e2⟩ := onI_ne h
    rw [e2] at h ⊢
    obtain ⟨h3, h4⟩ := bo_ne h
    rw [h4, frc_eq] at h ⊢
    obtain ⟨h5, h6⟩ := bo_ne h
    rw [inF_eq] at h5
    exact ⟨_, by simp only [vBin, (eqK_ok h3).2, cond_true, intB, h5], h6⟩
  · rw [e] at h ⊢
    obtain ⟨l', n', rfl, e2⟩ := onS_ne h
    rw [e2] at h ⊢
    obtain ⟨h3, h4⟩ := bo_ne h
    rw [h4, frc_eq, frc_eq]
    exact ⟨_, by simp only [vBin, h3, cond_true], rfl⟩
noncomputable def kSub (x y : XV) (k : XV → Ans) : Ans :=
  onI x fun q a => onI y fun q' b => bo (eqK q q') (bo (Nat.ble b (Nat.add a 18446744073709551616)) (frc (Nat.sub (Nat.add a 18446744073709551616) b) fun c => bo (inF q c) (k (.i q c)) .no) .no) .no
theorem kSub_sel (x y : XV) (k : XV → Ans) : Sel (kSub x y k) (vBin .sub x y) k := by
  intro h
  unfold kSub at h ⊢
  obtain ⟨q, a, rfl, e⟩ := onI_ne h
  rw [e] at h ⊢
  obtain ⟨q', b, rfl, e2⟩ := onI_ne h
  rw [e2] at h ⊢
  obtain ⟨h3, h4⟩ := bo_ne h
  rw [h4] at h ⊢
  obtain ⟨h5, h6⟩ := bo_ne h
  rw [h6, frc_eq] at h ⊢
  obtain ⟨h7, h8⟩ := bo_ne h
  rw [inF_eq] at h7
  exact ⟨_, by simp only [vBin, (eqK_ok h3).2, cond_true, intB, h5, h7, Bool.and_self], h8⟩
noncomputable def kBin (op : BinOp) (x y : XV) (k : XV → Ans) : Ans :=
  @BinOp.casesOn (fun _ => Ans) op (kAdd x y k) (kSub x y k) (kv (vBin op x y) k) (kv (vBin op x y) k) (kv (vBin op x y) k) (kv (vBin op x y) k) (kv (vBin op x y) k) (kv (vBin op x y) k) (kv (vBin op x y) k) (kv (vBin op x y) k) (kv (vBin op x y) k)
    (kEql x y k) (kNeq x y k) (kLss x y k) (kLeq x y k) (kGtr x y k) (kGeq x y k)
theorem kBin_sel (op : BinOp) (x y : XV) (k : XV → Ans) : Sel (kBin op x y k) (vBin op x y) k := by
  cases op
  case add => exact kAdd_sel x y k
  case sub => exact kSub_sel x y k
  case eql => exact kEql_sel x y k
  case neq => exact kNeq_sel x y k
  case lss => exact kLss_sel x y k
  case leq => exact kLeq_sel x y k
  case gtr => exact kGtr_sel x y k
  case geq => exact kGeq_sel x y k
  all_goals exact kv_sel _ _
noncomputable def kBinb (neg : Bool) (x y : XV) (k : XV → Ans) : Ans := onB x fun a => onB y fun b => k (.b (@Bool.rec (fun _ => Bool) (@Bool.rec (fun _ => Bool) (nt b) b a) (@Bool.rec (fun _ => Bool) b (nt b) a) neg))
theorem kBinb_sel (neg : Bool) (x y : XV) (k : XV → Ans) : Sel (kBinb neg x y k) (vBinb neg x y) k := by
  intro h
  unfold kBinb at h ⊢
  obtain ⟨a, rfl, e⟩ := onB_ne h
  rw [e] at h ⊢
  obtain ⟨b, rfl, e2⟩ := onB_ne h
  refine ⟨_, ?_, e2⟩
  cases neg <;> cases a <;> cases b <;> rfl
noncomputable def on2 (x : XV) (f : Nat → Nat → Nat → Nat → Ans) : Ans :=
  onA x fun cs => @List.rec XV (fun _ => Ans) .no (fun a r _ => onS a fun l n => @List.rec XV (fun _ => Ans) .no (fun b r' _ => onS b fun l' n' => @List.rec XV (fun _ => Ans) (f l n l' n') (fun _ _ _ => .no) r') r) cs
theorem on2_ne {x : XV} {f : Nat → Nat → Nat → Nat → Ans} (h : on2 x f ≠ .no) : ∃ l n l' n', x = .agg [.s l n, .s l' n'] ∧ on2 x f = f l n l' n' := by
  unfold on2 at h ⊢
  obtain ⟨cs, rfl, e⟩ := onA_ne h
  rw [e] at h ⊢
  match cs with
  | [] => exact absurd rfl h
  | a :: r =>
    change onS a _ ≠ .no at h
    obtain ⟨l, n, rfl, e⟩ := onS_ne h
    rw [e] at h
    match r with
    | [] => exact absurd rfl h
    | b :: r' =>
      change onS b _ ≠ .no at h
      obtain ⟨l', n', rfl, e⟩ := onS_ne h
      rw [e] at h
      match r' with
      | [] => exact ⟨l, n, l', n', rfl, rfl⟩
      | _ :: _ => exact absurd rfl h
noncomputable def kEqs (neg : Bool) (x y : XV) (k : XV → Ans) : Ans :=
  on2 x fun a n b m => on2 y fun a' n' b' m' => k (.b (@Bool.rec (fun _ => Bool) (an (eqF b m b' m') (eqF a n a' n')) (nt (an (eqF b m b' m') (eqF a n a' n'))) neg))
theorem kEqs_sel (neg : Bool) (x y : XV) (k : XV → Ans) : Sel (kEqs neg x y k) (vEqs neg x y) k := by
  intro h
  unfold kEqs at h ⊢
  obtain ⟨a, n, b, m, rfl, e⟩ := on2_ne h
  rw [e] at h ⊢
  obtain ⟨a', n', b', m', rfl, e2⟩ := on2_ne h
  refine ⟨_, ?_, e2⟩
  simp only [vEqs, ← eqF_eq, an_eq, Bool.and_comm (eqF b m b' m')]
  cases neg <;> simp [nt_eq]
noncomputable def kIsnil (neg : Bool) (x : XV) (k : XV → Ans) : Ans := onL x (k (.b (nt neg))) (fun _ _ => k (.b neg)) (fun _ _ _ _ => k (.b neg))
theorem kIsnil_sel (neg : Bool) (x : XV) (k : XV → Ans) : Sel (kIsnil neg x k) (vIsnil neg x) k := by
  intro h
  unfold kIsnil at h ⊢
  rcases onL_ne h with ⟨rfl, e⟩ | ⟨sz, es, rfl, e⟩ | ⟨_, s, o, l, rfl, e⟩
  · exact ⟨_, by simp only [vIsnil, nt_eq], e⟩
  · exact ⟨_, rfl, e⟩
  · exact ⟨_, rfl, e⟩
noncomputable def kNot (x : XV) (k : XV → Ans) : Ans := onB x fun a => k (.b (nt a))
noncomputable def kUn (op : UnOp) (x : XV) (k : XV → Ans) : Ans := match op with
  | .not => kNot x k
  | op => kv (vUn op x) k
theorem kUn_sel (op : UnOp) (x : XV) (k : XV → Ans) : Sel (kUn op x k) (vUn op x) k := by
  unfold kUn
  split
  · intro h
    unfold kNot at h ⊢
    obtain ⟨a, rfl, e⟩ := onB_ne h
    exact ⟨_, by simp only [vUn, nt_eq], e⟩
  · exact kv_sel _ _
noncomputable def kFaddr (o : Nat) (x : XV) (k : XV → Ans) : Ans :=
  onP x (fun cs off => k (.eptr cs (Nat.add off o))) (fun q s off => k (.bptr q s (Nat.add off o))) (fun q s i off => k (.kptr q s i (Nat.add off o)))
theorem kFaddr_sel (o : Nat) (x : XV) (k : XV → Ans) : Sel (kFaddr o x k) (vFaddr o x) k := by
  intro h
  unfold kFaddr at h ⊢
  rcases onP_ne h with ⟨cs, off, rfl, e⟩ | ⟨key, s, off, rfl, e⟩ | ⟨key, s, i, off, rfl, e⟩ <;> exact ⟨_, rfl, e⟩
noncomputable def kFld (isAgg : Bool) (off n : Nat) (x : XV) (k : XV → Ans) : Ans := onA x fun cs => kTake isAgg n cs off k
theorem kFld_sel (isAgg : Bool) (off n : Nat) (x : XV) (k : XV → Ans) : Sel (kFld isAgg off n x k) (vFld isAgg off n x) k := by
  intro h
  unfold kFld at h ⊢
  obtain ⟨cs, rfl, e⟩ := onA_ne h
  rw [e] at h ⊢
  exact kTake_sel _ _ _ _ _ h
noncomputable def kIaddr (ob : Nat → XObj) (sz : Nat) (x i : XV) (k : XV → Ans) : Ans :=
  onL x .no (fun sz' es => onI i fun _ n => bo (Nat.beq sz' sz) (bo (Nat.ble 18446744073709551616 n) (nthK (Nat.sub n 18446744073709551616) es fun cs => k (.eptr cs 0)) .no) .no)
    (fun q s off len => onI i fun _ n => onBld (ob q) fun s' _ sz' _ _ => bo (Nat.beq s s') (bo (Nat.beq sz' sz) (bo (Nat.ble 18446744073709551616 n) (bo (Nat.blt (Nat.sub n 18446744073709551616) len)
      (frc (Nat.add off (Nat.sub n 18446744073709551616)) fun j => k (.kptr q s j 0)) .no) .no) .no) .no)
theorem kIaddr_sel (ob : Nat → XObj) (sz : Nat) (x i : XV) (k : XV → Ans) : Sel (kIaddr ob sz x i k) (vIaddr ob sz x i) k := by
  intro h
  unfold kIaddr at h ⊢
  rcases onL_ne h with ⟨rfl, e⟩ | ⟨sz', es, rfl, e⟩ | ⟨q, s, off, len, rfl, e⟩
  · rw [e] at h; exact absurd rfl h
  · rw [e] at h ⊢
    obtain ⟨_, n, rfl, e⟩ := onI_ne h
    rw [e] at h ⊢
    obtain ⟨h1, e⟩ := bo_ne h
    rw [e] at h ⊢
    obtain ⟨h2, e⟩ := bo_ne h
    rw [e] at h ⊢
    obtain ⟨cs, h3, e⟩ := nthK_ne h
    exact ⟨_, by simp only [vIaddr, h1, h2, Bool.and_self, cond_true, h3], e⟩
  · rw [e] at h ⊢
    obtain ⟨_, n, rfl, e⟩ := onI_ne h
    rw [e] at h ⊢
    obtain ⟨s', _, sz', _, _, h0, e⟩ := onBld_ne h
    rw [e] at h ⊢
    obtain ⟨h1, e⟩ := bo_ne h
    rw [e] at h ⊢
    obtain ⟨h2, e⟩ := bo_ne h
    rw [e] at h ⊢
    obtain ⟨h3, e⟩ := bo_ne h
    rw [e] at h ⊢
    obtain ⟨h4, e⟩ := bo_ne h
    rw [e, frc_eq] at h ⊢
    exact ⟨_, by simp only [vIaddr, h0, h1, h2, h3, h4, Bool.and_self, cond_true], rfl⟩
noncomputable def kSidx (x i : XV) (k : XV → Ans) : Ans :=
  onS x fun l n => onI i fun _ m => bo (Nat.ble 18446744073709551616 m) (bo (Nat.blt (Nat.sub m 18446744073709551616) l)
    (frc (Nat.add 18446744073709551616 (Nat.mod (Nat.shiftRight n (Nat.mul 8 (Nat.sub (Nat.sub l 1) (Nat.sub m 18446744073709551616)))) 256)) fun c => k (.i .u8 c)) .no) .no
theorem shr8 (n j : Nat) : Nat.shiftRight n (Nat.mul 8 j) = Nat.div n (Nat.pow 256 j) := by
  have h1 : Nat.shiftRight n (8 * j) = n / 2 ^ (8 * j) := Nat.shiftRight_eq_div_pow n (8 * j)
  have h2 : (2 : Nat) ^ (8 * j) = 256 ^ j := by rw [Nat.pow_mul]
  rw [h2] at h1
  exact h1
theorem kSidx_sel (x i : XV) (k : XV → Ans) : Sel (kSidx x i k) (vSidx x i) k := by
  intro h
  unfold kSidx at h ⊢
  obtain ⟨l, n, rfl, e⟩ := onS_ne h
  rw [e] at h ⊢
  obtain ⟨_, m, rfl, e⟩ := onI_ne h
  rw [e] at h ⊢
  obtain ⟨h1, e⟩ := bo_ne h
  rw [e] at h ⊢
  obtain ⟨h2, e⟩ := bo_ne h
  rw [e, frc_eq] at h ⊢
  exact ⟨_, by simp only [vSidx, h1, h2, Bool.and_self, cond_true, shr8], rfl⟩
noncomputable def kExt (x : XV) (i : Nat) (k : XV → Ans) : Ans := onT x fun vs => nthK i vs k
theorem kExt_sel (x : XV) (i : Nat) (k : XV → Ans) : Sel (kExt x i k) (vExt x i) k := by
  intro h
  unfold kExt at h ⊢
  obtain ⟨vs, rfl, e⟩ := onT_ne h
  rw [e] at h ⊢
  obtain ⟨v, h1, h2⟩ := nthK_ne h
  exact ⟨v, h1, h2⟩
noncomputable def kLen (isStr : Bool) (x : XV) (k : XV → Ans) : Ans :=
  @Bool.rec (fun _ => Ans) (onL x (k (.i .i64 18446744073709551616)) (fun _ es => frc (Nat.add 18446744073709551616 (lenL es)) fun n => k (.i .i64 n)) (fun _ _ _ len => k (.i .i64 (Nat.add 18446744073709551616 len))))
    (onS x fun l _ => k (.i .i64 (Nat.add 18446744073709551616 l))) isStr
theorem kLen_sel (isStr : Bool) (x : XV) (k : XV → Ans) : Sel (kLen isStr x k) (vLen isStr x) k := by
  intro h
  cases isStr with
  | true =>
    change onS x _ ≠ .no at h
    obtain ⟨l, n, rfl, e⟩ := onS_ne h
    exact ⟨_, rfl, e⟩
  | false =>
    change onL x _ _ _ ≠ .no at h
    rcases onL_ne h with ⟨rfl, e⟩ | ⟨sz, es, rfl, e⟩ | ⟨_, s, o, l, rfl, e⟩
    · exact ⟨_, rfl, e⟩
    · rw [frc_eq, lenL_eq] at e
      exact ⟨_, rfl, e⟩
    · exact ⟨_, rfl, e⟩
end
end Go.Hf
end

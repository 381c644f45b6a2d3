/- Fast values, part A: strings as a length and a number; integers as a number with an offset. -/
import Derived.Test.YtlefgpakmgbgaaaGreatDoorEj
import Derived.IntWalk
set_option linter.unusedVariables false
set_option linter.unusedSimpArgs false
set_option linter.unusedSectionVars false
namespace Go.Hf
def bytesL : Nat → Nat → List UInt8
  | 0, _ => []
  | l + 1, n => UInt8.ofNat (n / 256 ^ l) :: bytesL l n
theorem bytesL_len : ∀ (l n : Nat), (bytesL l n).length = l
  | 0, _ => rfl
  | l + 1, n => by simp [bytesL, bytesL_len l n]
theorem bytesL_get : ∀ (l n i : Nat), i < l → (bytesL l n)[i]? = some (UInt8.ofNat (n / 256 ^ (l - 1 - i)))
  | 0, _, _, h => by omega
  | l + 1, n, 0, _ => by simp [bytesL]
  | l + 1, n, i + 1, h => by
    rw [bytesL, List.getElem?_cons_succ, bytesL_get l n i (by omega)]
    congr 4
    omega
theorem bytesL_none {l n i : Nat} (h : l ≤ i) : (bytesL l n)[i]? = none := by
  rw [List.getElem?_eq_none]; rw [bytesL_len]; exact h
theorem ofNat_mod (a b : Nat) (h : a % 256 = b % 256) : UInt8.ofNat a = UInt8.ofNat b := by
  apply UInt8.toNat_inj.1
  simp only [UInt8.toNat_ofNat']
  exact h
theorem bytesL_mod (l n : Nat) : bytesL l (n % 256 ^ l) = bytesL l n := by
  apply List.ext_getElem?
  intro i
  by_cases h : i < l
  · rw [bytesL_get _ _ _ h, bytesL_get _ _ _ h]
    congr 1
    apply ofNat_mod
    have e : 256 ^ l = 256 ^ (l - 1 - i) * 256 ^ (i + 1) := by rw [← Nat.pow_add]; congr 1; omega
    rw [e, Nat.mod_mul_right_div_self]
    have : 256 ^ (i + 1) = 256 * 256 ^ i := by rw [Nat.pow_succ]; omega
    rw [this]
    exact Nat.mod_mul_right_mod _ _ _
  · rw [bytesL_none (by omega), bytesL_none (by omega)]
theorem bytesL_inj {l : Nat} : ∀ {n m : Nat}, bytesL l n = bytesL l m → n % 256 ^ l = m % 256 ^ l := by
  induction l with
  | zero => intro n m _; simp [Nat.mod_one]
  | succ l ih =>
    intro n m h
    simp only [bytesL, List.cons.injEq] at h
    have h2 := ih h.2
    have h1 : n / 256 ^ l % 256 = m / 256 ^ l % 256 := by
      have := congrArg UInt8.toNat h.1
      simpa [UInt8.toNat_ofNat'] using this
    have e : ∀ x : Nat, x % 256 ^ (l + 1) = (x / 256 ^ l % 256) * 256 ^ l + x % 256 ^ l := by
      intro x
      rw [Nat.pow_succ, Nat.mod_mul, Nat.mul_comm, Nat.add_comm]
    rw [e n, e m, h1, h2]
def bytesB (l n : Nat) : ByteArray := ⟨⟨bytesL l n⟩⟩
theorem bytesB_size (l n : Nat) : (bytesB l n).size = l := by
  show (bytesL l n).length = l
  exact bytesL_len l n
theorem bytesB_list (l n : Nat) : (bytesB l n).data.toList = bytesL l n := rfl
theorem toList_data (s : ByteArray) : s.toList = s.data.toList := ByteArray.toList_eq s
def eqS (l n l' n' : Nat) : Bool := Nat.beq l l' && Nat.beq (n % 256 ^ l) (n' % 256 ^ l)
theorem eqS_iff (l n l' n' : Nat) : eqS l n l' n' = ((bytesB l n).toList == (bytesB l' n').toList) := by
  rw [toList_data, toList_data, bytesB_list, bytesB_list, Bool.eq_iff_iff, beq_iff_eq]
  simp only [eqS, Bool.and_eq_true, Nat.beq_eq]
  constructor
  · rintro ⟨rfl, h⟩
    rw [← bytesL_mod l n, ← bytesL_mod l n', h]
  · intro h
    have hl : l = l' := by
      have := congrArg List.length h
      simpa [bytesL_len] using this
    subst hl
    exact ⟨rfl, bytesL_inj h⟩
theorem bytesB_mod (l n : Nat) : bytesB l (n % 256 ^ l) = bytesB l n := by unfold bytesB; rw [bytesL_mod]
theorem bytesB_extract (l n lo hi : Nat) (h1 : lo ≤ hi) (h2 : hi ≤ l) : (bytesB l n).extract lo hi = bytesB (hi - lo) (n / 256 ^ (l - hi)) := by
  have e : ∀ a b : ByteArray, a.data.toList = b.data.toList → a = b := by
    rintro ⟨⟨a⟩⟩ ⟨⟨b⟩⟩ h
    have h' : a = b := h
    rw [h']
  apply e
  have h3 : ((bytesB l n).extract lo hi).data.toList = ((bytesL l n).drop lo).take (hi - lo) := by
    simp [ByteArray.data_extract, bytesB, List.extract_eq_take_drop]
  rw [h3, bytesB_list]
  apply List.ext_getElem?
  intro i
  by_cases hi' : i < hi - lo
  · rw [List.getElem?_take_of_lt hi', List.getElem?_drop, bytesL_get _ _ _ (by omega), bytesL_get _ _ _ hi', Nat.div_div_eq_div_mul, ← Nat.pow_add]
    congr 4
    omega
  · rw [List.getElem?_eq_none (by simp; omega), bytesL_none (by omega)]
theorem bytesB_append (l n l' n' : Nat) : bytesB l n ++ bytesB l' n' = bytesB (l + l') (n * 256 ^ l' + n' % 256 ^ l') := by
  have e : ∀ a b : ByteArray, a.data.toList = b.data.toList → a = b := by
    rintro ⟨⟨a⟩⟩ ⟨⟨b⟩⟩ h
    have h' : a = b := h
    rw [h']
  apply e
  have h3 : (bytesB l n ++ bytesB l' n').data.toList = bytesL l n ++ bytesL l' n' := by
    simp [ByteArray.data_append, bytesB]
  rw [h3, bytesB_list]
  apply List.ext_getElem?
  intro i
  have hp : 0 < 256 ^ l' := Nat.pow_pos (by omega)
  by_cases hi : i < l
  · rw [List.getElem?_append_left (by rw [bytesL_len]; exact hi), bytesL_get _ _ _ hi, bytesL_get _ _ _ (by omega)]
    congr 2
    have : l + l' - 1 - i = l' + (l - 1 - i) := by omega
    rw [this, Nat.pow_add, ← Nat.div_div_eq_div_mul, Nat.mul_comm n, Nat.mul_add_div hp, Nat.div_eq_of_lt (Nat.mod_lt _ hp), Nat.add_zero]
  · rw [List.getElem?_append_right (by rw [bytesL_len]; omega), bytesL_len]
    by_cases hi2 : i < l + l'
    · rw [bytesL_get _ _ _ (by omega), bytesL_get _ _ _ hi2]
      congr 1
      apply ofNat_mod
      have e1 : l + l' - 1 - i = l' - 1 - (i - l) := by omega
      rw [e1]
      have e2 : 256 ^ l' = 256 ^ (l' - 1 - (i - l)) * 256 ^ (i - l + 1) := by rw [← Nat.pow_add]; congr 1; omega
      have hq : 0 < 256 ^ (l' - 1 - (i - l)) := Nat.pow_pos (by omega)
      have e3 : 256 ^ (i - l + 1) = 256 * 256 ^ (i - l) := by rw [Nat.pow_succ]; omega
      generalize hA : 256 ^ (l' - 1 - (i - l)) = A at *
      generalize hB : 256 ^ (i - l) = B at *
      have e4 : n * 256 ^ l' + n' % 256 ^ l' = A * (256 * B * n) + n' % (A * (256 * B)) := by
        rw [e2, e3]
        have : n * (A * (256 * B)) = A * (256 * B * n) := by
          rw [Nat.mul_comm n, Nat.mul_assoc]
        rw [this]
      rw [e4, Nat.mul_add_div hq, Nat.mod_mul_right_div_self]
      have : (256 * B * n + n' / A % (256 * B)) % 256 = (n' / A) % 256 := by
        rw [Nat.mul_assoc, Nat.mul_add_mod, Nat.mod_mul_right_mod]
      exact this.symm
    · rw [bytesL_none (by omega), bytesL_none (by omega)]
end Go.Hf
section
namespace Go.Hf
inductive XV where
  | undef
  | b (x : Bool)
  | i (k : IntKind) (n : Nat)
  | s (l n : Nat)
  | nl
  | sc (v : Value)
  | agg (cs : List XV)
  | tup (vs : List XV)
  | lst (sz : Nat) (es : List (List XV))
  | eptr (cs : List XV) (off : Nat)
  | bptr (k s off : Nat)
  | bld (k s off len : Nat)
  | kptr (k s i off : Nat)
  | mref (k s : Nat)
  | clo (f : Nat) (caps : List XV)
  | tok (i : Nat)
  deriving Inhabited
def flat : PV → Bool
  | .sc _ => true
  | .lst _ _ => true
  | .eptr _ _ => true
  | _ => false
class Tok where
  τ : Nat → PV
  law : ∀ i, flat (τ i) = true
theorem flat_ne {p : PV} (h : flat p = true) : (∃ v, p = .sc v) ∨ (∃ sz es, p = .lst sz es) ∨ ∃ cs o, p = .eptr cs o := by
  cases p <;> simp [flat] at h
  · exact .inl ⟨_, rfl⟩
  · exact .inr (.inl ⟨_, _, rfl⟩)
  · exact .inr (.inr ⟨_, _, rfl⟩)
def ofs : Nat := 18446744073709551616
def intOf (n : Nat) : Int := (n : Int) - 18446744073709551616
section
variable [Tok]
mutual
def dec : XV → PV
  | .undef => .undef
  | .b x => .sc (.bool x)
  | .i k n => .sc (.int k (intOf n))
  | .s l n => .sc (.string (bytesB l n))
  | .nl => nils
  | .sc v => .sc v
  | .agg cs => .agg (decL cs)
  | .tup cs => .tup (decL cs)
  | .lst sz es => .lst sz (decLL es)
  | .eptr cs off => .eptr (decL cs) off
  | .bptr k s off => .bptr k s off
  | .bld k s off len => .bld k s off len
  | .kptr k s i off => .kptr k s i off
  | .mref k s => .mref k s
  | .clo f cs => .clo f (decL cs)
  | .tok i => Tok.τ i
def decL : List XV → List PV
  | [] => []
  | x :: r => dec x :: decL r
def decLL : List (List XV) → List (List PV)
  | [] => []
  | x :: r => decL x :: decLL r
end
theorem flat_cells (i : Nat) : (Tok.τ i).cells = some [Tok.τ i] := by
  rcases flat_ne (Tok.law i) with ⟨v, h⟩ | ⟨sz, es, h⟩ | ⟨cs, o, h⟩ <;> rw [h] <;> rfl
theorem flat_key0 (i : Nat) : (Tok.τ i).key0 = [] := by
  rcases flat_ne (Tok.law i) with ⟨v, h⟩ | ⟨sz, es, h⟩ | ⟨cs, o, h⟩ <;> rw [h] <;> rfl
theorem flat_key (i : Nat) : (Tok.τ i).key = [] := by
  rcases flat_ne (Tok.law i) with ⟨v, h⟩ | ⟨sz, es, h⟩ | ⟨cs, o, h⟩ <;> rw [h] <;> rfl
theorem flat_keysA (i : Nat) : (Tok.τ i).keysA = [] := by
  rcases flat_ne (Tok.law i) with ⟨v, h⟩ | ⟨sz, es, h⟩ | ⟨cs, o, h⟩ <;> rw [h] <;> rfl
theorem flat_keys (i : Nat) : (Tok.τ i).keys = [] := by
  rcases flat_ne (Tok.law i) with ⟨v, h⟩ | ⟨sz, es, h⟩ | ⟨cs, o, h⟩ <;> rw [h] <;> rfl
theorem flat_pure (ob : Nat → Obj) (i : Nat) : pureCell ob (Tok.τ i) = some (Tok.τ i) := by
  rcases flat_ne (Tok.law i) with ⟨v, h⟩ | ⟨sz, es, h⟩ | ⟨cs, o, h⟩ <;> rw [h] <;> rfl
theorem flat_pureV (ob : Nat → Obj) (i : Nat) : pureVal ob (Tok.τ i) = some (Tok.τ i) := by
  rcases flat_ne (Tok.law i) with ⟨v, h⟩ | ⟨sz, es, h⟩ | ⟨cs, o, h⟩ <;> rw [h] <;> rfl
theorem flat_share (ob : Nat → Obj) (i : Nat) : shareCell ob (Tok.τ i) = [] := by
  rcases flat_ne (Tok.law i) with ⟨v, h⟩ | ⟨sz, es, h⟩ | ⟨cs, o, h⟩ <;> rw [h] <;> rfl
theorem flat_shareV (ob : Nat → Obj) (i : Nat) : shareVal ob (Tok.τ i) = [] := by
  rcases flat_ne (Tok.law i) with ⟨v, h⟩ | ⟨sz, es, h⟩ | ⟨cs, o, h⟩ <;> rw [h] <;> rfl
attribute [simp] flat_cells flat_key0 flat_key flat_keysA flat_keys flat_pure flat_pureV flat_share flat_shareV
theorem decL_map : ∀ (l : List XV), decL l = l.map dec
  | [] => by simp [decL]
  | x :: r => by simp [decL, decL_map r]
theorem decLL_map : ∀ (l : List (List XV)), decLL l = l.map decL
  | [] => by simp [decLL]
  | x :: r => by simp [decLL, decLL_map r]
def toV : XV → Option Value
  | .b x => some (.bool x)
  | .i k n => some (.int k (intOf n))
  | .s l n => some (.string (bytesB l n))
  | .nl => some (.slice none 0 0)
  | .sc v => some v
  | _ => none
theorem toV_ok {x : XV} {v : Value} (h : toV x = some v) : dec x = .sc v := by
  cases x <;> simp [toV] at h <;> subst h <;> simp [dec, nils]
def encV : Value → Option XV
  | .bool x => some (.b x)
  | .int k n => if -18446744073709551616 ≤ n then some (.i k (n + 18446744073709551616).toNat) else none
  | .string _ => none
  | v => some (.sc v)
theorem encV_ok {v : Value} {x : XV} (h : encV v = some x) : dec x = .sc v := by
  unfold encV at h
  split at h
  · cases h; simp [dec]
  · rename_i k n
    split at h
    · cases h
      simp only [dec, intOf]
      congr 2
      omega
    · cases h
  · cases h
  · cases h; simp [dec]
def loK : IntKind → Nat
  | .i8 => 18446744073709551488
  | .i16 => 18446744073709518848
  | .i32 => 18446744071562067968
  | .i64 => 9223372036854775808
  | _ => 18446744073709551616
def hiK : IntKind → Nat
  | .i8 => 18446744073709551743
  | .i16 => 18446744073709584383
  | .i32 => 18446744075857035263
  | .i64 => 27670116110564327423
  | .u8 => 18446744073709551871
  | .u16 => 18446744073709617151
  | .u32 => 18446744078004518911
  | .u64 => 36893488147419103231
def inK (k : IntKind) (n : Nat) : Bool := Nat.ble (loK k) n && Nat.ble n (hiK k)
theorem inK_wrap {k : IntKind} {n : Nat} (h : inK k n = true) : k.wrap (intOf n) = intOf n := by
  simp only [inK, Bool.and_eq_true] at h
  have h1 := Nat.le_of_ble_eq_true h.1
  have h2 := Nat.le_of_ble_eq_true h.2
  unfold intOf
  cases k <;> simp only [loK, hiK] at h1 h2
  · exact IntWalk.i8_in _ (by omega)
  · exact IntWalk.i16_in _ (by omega)
  · exact IntWalk.i32_in _ (by omega)
  · exact IntWalk.i64_in _ (by omega)
  · exact IntWalk.u8_in _ (by omega)
  · exact IntWalk.u16_in _ (by omega)
  · exact IntWalk.u32_in _ (by omega)
  · exact IntWalk.u64_in _ (by omega)
theorem inK_lo {k : IntKind} {n : Nat} (h : inK k n = true) : 0 < n := by
  simp only [inK, Bool.and_eq_true] at h
  have h1 := Nat.le_of_ble_eq_true h.1
  cases k <;> simp only [loK] at h1 <;> omega
def sameK : IntKind → IntKind → Bool
  | .i64, .i64 => true
  | .u8, .u8 => true
  | .i32, .i32 => true
  | .u64, .u64 => true
  | .u32, .u32 => true
  | .i8, .i8 => true
  | .i16, .i16 => true
  | .u16, .u16 => true
  | _, _ => false
theorem sameK_ok {k k' : IntKind} (h : sameK k k' = true) : k = k' := by
  cases k <;> cases k' <;> first | rfl | (simp [sameK] at h)
def slow (f : Value → Value → Option Value) (x y : XV) : Option XV :=
  match toV x, toV y with
  | some a, some b => (f a b).bind encV
  | _, _ => none
def intB (op : BinOp) (k : IntKind) (x y : Nat) : Option XV :=
  match op with
  | .add => bif inK k (Nat.sub (Nat.add x y) 18446744073709551616) then some (.i k (Nat.sub (Nat.add x y) 18446744073709551616)) else none
  | .sub => bif Nat.ble y (Nat.add x 18446744073709551616) && inK k (Nat.sub (Nat.add x 18446744073709551616) y) then some (.i k (Nat.sub (Nat.add x 18446744073709551616) y)) else none
  | .eql => some (.b (Nat.beq x y))
  | .neq => some (.b (!Nat.beq x y))
  | .lss => some (.b (Nat.blt x y))
  | .leq => some (.b (Nat.ble x y))
  | .gtr => some (.b (Nat.blt y x))
  | .geq => some (.b (Nat.ble y x))
  | _ => none
theorem intB_ok {op : BinOp} {k : IntKind} {x y : Nat} {v : XV} (h : intB op k x y = some v) : ∃ z, sbin op (.int k (intOf x)) (.int k (intOf y)) = some z ∧ dec v = .sc z := by
  have blt : ∀ a b : Nat, Nat.blt a b = decide (a < b) := fun a b => by rw [Bool.eq_iff_iff]; simp [Nat.blt_eq]
  have ble : ∀ a b : Nat, Nat.ble a b = decide (a ≤ b) := fun a b => by rw [Bool.eq_iff_iff]; simp
  have beq : ∀ a b : Nat, Nat.beq a b = decide (a = b) := fun a b => by rw [Bool.eq_iff_iff]; simp
  cases op <;> simp only [intB] at h
  case add =>
    cases hc : inK k (Nat.sub (Nat.add x y) 18446744073709551616) with
    | false => rw [hc] at h; simp at h
    | true =>
      rw [hc] at h
      simp only [cond_true, Option.some.injEq] at h
      subst h
      have h0 := inK_lo hc
      have e : intOf x + intOf y = intOf (Nat.sub (Nat.add x y) 18446744073709551616) := by
        simp only [intOf, Nat.sub_eq, Nat.add_eq] at h0 ⊢
        omega
      refine ⟨.int k (intOf (Nat.sub (Nat.add x y) 18446744073709551616)), ?_, by simp only [dec]⟩
      simp only [sbin, if_true, e, inK_wrap hc]
  case sub =>
    cases hc : (Nat.ble y (Nat.add x 18446744073709551616) && inK k (Nat.sub (Nat.add x 18446744073709551616) y)) with
    | false => rw [hc] at h; simp at h
    | true =>
      rw [hc] at h
      simp only [cond_true, Option.some.injEq] at h
      subst h
      simp only [Bool.and_eq_true] at hc
      have h0 := Nat.le_of_ble_eq_true hc.1
      have e : intOf x - intOf y = intOf (Nat.sub (Nat.add x 18446744073709551616) y) := by
        simp only [intOf, Nat.sub_eq, Nat.add_eq] at h0 ⊢
        omega
      refine ⟨.int k (intOf (Nat.sub (Nat.add x 18446744073709551616) y)), ?_, by simp only [dec]⟩
      simp only [sbin, if_true, e, inK_wrap hc.2]
  case eql => cases h; exact ⟨_, by simp [sbin]; rfl, by simp only [dec, intOf, beq]; congr 2; rw [Bool.eq_iff_iff]; simp; omega⟩
  case neq => cases h; exact ⟨_, by simp [sbin]; rfl, by simp only [dec, intOf, beq]; congr 2; rw [Bool.eq_iff_iff]; simp; omega⟩
  case lss => cases h; exact ⟨_, by simp [sbin]; rfl, by simp only [dec, intOf, blt]; congr 2; rw [Bool.eq_iff_iff]; simp⟩
  case leq => cases h; exact ⟨_, by simp [sbin]; rfl, by simp only [dec, intOf, ble]; congr 2; rw [Bool.eq_iff_iff]; simp⟩
  case gtr => cases h; exact ⟨_, by simp [sbin]; rfl, by simp only [dec, intOf, blt]; congr 2; rw [Bool.eq_iff_iff]; simp⟩
  case geq => cases h; exact ⟨_, by simp [sbin]; rfl, by simp only [dec, intOf, ble]; congr 2; rw [Bool.eq_iff_iff]; simp⟩
  all_goals cases h
end
end Go.Hf
end
section
namespace Go.Hf
section
variable [Tok]
def numOf : List UInt8 → Nat
  | [] => 0
  | c :: r => c.toNat * 256 ^ r.length + numOf r
theorem numOf_lt : ∀ (l : List UInt8), numOf l < 256 ^ l.length
  | [] => by simp [numOf]
  | c :: r => by
    have h := numOf_lt r
    have hc : c.toNat < 256 := c.toNat_lt
    simp only [numOf, List.length_cons, Nat.pow_succ]
    have : c.toNat * 256 ^ r.length ≤ 255 * 256 ^ r.length := Nat.mul_le_mul_right _ (by omega)
    omega
theorem bytesL_num : ∀ (l : List UInt8), bytesL l.length (numOf l) = l
  | [] => rfl
  | c :: r => by
    have h := numOf_lt r
    have hp : 0 < 256 ^ r.length := Nat.pow_pos (by omega)
    simp only [List.length_cons, bytesL, numOf]
    congr 1
    · rw [Nat.mul_comm, Nat.mul_add_div hp, Nat.div_eq_of_lt h, Nat.add_zero]
      exact UInt8.ofNat_toNat
    · rw [← bytesL_mod, Nat.mul_comm, Nat.mul_add_mod, bytesL_mod, bytesL_num r]
def encC : Value → XV
  | .bool x => .b x
  | .int k n => if -18446744073709551616 ≤ n then .i k (n + 18446744073709551616).toNat else .sc (.int k n)
  | .string s => .s s.data.toList.length (numOf s.data.toList)
  | .slice none 0 0 => .nl
  | v => .sc v
theorem encC_ok (v : Value) : dec (encC v) = .sc v := by
  unfold encC
  split
  · simp [dec]
  · rename_i k n
    split
    · simp only [dec, intOf]; congr 2; omega
    · simp [dec]
  · rename_i s
    simp only [dec, bytesB, bytesL_num]
  · simp [dec, nils]
  · simp [dec]
def encK : Value → XV
  | .agg cs => .agg (cs.toList.map encC)
  | v => encC v
theorem encK_ok (v : Value) : dec (encK v) = ofConst v := by
  unfold encK ofConst
  split
  · simp only [dec, decL_map, List.map_map]
    congr 1
    apply List.map_congr_left
    intro x _
    exact encC_ok x
  · rename_i h
    split
    · rename_i cs; exact absurd rfl (h cs)
    · exact encC_ok v
inductive XObj where
  | no (s : Nat)
  | box (s : Nat) (cs : List XV)
  | bld (s e sz : Nat) (es : List (List XV)) (raw : Bool)
  | map (s : Nat) (es : List (Value × Value))
  deriving Inhabited
def decO : XObj → Obj
  | .no s => .no s
  | .box s cs => .box s (decL cs)
  | .bld s e sz es raw => .bld s e sz (decLL es) raw
  | .map s es => .map s es
def XObj.stamp : XObj → Nat
  | .no s => s
  | .box s _ => s
  | .bld s _ _ _ _ => s
  | .map s _ => s
theorem stamp_dec (o : XObj) : (decO o).stamp = o.stamp := by cases o <;> rfl
def decU (u : Nat × XObj) : Nat × Obj := (u.1, decO u.2)
def XV.cells : XV → Option (List XV)
  | .agg cs => some cs
  | .undef => none
  | .tup _ => none
  | v => some [v]
theorem cells_ok {x : XV} {cs : List XV} (h : x.cells = some cs) : (dec x).cells = some (decL cs) := by
  cases x with
  | tok i => simp only [XV.cells, Option.some.injEq] at h; subst h; simp only [dec, decL]; exact flat_cells i
  | _ => simp [XV.cells] at h <;> subst h <;> simp [dec, decL, PV.cells, nils]
def XV.key0 : XV → List Nat
  | .bptr k _ _ => [k]
  | .bld k _ _ _ => [k]
  | .kptr k _ _ _ => [k]
  | .mref k _ => [k]
  | _ => []
theorem key0_dec (x : XV) : (dec x).key0 = x.key0 := by
  cases x with
  | tok i => simp only [dec]; exact flat_key0 i
  | _ => simp [dec, PV.key0, XV.key0, nils]
def XV.key : XV → List Nat
  | .clo _ caps => caps.flatMap XV.key0
  | v => v.key0
theorem key_dec (x : XV) : (dec x).key = x.key := by
  cases x with
  | clo f caps =>
    simp only [dec, PV.key, XV.key, decL_map, List.flatMap_map]
    congr 1
    funext y
    exact key0_dec y
  | tok i => simp only [dec]; exact flat_key i
  | _ => simp [dec, PV.key, XV.key, PV.key0, XV.key0, nils]
def XV.keysA : XV → List Nat
  | .agg cs => cs.flatMap XV.key
  | v => v.key
theorem keysA_dec (x : XV) : (dec x).keysA = x.keysA := by
  cases x with
  | agg cs =>
    simp only [dec, PV.keysA, XV.keysA, decL_map, List.flatMap_map]
    congr 1
    funext y
    exact key_dec y
  | clo f caps => exact key_dec (.clo f caps)
  | tok i => simp only [dec]; exact flat_keysA i
  | _ => simp [dec, PV.keysA, XV.keysA, PV.key, XV.key, PV.key0, XV.key0, nils]
def XV.keys : XV → List Nat
  | .tup cs => cs.flatMap XV.keysA
  | v => v.keysA
theorem keys_dec (x : XV) : (dec x).keys = x.keys := by
  cases x with
  | tup cs =>
    simp only [dec, PV.keys, XV.keys, decL_map, List.flatMap_map]
    congr 1
    funext y
    exact keysA_dec y
  | agg cs => exact keysA_dec (.agg cs)
  | clo f caps => exact key_dec (.clo f caps)
  | tok i => simp only [dec]; exact flat_keys i
  | _ => simp [dec, PV.keys, XV.keys, PV.keysA, XV.keysA, PV.key, XV.key, PV.key0, XV.key0, nils]
def part (es : List (List XV)) (off len : Nat) : List (List XV) := bif Nat.beq off 0 && Nat.beq len es.length then es else (es.drop off).take len
theorem part_eq (es : List (List XV)) (off len : Nat) : part es off len = (es.drop off).take len := by
  unfold part
  cases h : (Nat.beq off 0 && Nat.beq len es.length) with
  | false => rfl
  | true =>
    simp only [Bool.and_eq_true, Nat.beq_eq] at h
    obtain ⟨rfl, rfl⟩ := h
    simp
theorem decLL_part (es : List (List XV)) (off len : Nat) : decLL ((es.drop off).take len) = ((decLL es).drop off).take len := by
  simp only [decLL_map, List.map_take, List.map_drop]
theorem decLL_length (es : List (List XV)) : (decLL es).length = es.length := by simp [decLL_map]
theorem decL_length (es : List XV) : (decL es).length = es.length := by simp [decL_map]
def pureCellX (ob : Nat → XObj) : XV → Option XV
  | .bld k s off len =>
    match ob k with
    | .bld s' _ sz es _ => bif Nat.beq s s' && Nat.ble (Nat.add off len) es.length then some (.lst sz (part es off len)) else none
    | _ => none
  | .b x => some (.b x)
  | .i k n => some (.i k n)
  | .s l n => some (.s l n)
  | .nl => some .nl
  | .sc v => some (.sc v)
  | .lst sz es => some (.lst sz es)
  | .eptr cs off => some (.eptr cs off)
  | .tok i => some (.tok i)
  | _ => none
theorem pureCellX_ok {ob : Nat → XObj} {x y : XV} (h : pureCellX ob x = some y) : pureCell (fun k => decO (ob k)) (dec x) = some (dec y) := by
  cases x with
  | bld k s off len =>
    simp only [pureCellX] at h
    split at h
    · rename_i s' e sz es raw hob
      cases hc : (Nat.beq s s' && Nat.ble (Nat.add off len) es.length) with
      | false => rw [hc] at h; simp at h
      | true =>
        rw [hc] at h
        simp only [cond_true, Option.some.injEq] at h
        subst h
        simp only [Bool.and_eq_true, Nat.beq_eq] at hc
        have h2 := Nat.le_of_ble_eq_true hc.2
        simp only [dec, pureCell, hob, decO, decLL_length]
        rw [if_pos ⟨hc.1, h2⟩, part_eq, decLL_part]
    · cases h
  | tok i => simp only [pureCellX, Option.some.injEq] at h; subst h; simp only [dec]; exact flat_pure _ i
  | _ => simp [pureCellX] at h <;> subst h <;> simp [dec, pureCell, nils]
def pureCellsX (ob : Nat → XObj) : List XV → Option (List XV)
  | [] => some []
  | p :: ps => match pureCellX ob p, pureCellsX ob ps with
    | some q, some qs => some (q :: qs)
    | _, _ => none
theorem pureCellsX_ok {ob : Nat → XObj} : ∀ {xs ys : List XV}, pureCellsX ob xs = some ys → pureCells (fun k => decO (ob k)) (decL xs) = some (decL ys)
  | [], ys, h => by cases h; simp [decL, pureCells]
  | x :: xs, ys, h => by
    simp only [pureCellsX] at h
    split at h
    · rename_i q qs h1 h2
      cases h
      simp only [decL, pureCells, pureCellX_ok h1, pureCellsX_ok h2]
    · cases h
def pureValX (ob : Nat → XObj) : XV → Option XV
  | .agg cs => match pureCellsX ob cs with
    | some qs => some (.agg qs)
    | none => none
  | v => pureCellX ob v
theorem pureValX_ok {ob : Nat → XObj} {x y : XV} (h : pureValX ob x = some y) : pureVal (fun k => decO (ob k)) (dec x) = some (dec y) := by
  cases x with
  | agg cs =>
    simp only [pureValX] at h
    split at h
    · rename_i qs hq
      cases h
      simp only [dec, pureVal, pureCellsX_ok hq, Option.map_some]
    · cases h
  | bld k s off len => exact pureCellX_ok (x := .bld k s off len) h
  | tok i => simp only [pureValX, pureCellX, Option.some.injEq] at h; subst h; simp only [dec]; exact flat_pureV _ i
  | _ => simp [pureValX, pureCellX] at h <;> subst h <;> simp [dec, pureVal, pureCell, nils]
def shareCellX (ob : Nat → XObj) : XV → List (Nat × XObj)
  | .bld k _ _ _ =>
    match ob k with
    | .bld s e sz es true => [(k, .bld s e sz es false)]
    | _ => []
  | _ => []
theorem shareCellX_ok (ob : Nat → XObj) (x : XV) : shareCell (fun k => decO (ob k)) (dec x) = (shareCellX ob x).map decU := by
  cases x with
  | bld k s off len =>
    simp only [dec, shareCell, shareCellX]
    cases ho : ob k with
    | bld s e sz es raw => cases raw <;> simp [decO, decU]
    | _ => simp [decO]
  | tok i => simp only [dec]; exact flat_share _ i
  | _ => simp [dec, shareCell, shareCellX, nils]
def shareValX (ob : Nat → XObj) : XV → List (Nat × XObj)
  | .agg cs => cs.flatMap (shareCellX ob)
  | v => shareCellX ob v
theorem shareValX_ok (ob : Nat → XObj) (x : XV) : shareVal (fun k => decO (ob k)) (dec x) = (shareValX ob x).map decU := by
  cases x with
  | agg cs =>
    simp only [dec, shareVal, shareValX, decL_map, List.flatMap_map, List.map_flatMap]
    congr 1
    funext y
    exact shareCellX_ok ob y
  | bld k s off len => exact shareCellX_ok ob (.bld k s off len)
  | tok i => simp only [dec]; exact flat_shareV _ i
  | _ => simp [dec, shareVal, shareCell, shareValX, shareCellX, nils]
def elemsX (ob : Nat → XObj) (sz : Nat) : XV → Option (List (List XV))
  | .nl => some []
  | .lst sz' es => bif Nat.beq sz' sz then some es else none
  | .bld k s off len =>
    match ob k with
    | .bld s' _ sz' es _ => bif Nat.beq s s' && Nat.beq sz' sz && Nat.ble (Nat.add off len) es.length then some (part es off len) else none
    | _ => none
  | _ => none
theorem elemsX_ok {ob : Nat → XObj} {sz : Nat} {x : XV} {es : List (List XV)} (h : elemsX ob sz x = some es) : elems (fun k => decO (ob k)) sz (dec x) = some (decLL es) := by
  cases x with
  | nl => simp [elemsX] at h; subst h; simp [dec, nils, elems, decLL]
  | lst sz' es' =>
    simp only [elemsX] at h
    cases hc : Nat.beq sz' sz with
    | false => rw [hc] at h; simp at h
    | true =>
      rw [hc] at h
      simp only [cond_true, Option.some.injEq] at h
      subst h
      have := Nat.eq_of_beq_eq_true hc
      simp [dec, elems, this]
  | bld k s off len =>
    simp only [elemsX] at h
    split at h
    · rename_i s' e sz' es' raw hob
      cases hc : (Nat.beq s s' && Nat.beq sz' sz && Nat.ble (Nat.add off len) es'.length) with
      | false => rw [hc] at h; simp at h
      | true =>
        rw [hc] at h
        simp only [cond_true, Option.some.injEq] at h
        subst h
        simp only [Bool.and_eq_true, Nat.beq_eq] at hc
        have h2 := Nat.le_of_ble_eq_true hc.2
        simp only [dec, elems, hob, decO, decLL_length]
        rw [if_pos ⟨hc.1.1, hc.1.2, h2⟩, part_eq, decLL_part]
    · cases h
  | _ => simp [elemsX] at h
def takeAggX (isAgg : Bool) (n : Nat) (cs : List XV) (off : Nat) : Option XV :=
  bif isAgg then (bif Nat.ble (Nat.add off n) cs.length then some (.agg ((cs.drop off).take n)) else none) else cs[off]?
theorem takeAggX_ok {isAgg : Bool} {n off : Nat} {cs : List XV} {v : XV} (h : takeAggX isAgg n cs off = some v) : takeAgg isAgg n (decL cs) off = some (dec v) := by
  cases isAgg with
  | true =>
    simp only [takeAggX, cond_true] at h
    cases hc : Nat.ble (Nat.add off n) cs.length with
    | false => rw [hc] at h; simp at h
    | true =>
      rw [hc] at h
      simp only [cond_true, Option.some.injEq] at h
      subst h
      have h2 : off + n ≤ cs.length := Nat.le_of_ble_eq_true hc
      simp only [takeAgg, if_true, decL_length]
      rw [if_pos h2]
      simp only [dec, decL_map, List.map_take, List.map_drop]
  | false =>
    simp only [takeAggX, cond_false] at h
    simp only [takeAgg, Bool.false_eq_true, if_false, decL_map, List.getElem?_map, h, Option.map_some]
def putCellsX (cs : List XV) (off : Nat) (new : List XV) : List XV := cs.take off ++ new ++ cs.drop (off + new.length)
theorem putCellsX_ok (cs : List XV) (off : Nat) (new : List XV) : putCells (decL cs) off (decL new) = decL (putCellsX cs off new) := by
  simp only [putCells, putCellsX, decL_map, List.map_append, List.map_take, List.map_drop, List.length_map]
end
end Go.Hf
end

/- Fast forms of functions of the library, and what they say: bytes in strings, quoting, builders. -/
import Derived.Test.YtlefgpakmgbgaaaGreatDoorFh
import Derived.Lib.Bytealg
import Derived.Lib.Fields
import Derived.Shelf.Strconv.Quote
set_option linter.unusedVariables false
set_option linter.unusedSimpArgs false
set_option linter.unusedSectionVars false
section
namespace Go.Hf
open Go.RowKit
section
variable [Tok]
theorem idxF_ok (m v c : Nat) (hc : c < 256) : ∀ n, n ≤ m → idxF m n v c = if Lib.indexByte (bytesL n v) (UInt8.ofNat c) = -1 then 18446744073709551615 else 18446744073709551616 + (m - n) + (Lib.indexByte (bytesL n v) (UInt8.ofNat c)).toNat
  | 0, _ => rfl
  | n + 1, h => by
    have ih := idxF_ok m v c hc n (by omega)
    show @Bool.rec (fun _ => Nat) (idxF m n v c) (Nat.add 18446744073709551616 (Nat.sub m (Nat.succ n))) (Nat.beq (Nat.mod (Nat.div v (Nat.pow 256 n)) 256) c) = _
    rw [← byte_beq v n c hc]
    have hge := Lib.indexByte_ge (bytesL n v) (UInt8.ofNat c)
    simp only [bytesL, Lib.indexByte]
    cases hb : (UInt8.ofNat (v / 256 ^ n) == UInt8.ofNat c) with
    | true =>
      simp only [if_true]
      show 18446744073709551616 + (m - (n + 1)) = _
      simp
    | false =>
      show idxF m n v c = _
      rw [ih]
      simp only [Bool.false_eq_true, if_false]
      by_cases e : Lib.indexByte (bytesL n v) (UInt8.ofNat c) = -1
      · simp [e]
      · have e' : (Lib.indexByte (bytesL n v) (UInt8.ofNat c) == -1) = false := by simpa using e
        simp only [e, e', Bool.false_eq_true, if_false]
        have : ¬ (Lib.indexByte (bytesL n v) (UInt8.ofNat c) + 1 = -1) := by omega
        rw [if_neg this]
        omega
theorem idxF_int (n v c : Nat) (hc : c < 256) : intOf (idxF n n v c) = Lib.indexByte (bytesL n v) (UInt8.ofNat c) := by
  have hge := Lib.indexByte_ge (bytesL n v) (UInt8.ofNat c)
  rw [idxF_ok n v c hc n (Nat.le_refl _)]
  unfold intOf
  split
  · rename_i e; rw [e]; rfl
  · omega
theorem cntB_ok (v c : Nat) (hc : c < 256) : ∀ n, cntB n v c = (bytesL n v).count (UInt8.ofNat c)
  | 0 => rfl
  | n + 1 => by
    have ih := cntB_ok v c hc n
    show @Bool.rec (fun _ => Nat) (cntB n v c) (Nat.succ (cntB n v c)) (Nat.beq (Nat.mod (Nat.div v (Nat.pow 256 n)) 256) c) = _
    rw [← byte_beq v n c hc, ih]
    simp only [bytesL, List.count_cons]
    cases (UInt8.ofNat (v / 256 ^ n) == UInt8.ofNat c) <;> simp
def stepA (a : Ans) : Ans := a
noncomputable def idxK (m v c : Nat) (k : Nat → Ans) (n : Nat) : Ans :=
  @Nat.rec (fun _ => Ans) (k 18446744073709551615) (fun j ih => @Bool.rec (fun _ => Ans) (stepA ih) (frc (Nat.add 18446744073709551616 (Nat.sub m (Nat.succ j))) k) (Nat.beq (Nat.mod (Nat.div v (Nat.pow 256 j)) 256) c)) n
theorem idxK_eq (m v c : Nat) (k : Nat → Ans) : ∀ n, idxK m v c k n = k (idxF m n v c)
  | 0 => rfl
  | n + 1 => by
    have ih := idxK_eq m v c k n
    show @Bool.rec (fun _ => Ans) (idxK m v c k n) (frc (Nat.add 18446744073709551616 (Nat.sub m (Nat.succ n))) k) (Nat.beq (Nat.mod (Nat.div v (Nat.pow 256 n)) 256) c) =
      k (@Bool.rec (fun _ => Nat) (idxF m n v c) (Nat.add 18446744073709551616 (Nat.sub m (Nat.succ n))) (Nat.beq (Nat.mod (Nat.div v (Nat.pow 256 n)) 256) c))
    rw [ih, frc_eq]
    cases Nat.beq (Nat.mod (Nat.div v (Nat.pow 256 n)) 256) c <;> rfl
noncomputable def cntK (v c : Nat) (k : Nat → Ans) (n : Nat) : Nat → Ans :=
  @Nat.rec (fun _ => Nat → Ans) (fun a => k a) (fun j ih a => @Bool.rec (fun _ => Ans) (stepA (ih a)) (frc (Nat.add a 1) fun a => stepA (ih a)) (Nat.beq (Nat.mod (Nat.div v (Nat.pow 256 j)) 256) c)) n
theorem cntK_eq (v c : Nat) (k : Nat → Ans) : ∀ n a, cntK v c k n a = k (Nat.add a (cntB n v c))
  | 0, a => rfl
  | n + 1, a => by
    have ih := cntK_eq v c k n
    show @Bool.rec (fun _ => Ans) (cntK v c k n a) (frc (Nat.add a 1) fun a => cntK v c k n a) (Nat.beq (Nat.mod (Nat.div v (Nat.pow 256 n)) 256) c) =
      k (Nat.add a (@Bool.rec (fun _ => Nat) (cntB n v c) (Nat.succ (cntB n v c)) (Nat.beq (Nat.mod (Nat.div v (Nat.pow 256 n)) 256) c)))
    rw [frc_eq, ih, ih]
    cases Nat.beq (Nat.mod (Nat.div v (Nat.pow 256 n)) 256) c
    · rfl
    · show k _ = k _
      congr 1
      show a + 1 + cntB n v c = a + (cntB n v c + 1)
      omega
noncomputable def gIdx : Bd := fun _ l b segs => argK l fun x l => argK l fun y l => argN l (onS x fun n v => onI y fun k c =>
  bo (eqK k .u8) (bo (Nat.ble 18446744073709551616 c) (bo (Nat.ble c 18446744073709551871) (idxK n v (Nat.sub c 18446744073709551616) (fun r => .ok (.i .i64 r) b segs []) n) .no) .no) .no)
theorem gIdx_ok {gl : Gl} {P : Program} {f : Nat} (hE : Enters P f) (h : ∀ (s : ByteArray) (c : Int) (w : World), Calls P f #[.string s, .int .u8 c] w fun e w' => e = .returned (.int .i64 (Lib.indexByte s.data.toList c.toNat.toUInt8)) ∧ w' = w) : BodyOk gl P f gIdx := by
  refine lib_ok hE ?_
  intro u args ub segs res ub' segs' dirty hg
  obtain ⟨x, l, rfl, k1⟩ := argK_ok hg
  obtain ⟨y, l, rfl, k2⟩ := argK_ok k1
  obtain ⟨rfl, k3⟩ := argN_ok k2
  obtain ⟨n, v, rfl, k4⟩ := onS_ok k3
  obtain ⟨k, c, rfl, k5⟩ := onI_ok k4
  obtain ⟨h1, k6⟩ := bo_ok k5
  obtain ⟨h2, k7⟩ := bo_ok k6
  obtain ⟨h3, k8⟩ := bo_ok k7
  rw [idxK_eq] at k8
  simp only [Ans.ok.injEq] at k8
  obtain ⟨rfl, rfl, rfl, rfl⟩ := k8
  obtain ⟨rfl, _⟩ := eqK_ok h1
  have h2' : 18446744073709551616 ≤ c := Nat.le_of_ble_eq_true h2
  have h3' : c ≤ 18446744073709551871 := Nat.le_of_ble_eq_true h3
  refine ⟨rfl, rfl, rfl, [.string (bytesB n v), .int .u8 (intOf c)], .int .i64 (intOf (idxF n n v (Nat.sub c 18446744073709551616))), rfl, rfl, rfl, fun _ w _ => (h _ _ w).mono ?_⟩
  rintro e w' ⟨rfl, rfl⟩
  refine ⟨?_, Below.refl _ _⟩
  have e1 : (intOf c).toNat.toUInt8 = UInt8.ofNat (c - 18446744073709551616) := by
    have : (intOf c).toNat = c - 18446744073709551616 := by unfold intOf; omega
    rw [this]
  have hm : Nat.sub c 18446744073709551616 < 256 := by show c - 18446744073709551616 < 256; omega
  rw [idxF_int n v _ hm, bytesB_list, e1]; rfl
noncomputable def gCnt : Bd := fun _ l b segs => argK l fun x l => argK l fun y l => argN l (onS x fun n v => onS y fun m c =>
  bo (Nat.beq m 1) (cntK v (Nat.mod c 256) (fun r => frc r fun r => .ok (.i .i64 r) b segs []) n 18446744073709551616) .no)
theorem gCnt_ok {gl : Gl} {P : Program} {f : Nat} (hE : Enters P f) (h : ∀ (s : ByteArray) (c : UInt8) (w : World), Calls P f #[.string s, .string ⟨#[c]⟩] w fun e w' => e = .returned (.int .i64 (Lib.countByte s.data.toList c)) ∧ w' = w) : BodyOk gl P f gCnt := by
  refine lib_ok hE ?_
  intro u args ub segs res ub' segs' dirty hg
  obtain ⟨x, l, rfl, k1⟩ := argK_ok hg
  obtain ⟨y, l, rfl, k2⟩ := argK_ok k1
  obtain ⟨rfl, k3⟩ := argN_ok k2
  obtain ⟨n, v, rfl, k4⟩ := onS_ok k3
  obtain ⟨m, c, rfl, k5⟩ := onS_ok k4
  obtain ⟨h1, k6⟩ := bo_ok k5
  rw [cntK_eq, frc_eq] at k6
  simp only [Ans.ok.injEq] at k6
  obtain ⟨rfl, rfl, rfl, rfl⟩ := k6
  have hm : m = 1 := Nat.eq_of_beq_eq_true h1
  subst hm
  have hc : Nat.mod c 256 < 256 := Nat.mod_lt _ (by omega)
  have e0 : bytesB 1 c = ⟨#[UInt8.ofNat c]⟩ := by
    unfold bytesB
    simp [bytesL]
  refine ⟨rfl, rfl, rfl, [.string (bytesB n v), .string (bytesB 1 c)], .int .i64 (intOf (Nat.add 18446744073709551616 (cntB n v (Nat.mod c 256)))), rfl, rfl, rfl, fun _ w _ => ?_⟩
  show Calls P f #[.string (bytesB n v), .string (bytesB 1 c)] w _
  rw [e0]
  refine (h (bytesB n v) (UInt8.ofNat c) w).mono ?_
  rintro e w' ⟨rfl, rfl⟩
  refine ⟨?_, Below.refl _ _⟩
  rw [bytesB_list, cntB_ok v _ hc n]
  have e1 : UInt8.ofNat (Nat.mod c 256) = UInt8.ofNat c := ofNat_mod _ _ (Nat.mod_mod c 256)
  rw [e1]
  unfold Lib.countByte intOf
  congr 2
  show _ = ((18446744073709551616 + List.count (UInt8.ofNat c) (bytesL n v) : Nat) : Int) - 18446744073709551616
  omega
noncomputable def outS (l : List UInt8) (k : XV → Ans) : Ans := frc l.length fun a => frc (numOf l) fun v => k (.s a v)
theorem outS_eq (l : List UInt8) (k : XV → Ans) : outS l k = k (sOut l) := by unfold outS; rw [frc_eq, frc_eq]; rfl
def asciiB (l : List UInt8) : Bool := l.all fun c => Nat.blt c.toNat 128
theorem asciiB_ok {l : List UInt8} (h : asciiB l = true) : ∀ (j : Nat) (b : UInt8), l[j]? = some b → b.toNat < 128 := by
  intro j b hb
  have := List.all_eq_true.1 h b (List.mem_of_getElem? hb)
  rw [blt_iff] at this
  simpa using this
noncomputable def gStr (f : List UInt8 → List UInt8) (ok : List UInt8 → Bool) : Bd := fun _ l b segs => argK l fun x l => argN l (onS x fun n v =>
  bo (Nat.ble n 4294967280) (bo (ok (bytesL n v)) (outS (f (bytesL n v)) fun r => .ok r b segs []) .no) .no)
theorem gStr_ok {gl : Gl} {P : Program} {f : Nat} {F : List UInt8 → List UInt8} {ok : List UInt8 → Bool} (hE : Enters P f)
    (h : ∀ (s : ByteArray) (c : Nat → Nat) (w : World), gl.p c w → s.size < 4294967281 → ok s.data.toList = true → Calls P f #[.string s] w fun e w' => e = .returned (.string ⟨(F s.data.toList).toArray⟩) ∧ Below w.heap.size w w') : BodyOk gl P f (gStr F ok) := by
  refine lib_ok hE ?_
  intro u args ub segs res ub' segs' dirty hg
  obtain ⟨x, l, rfl, k1⟩ := argK_ok hg
  obtain ⟨rfl, k2⟩ := argN_ok k1
  obtain ⟨n, v, rfl, k3⟩ := onS_ok k2
  obtain ⟨h1, k4⟩ := bo_ok k3
  obtain ⟨h2, k5⟩ := bo_ok k4
  rw [outS_eq] at k5
  simp only [Ans.ok.injEq] at k5
  obtain ⟨rfl, rfl, rfl, rfl⟩ := k5
  have hn : n ≤ 4294967280 := Nat.le_of_ble_eq_true h1
  exact ⟨rfl, rfl, rfl, [.string (bytesB n v)], .string ⟨(F (bytesL n v)).toArray⟩, rfl, sOut_dec _, rfl, fun c w hp => h (bytesB n v) c w hp (by rw [bytesB_size]; omega) (by rw [bytesB_list]; exact h2)⟩
theorem After.below' {g : Gh} {w w' : World} {ob : Nat → Obj} (hH : HeapR g w ob) (hB : Below w.heap.size w w') {c' : Nat → Nat} (hc : ∀ b, b < w.heap.size → c' b = g.c b) : After g w ob ⟨c', g.blk, g.cap⟩ w' ob := by
  have hE : Ext g.c w c' w' := ⟨hB.size, fun b hb => by rw [hc b hb]; exact Nat.le_refl _, fun b i hb _ => by simp only [World.cell?, hB.block b hb]⟩
  exact ⟨⟨hB.os, hB.tape, hB.output, hB.size, fun b hb _ => hB.block b hb, fun b hb _ => hc b hb⟩, hE,
    ⟨fun k => ObjR.keep (g' := ⟨c', g.blk, g.cap⟩) hE (ObStep.refl g ob) (fun hl => ⟨rfl, rfl, hc _ (hH.lt k (by cases ho : ob k <;> simp_all [Obj.live])), hB.block _ (hH.lt k (by cases ho : ob k <;> simp_all [Obj.live]))⟩) (hH.obj k), hH.inj, fun k hl => Nat.lt_of_lt_of_le (hH.lt k hl) hB.size⟩,
    ObStep.refl g ob, fun k hl => .inr ⟨k, hl, rfl⟩⟩
noncomputable def gFld : Bd := fun _ l b segs => argK l fun x l => argN l (onS x fun n v =>
  bo (Nat.ble n 4294967280) (bo (asciiB (bytesL n v)) (spL ((Lib.fields (bytesL n v)).map fun s => [sOut s]) fun es => .ok (.lst 1 es) b segs []) .no) .no)
theorem gFld_ok {gl : Gl} {P : Program} {f T : Nat} (hE : Enters P f)
    (h : ∀ (s : ByteArray) (c : Nat → Nat) (w : World), gl.p c w → s.size < 4294967281 → (∀ (j : Nat) (b : UInt8), s.data.toList[j]? = some b → b.toNat < 128) → Calls P f #[.string s] w fun e w' =>
      e = .returned (.slice (some ⟨w.heap.size, 0, none⟩) (Lib.fields s.data.toList).length (Lib.fields s.data.toList).length) ∧ w' = w.alloc (.cells ((Lib.fields s.data.toList).map fun l => Value.string ⟨l.toArray⟩).toArray T)) : BodyOk gl P f gFld := by
  intro u _ args ub segs res ub' segs' dirty hg
  obtain ⟨x, l, rfl, k1⟩ := argK_ok hg
  obtain ⟨rfl, k2⟩ := argN_ok k1
  obtain ⟨n, v, rfl, k3⟩ := onS_ok k2
  obtain ⟨h1, k4⟩ := bo_ok k3
  obtain ⟨h2, k5⟩ := bo_ok k4
  rw [spL_eq] at k5
  simp only [Ans.ok.injEq] at k5
  obtain ⟨rfl, rfl, rfl, rfl⟩ := k5
  have hn : n ≤ 4294967280 := Nat.le_of_ble_eq_true h1
  refine ⟨⟨hE, fun g w vs hG hH hA => ?_⟩, fun _ _ _ => rfl, fun k hk => by simp [XV.keys, XV.keysA, XV.key, XV.key0] at hk⟩
  have e0 : vs = [.string (bytesB n v)] := ArgsX.scalars (us := [.string (bytesB n v)]) hA
  rw [e0]
  refine (h (bytesB n v) g.c w hG (by rw [bytesB_size]; omega) (by rw [bytesB_list]; exact asciiB_ok h2)).mono ?_
  rintro e w' ⟨rfl, rfl⟩
  rw [bytesB_list]
  generalize hF : Lib.fields (bytesL n v) = F
  have hle : F.length ≤ n + 1 := by
    rw [← hF]
    have h1 := Lib.fieldsGo_length (bytesL n v) []
    have h2 : ∀ (l : List UInt8) (ws : Bool), Lib.cntF ws l ≤ l.length := by
      intro l
      induction l with
      | nil => intro ws; simp [Lib.cntF]
      | cons y r ih =>
        intro ws
        have := ih (Lib.isSp y)
        simp only [Lib.cntF, List.length_cons]
        split <;> omega
    have h3 := h2 (bytesL n v) true
    rw [bytesL_len] at h3
    simp only [Lib.fields, h1, List.isEmpty_nil, if_true]
    omega
  have hB : Below w.heap.size w (w.alloc (.cells (F.map fun l => Value.string ⟨l.toArray⟩).toArray T)) := (Below.refl _ w).alloc (Nat.le_refl _) _
  refine ⟨_, ⟨upd g.c w.heap.size F.length, g.blk, g.cap⟩, rfl, After.below' hH hB (fun b hb => upd_ne _ _ (by omega)), .inr (.inl (.inl ?_))⟩
  have hcell : ∀ j, (w.alloc (.cells (F.map fun l => Value.string ⟨l.toArray⟩).toArray T)).cell? ⟨w.heap.size, j, none⟩ = (F[j]?).map fun l => Value.string ⟨l.toArray⟩ := by
    intro j
    have : (w.alloc (.cells (F.map fun l => Value.string ⟨l.toArray⟩).toArray T)).heap[w.heap.size]? = some (.cells (F.map fun l => Value.string ⟨l.toArray⟩).toArray T (0, 0)) := World.alloc_heap_new w _
    simp only [World.cell?, this]
    simp
  have hes : decLL (F.map fun s => [sOut s]) = F.map fun s => [PV.sc (.string ⟨s.toArray⟩)] := by
    simp only [decLL_map, List.map_map]
    apply List.map_congr_left
    intro s _
    simp only [Function.comp, decL, sOut_dec]
  show VR _ _ (.lst 1 (decLL (F.map fun s => [sOut s]))) _
  rw [hes]
  have hl : F.length = (F.map fun s => [PV.sc (.string ⟨s.toArray⟩)]).length := by simp
  rw [hl]
  have key : ∀ (i j : Nat) (cs : List PV) (p : PV), (F.map fun s => [PV.sc (.string ⟨s.toArray⟩)])[i]? = some cs → cs[j]? = some p → j = 0 ∧ ∃ s, F[i]? = some s ∧ p = .sc (.string ⟨s.toArray⟩) := by
    intro i j cs p hi hj
    simp only [List.getElem?_map, Option.map_eq_some_iff] at hi
    obtain ⟨s, h1, rfl⟩ := hi
    cases j with
    | zero => simp at hj; exact ⟨rfl, s, h1, hj.symm⟩
    | succ j => simp at hj
  refine .lst (fun i _ => .string ⟨((F[i]?).getD []).toArray⟩) (Nat.le_refl _) (by rw [← hl]; simp only [maxLen]; omega) (by simp) (fun _ => by simp [upd]) (fun i cs hi => ?_) (fun i j cs p hi hj => ?_) (fun i j cs p hi hj => ?_) (fun i j cs p hi hj => ?_)
  · simp only [List.getElem?_map, Option.map_eq_some_iff] at hi
    obtain ⟨s, _, rfl⟩ := hi
    rfl
  · obtain ⟨rfl, s, h1, rfl⟩ := key i j cs p hi hj
    have := hcell i
    rw [h1] at this
    simp only [Nat.mul_one, Nat.add_zero, Nat.zero_add, h1]
    simpa using this
  · obtain ⟨rfl, s, h1, rfl⟩ := key i j cs p hi hj; rfl
  · obtain ⟨rfl, s, h1, rfl⟩ := key i j cs p hi hj
    simp only [h1, Option.getD_some]
    exact .sc rfl
end
end Go.Hf
end
section
namespace Go.Hf
open Go.RowKit
section
variable [Tok]
noncomputable def gItoa (F : Int → List UInt8) : Bd := fun _ l b segs => argK l fun x l => argN l (onI x fun k n => bo (eqK k .i64) (bo (inF .i64 n) (outS (F (intOf n)) fun r => .ok r b segs []) .no) .no)
theorem gItoa_ok {gl : Gl} {P : Program} {f : Nat} {F : Int → List UInt8} (hE : Enters P f)
    (h : ∀ (n : Int) (c : Nat → Nat) (w : World), gl.p c w → -9223372036854775808 ≤ n → n ≤ 9223372036854775807 → Calls P f #[.int .i64 n] w fun e w' => e = .returned (.string ⟨(F n).toArray⟩) ∧ Below w.heap.size w w') : BodyOk gl P f (gItoa F) := by
  refine lib_ok hE ?_
  intro u args ub segs res ub' segs' dirty hg
  obtain ⟨x, l, rfl, k1⟩ := argK_ok hg
  obtain ⟨rfl, k2⟩ := argN_ok k1
  obtain ⟨k, n, rfl, k3⟩ := onI_ok k2
  obtain ⟨h1, k4⟩ := bo_ok k3
  obtain ⟨h2, k5⟩ := bo_ok k4
  rw [outS_eq] at k5
  simp only [Ans.ok.injEq] at k5
  obtain ⟨rfl, rfl, rfl, rfl⟩ := k5
  obtain ⟨rfl, _⟩ := eqK_ok h1
  rw [inF_eq] at h2
  simp only [inK, Bool.and_eq_true, loK, hiK] at h2
  have h3 := Nat.le_of_ble_eq_true h2.1
  have h4 := Nat.le_of_ble_eq_true h2.2
  exact ⟨rfl, rfl, rfl, [.int .i64 (intOf n)], .string ⟨(F (intOf n)).toArray⟩, rfl, sOut_dec _, rfl, fun c w hp => h (intOf n) c w hp (by unfold intOf; omega) (by unfold intOf; omega)⟩
def plainB (l : List UInt8) : Bool := l.all fun c => Nat.ble 32 c.toNat && Nat.ble c.toNat 126 && !Nat.beq c.toNat 34 && !Nat.beq c.toNat 92
def quoteL (l : List UInt8) : List UInt8 := 34 :: (l ++ [34])
theorem plain_head {c : UInt8} {r : List UInt8} (h : plainB (c :: r) = true) : (32 ≤ c.toNat ∧ c.toNat ≤ 126 ∧ c.toNat ≠ 34 ∧ c.toNat ≠ 92) ∧ plainB r = true := by
  simp only [plainB, List.all_cons, Bool.and_eq_true, Bool.not_eq_true'] at h
  obtain ⟨⟨⟨⟨h1, h2⟩, h3⟩, h4⟩, h5⟩ := h
  refine ⟨⟨Nat.le_of_ble_eq_true h1, Nat.le_of_ble_eq_true h2, fun e => ?_, fun e => ?_⟩, h5⟩
  · rw [e] at h3; cases h3
  · rw [e] at h4; cases h4
theorem step_plain (T : Lib.PrintTabs) {c : UInt8} {r : List UInt8} (h : 32 ≤ c.toNat ∧ c.toNat ≤ 126 ∧ c.toNat ≠ 34 ∧ c.toNat ≠ 92) :
    Utf8.decode ⟨(c :: r).toArray⟩ 0 = (c.toNat, 1) ∧ Lib.quoteStep T ⟨(c :: r).toArray⟩ = [(c.toNat : Int)] := by
  have hd : Utf8.decode ⟨(c :: r).toArray⟩ 0 = (c.toNat, 1) := by
    rw [Lib.decode_at]
    have e : (ByteArray.mk (c :: r).toArray).get! 0 = c := rfl
    rw [e]
    unfold Lib.decodeN
    split
    · rfl
    · omega
  refine ⟨hd, ?_⟩
  unfold Lib.quoteStep
  rw [hd]
  simp only [true_and]
  rw [if_neg (by omega)]
  unfold Lib.escRune
  rw [if_neg (by omega)]
  have hp : Lib.isPrintR T (c.toNat : Int) = true := by
    unfold Lib.isPrintR
    rw [if_pos (by omega)]
    unfold Lib.isPrintLatin
    simp
    omega
  rw [if_pos hp]
  unfold Lib.encodeRuneZ
  rw [if_pos (by omega)]
theorem ba_size (l : List UInt8) : (ByteArray.mk l.toArray).size = l.length := rfl
theorem quoteFrom_plain (T : Lib.PrintTabs) : ∀ (l : List UInt8) (f : Nat), l.length ≤ f → plainB l = true → Lib.quoteFrom T f ⟨l.toArray⟩ = l.map fun c => (c.toNat : Int)
  | [], 0, _, _ => rfl
  | [], f + 1, _, _ => by
    unfold Lib.quoteFrom
    rw [ba_size, if_neg (by simp)]; rfl
  | c :: r, 0, h, _ => by simp at h
  | c :: r, f + 1, h, hp => by
    obtain ⟨h1, h2⟩ := plain_head hp
    obtain ⟨e1, e2⟩ := step_plain T (r := r) h1
    have ih := quoteFrom_plain T r f (by simpa using h) h2
    unfold Lib.quoteFrom
    rw [if_pos (by rw [ba_size]; simp), e1, e2]
    have e3 : (ByteArray.mk (c :: r).toArray).extract 1 (ByteArray.mk (c :: r).toArray).size = ⟨r.toArray⟩ := by
      apply ByteArray.ext
      rw [ba_size]
      simp [ByteArray.data_extract]
    rw [e3, ih]
    rfl
theorem quote_plain (T : Lib.PrintTabs) (l : List UInt8) (h : plainB l = true) : strOfNums (Lib.quoteZ T ⟨l.toArray⟩) = ⟨(quoteL l).toArray⟩ := by
  unfold Lib.quoteZ
  rw [ba_size, quoteFrom_plain T l l.length (Nat.le_refl _) h]
  unfold strOfNums quoteL
  have e : (l.map fun c : UInt8 => (c.toNat : Int)).map (fun n : Int => UInt8.ofNat n.toNat) = l := by
    rw [List.map_map]
    conv => rhs; rw [← List.map_id l]
    apply List.map_congr_left
    intro c _
    simp
  simp only [List.map_cons, List.map_append, e, List.map_nil]
  rfl
def cpS (T q s : Nat) : List XV → Option (Option (List XV))
  | [.sc (.pointer none), c1] => bif Nat.beq (Nat.mod s 65536) T then some (some [.bptr q s 0, c1]) else none
  | [.bptr k' s' 0, _] => bif Nat.beq k' q && Nat.beq s' s then some none else none
  | _ => none
noncomputable def cpK (q s : Nat) (b : Nat) (segs : SL) (x : Option (Option (List XV))) : Ans :=
  @Option.rec (Option (List XV)) (fun _ => Ans) .no (fun y => @Option.rec (List XV) (fun _ => Ans) (.ok (.tup []) b segs []) (fun cs => .ok (.tup []) b (segs.set q (.x (.box s cs))) [q]) y) x
noncomputable def gCopy (T : Nat) : Bd := fun _ l b segs => argK l fun x l => argN l (onP x (fun _ _ => .no) (fun q s o => bo (Nat.beq o 0) (bo (Nat.ble (Nat.succ q) b)
  (onBox (segs.get q).o fun s' cs => bo (Nat.beq s s') (cpK q s b segs (cpS T q s cs)) .no) .no) .no) (fun _ _ _ _ => .no))
theorem dobX_at {b q : Nat} {segs : SL} (h : q < b) : dobX b segs q = decO (segs.get q).o := by
  show decO (obX b segs q) = _
  rw [obX_lt h]
theorem dobX_set {b q : Nat} {segs : SL} {o : SObj} (h : q < b) : dobX b (segs.set q o) = upd (dobX b segs) q (decO o.o) := by
  funext k
  by_cases hk : k < b
  · rw [dobX_at hk, SL.get_set]
    by_cases e : k = q
    · subst e; rw [if_pos rfl, upd_same]
    · rw [if_neg e, upd_ne _ _ e, dobX_at hk]
  · have e : k ≠ q := by omega
    rw [upd_ne _ _ e]
    show decO (obX b _ k) = decO (obX b _ k)
    rw [obX_ge (by omega), obX_ge (by omega)]
theorem obX_set_ne {b q k : Nat} {segs : SL} {o : SObj} (h : k < b) (e : k ≠ q) : obX b (segs.set q o) k = obX b segs k := by
  rw [obX_lt h, obX_lt h, SL.get_set, if_neg e]
theorem onP_ok {x : XV} {e : List XV → Nat → Ans} {f : Nat → Nat → Nat → Ans} {g : Nat → Nat → Nat → Nat → Ans} {res : XV} {ub : Nat} {s : SL} {d : List Nat} (h : onP x e f g = .ok res ub s d) (he : ∀ cs o, e cs o = .no) (hg : ∀ k s i o, g k s i o = .no) :
    ∃ k s o, x = .bptr k s o ∧ f k s o = .ok res ub ‹SL› d := by
  rcases onP_ne (by rw [h]; simp : onP x e f g ≠ .no) with ⟨cs, o, rfl, e2⟩ | ⟨k, s, o, rfl, e2⟩ | ⟨k, s, i, o, rfl, e2⟩
  · rw [e2, he] at h; cases h
  · exact ⟨k, s, o, rfl, by rw [← e2]; exact h⟩
  · rw [e2, hg] at h; cases h
theorem onBox_ok {o : XObj} {f : Nat → List XV → Ans} {res : XV} {ub : Nat} {s : SL} {d : List Nat} (h : onBox o f = .ok res ub s d) : ∃ s' cs, o = .box s' cs ∧ f s' cs = .ok res ub s d := by
  obtain ⟨s', cs, e, e2⟩ := onBox_ne (by rw [h]; simp : onBox o f ≠ .no)
  exact ⟨s', cs, e, by rw [← e2]; exact h⟩
theorem gCopy_ok {gl : Gl} {P : Program} {f T : Nat} (hE : Enters P f)
    (hu : ∀ b w, w.cell? ⟨b, 0, none⟩ = some (.pointer (some ⟨b, 0, none⟩)) → Calls P f #[.pointer (some ⟨b, 0, none⟩)] w fun e w' => e = .returned (.tuple #[]) ∧ w' = w)
    (hf : ∀ b w, w.cell? ⟨b, 0, none⟩ = some (.pointer none) → w.shape? b = some (T, 2) → w.frozen? ⟨b, 0, none⟩ = false →
      Calls P f #[.pointer (some ⟨b, 0, none⟩)] w fun e w' => e = .returned (.tuple #[]) ∧ w' = w.setCell ⟨b, 0, none⟩ (.pointer (some ⟨b, 0, none⟩))) : BodyOk gl P f (gCopy T) := by
  intro u _ args ub segs res ub' segs' dirty hg
  obtain ⟨x, l, rfl, k1⟩ := argK_ok hg
  obtain ⟨rfl, k2⟩ := argN_ok k1
  obtain ⟨q, s, o, rfl, k3⟩ := onP_ok k2 (fun _ _ => rfl) (fun _ _ _ _ => rfl)
  obtain ⟨h1, k4⟩ := bo_ok k3
  obtain ⟨h2, k5⟩ := bo_ok k4
  obtain ⟨s', cs, hob, k6⟩ := onBox_ok k5
  obtain ⟨h3, k7⟩ := bo_ok k6
  have ho : o = 0 := Nat.eq_of_beq_eq_true h1
  have hs : s = s' := Nat.eq_of_beq_eq_true h3
  have hq : q < ub := Nat.le_of_ble_eq_true h2
  subst ho hs
  have hd : dobX ub segs q = .box s (decL cs) := by rw [dobX_at hq, hob]; rfl
  unfold cpK at k7
  cases hc : cpS T q s cs with
  | none => rw [hc] at k7; cases k7
  | some y =>
    rw [hc] at k7
    unfold cpS at hc
    split at hc
    · rename_i c1
      cases hT : Nat.beq (Nat.mod s 65536) T with
      | false => rw [hT] at hc; cases hc
      | true =>
        rw [hT] at hc
        simp only [cond_true, Option.some.injEq] at hc
        subst hc
        change (.ok (.tup []) ub (segs.set q (.x (.box s [.bptr q s 0, c1]))) [q] : Ans) = _ at k7
        simp only [Ans.ok.injEq] at k7
        obtain ⟨rfl, rfl, rfl, rfl⟩ := k7
        refine ⟨?_, fun k hk hn => obX_set_ne hk (fun e => hn (by rw [e]; exact List.mem_singleton.2 rfl)), fun k hk => by simp [XV.keys] at hk⟩
        rw [dobX_set hq]
        exact HC_fresh hE hf (c1 := dec c1) (by exact Nat.eq_of_beq_eq_true hT) hd
    · rename_i k' st' c1
      cases hT : Nat.beq k' q && Nat.beq st' s with
      | false => rw [hT] at hc; cases hc
      | true =>
        rw [hT] at hc
        simp only [cond_true, Option.some.injEq] at hc
        subst hc
        simp only [Bool.and_eq_true, Nat.beq_eq] at hT
        obtain ⟨rfl, rfl⟩ := hT
        change (.ok (.tup []) ub segs [] : Ans) = _ at k7
        simp only [Ans.ok.injEq] at k7
        obtain ⟨rfl, rfl, rfl, rfl⟩ := k7
        exact ⟨HC_used hE hu (c1 := dec c1) hd, fun _ _ _ => rfl, fun k hk => by simp [XV.keys] at hk⟩
    · cases hc
def bytes8 : List (List XV) → Option (List UInt8)
  | [] => some []
  | [.i .u8 n] :: r => bif Nat.ble 18446744073709551616 n && Nat.ble n 18446744073709551871 then (match bytes8 r with | some l => some (UInt8.ofNat (Nat.sub n 18446744073709551616) :: l) | none => none) else none
  | _ => none
theorem bytes8_ok : ∀ {es : List (List XV)} {l : List UInt8}, bytes8 es = some l → decLL es = l.map fun c => [PV.sc (.int .u8 c.toNat)]
  | [], l, h => by simp only [bytes8, Option.some.injEq] at h; subst h; rfl
  | e :: r, l, h => by
    unfold bytes8 at h
    split at h
    · rename_i heq; cases heq
    · rename_i n r' heq
      cases heq
      cases hc : Nat.ble 18446744073709551616 n && Nat.ble n 18446744073709551871 with
      | false => rw [hc] at h; cases h
      | true =>
        rw [hc] at h
        simp only [cond_true] at h
        split at h
        · rename_i l' hl
          cases h
          have ih := bytes8_ok hl
          simp only [Bool.and_eq_true] at hc
          have h1 := Nat.le_of_ble_eq_true hc.1
          have h2 := Nat.le_of_ble_eq_true hc.2
          rw [decLL_map, List.map_cons, ← decLL_map, ih]
          simp only [List.map_cons, decL, dec, intOf]
          congr 4
          have e : (UInt8.ofNat (Nat.sub n 18446744073709551616)).toNat = n - 18446744073709551616 := by
            have : Nat.sub n 18446744073709551616 = n - 18446744073709551616 := rfl
            rw [this]
            simp
            omega
          rw [e]
          omega
        · cases h
    · cases h
noncomputable def strK (e b : Nat) (segs : SL) (cs : List XV) : Ans :=
  @Option.rec (Nat × List UInt8 × Nat) (fun _ => Ans) .no (fun p => outS p.2.1 fun r => .ok r b (segs.set p.1 (.x (.no p.2.2))) [p.1])
    (match cs with
      | [_, .bld kd st 0 len] => (match (segs.get kd).o with
        | .bld st' e' 1 es _ => (match bytes8 es with
          | some (c :: l) => bif Nat.beq st st' && Nat.beq e' e && Nat.beq len (List.length (c :: l)) && Nat.ble (Nat.succ kd) b then some (kd, c :: l, st) else none
          | _ => none)
        | _ => none)
      | _ => none)
noncomputable def gString (e : Nat) : Bd := fun _ l b segs => argK l fun x l => argN l (onP x (fun _ _ => .no) (fun q s o => bo (Nat.beq o 0) (bo (Nat.ble (Nat.succ q) b)
  (onBox (segs.get q).o fun s' cs => bo (Nat.beq s s') (strK e b segs cs) .no) .no) .no) (fun _ _ _ _ => .no))
theorem gString_ok {gl : Gl} {P : Program} {f e : Nat} (hE : Enters P f) (hf : ∀ (b r cap : Nat) (p : Value) (cur : Array Value) (T : TypeId) (l : List UInt8) (w : World), l ≠ [] → w.heap[b]? = some (.cells #[p, .slice (some ⟨r, 0, none⟩) l.length cap] T (0, 0)) →
      w.heap[r]? = some (.cells cur e (0, 0)) → l.length ≤ cap → cap ≤ maxLen → cur.size = cap → (∀ (j : Nat) (x : UInt8), l[j]? = some x → cur[j]? = some (.int .u8 x.toNat)) →
      Calls P f #[.pointer (some ⟨b, 0, none⟩)] w fun e w' => e = .returned (.string ⟨l.toArray⟩) ∧ w' = w.drew.freeze ⟨r, 0, none⟩ l.length) : BodyOk gl P f (gString e) := by
  intro u _ args ub segs res ub' segs' dirty hg
  obtain ⟨x, l, rfl, k1⟩ := argK_ok hg
  obtain ⟨rfl, k2⟩ := argN_ok k1
  obtain ⟨q, s, o, rfl, k3⟩ := onP_ok k2 (fun _ _ => rfl) (fun _ _ _ _ => rfl)
  obtain ⟨h1, k4⟩ := bo_ok k3
  obtain ⟨h2, k5⟩ := bo_ok k4
  obtain ⟨s', cs, hob, k6⟩ := onBox_ok k5
  obtain ⟨h3, k7⟩ := bo_ok k6
  have ho : o = 0 := Nat.eq_of_beq_eq_true h1
  have hs : s = s' := Nat.eq_of_beq_eq_true h3
  have hq : q < ub := Nat.le_of_ble_eq_true h2
  subst ho hs
  have hd : dobX ub segs q = .box s (decL cs) := by rw [dobX_at hq, hob]; rfl
  unfold strK at k7
  split at k7
  · rename_i c0 kd st len
    split at k7
    · rename_i st' e' es raw hkd
      split at k7
      · rename_i c l hb8
        cases hc : Nat.beq st st' && Nat.beq e' e && Nat.beq len (List.length (c :: l)) && Nat.ble (Nat.succ kd) ub with
        | false => rw [hc] at k7; cases k7
        | true =>
          rw [hc] at k7
          simp only [Bool.and_eq_true, Nat.beq_eq] at hc
          obtain ⟨⟨⟨rfl, rfl⟩, hlen⟩, hkb⟩ := hc
          have hkb' : kd < ub := Nat.le_of_ble_eq_true hkb
          change outS (c :: l) (fun r => .ok r ub (segs.set kd (.x (.no st))) [kd]) = _ at k7
          rw [outS_eq] at k7
          simp only [Ans.ok.injEq] at k7
          obtain ⟨rfl, rfl, rfl, rfl⟩ := k7
          refine ⟨?_, fun k hk hn => obX_set_ne hk (fun e => hn (by rw [e]; exact List.mem_singleton.2 rfl)), fun k hk => by simp [sOut, XV.keys, XV.keysA, XV.key, XV.key0] at hk⟩
          rw [dobX_set hkb', sOut_dec]
          refine HC_string hE hf (c0 := dec c0) (l := c :: l) (raw := raw) (by simp) ?_ ?_
          · rw [hd, hlen]; rfl
          · rw [dobX_at hkb', hkd, ← bytes8_ok hb8]; rfl
      · cases k7
    · cases k7
  · cases k7
end
end Go.Hf
end
section
namespace Go.Hf
open Go.RowKit
section
variable [Tok]
noncomputable def norm (a : Ans) : Ans := @Ans.rec (fun _ => Ans) .no (fun r ub _ _ => .ok r ub .nil []) a
theorem norm_ok {a : Ans} {r : XV} (h : norm a = .ok r 0 .nil []) : ∃ s d, a = .ok r 0 s d := by
  cases a with
  | no => cases h
  | ok r' ub s d =>
    change (.ok r' ub .nil [] : Ans) = _ at h
    simp only [Ans.ok.injEq] at h
    obtain ⟨rfl, rfl, _, _⟩ := h
    exact ⟨s, d, rfl⟩
theorem run_RC {gl : Gl} {P : Program} {T : DT} (hT : AllOk gl P T) {n f : Nat} {args : List XV} {res : XV} (h : norm (tab T n f args 0 .nil) = .ok res 0 .nil []) : RC gl P f (args.map dec) (dec res) := by
  obtain ⟨s, d, h⟩ := norm_ok h
  exact tab_RC hT h
theorem HC_of_RC {gl : Gl} {P : Program} {f : Nat} {args : List PV} {res : PV} (h : RC gl P f args res) (ha : ∀ p ∈ args, p.keys = [] ∧ p ≠ .undef) (ob : Nat → Obj)
    (hv : ∀ (g : Gh) (w : World) (p : PV) (v : Value), p ∈ args → XR g w ob p v → XR g w noOb p v) : HC gl P f args ob res ob := by
  obtain ⟨⟨hE, hC⟩, hk⟩ := h
  refine ⟨hE, fun g w vs hG hH hA => ?_⟩
  refine (hC g w vs hG HeapR.none ⟨hA.1, fun i p v hp hv' => hv g w p v (List.mem_of_getElem? hp) (hA.2 i p v hp hv')⟩).mono ?_
  rintro e w' ⟨v, g', rfl, hA', hX⟩
  exact ⟨v, ⟨g'.c, g.blk, g.cap⟩, rfl, After.frame hH hA', hX.noOb_any hk rfl⟩
theorem HC_scalars {gl : Gl} {P : Program} {f : Nat} {vals : List Value} {res : PV} (h : RC gl P f (vals.map PV.sc) res) (ob : Nat → Obj) : HC gl P f (vals.map PV.sc) ob res ob := by
  refine HC_of_RC h (fun p hp => ?_) ob (fun g w p v hp hX => ?_)
  · obtain ⟨v, _, rfl⟩ := List.mem_map.1 hp
    exact ⟨rfl, by simp⟩
  · obtain ⟨u, _, rfl⟩ := List.mem_map.1 hp
    obtain ⟨rfl, h2⟩ := hX.sc_inv
    exact .inr (.inl (.inl (.sc h2)))
noncomputable def gAns (kd : IntKind) (a : Nat) (x : XV) (r : Bd) : Bd := fun u l b segs =>
  argK l fun y l' => onI y fun k c => @Bool.rec (fun _ => Ans) (r u l b segs) (argN l' (.ok x b segs [])) (an (eqK k kd) (Nat.beq c a))
theorem gAns_ok {gl : Gl} {P : Program} {f : Nat} {kd : IntKind} {a : Nat} {x : XV} {r : Bd} (h : RC gl P f [.sc (.int kd (intOf a))] (dec x)) (hr : BodyOk gl P f r) : BodyOk gl P f (gAns kd a x r) := by
  intro u hu args ub segs res ub' segs' dirty hg
  obtain ⟨y, l', rfl, k1⟩ := argK_ok hg
  obtain ⟨k, c, rfl, k2⟩ := onI_ok k1
  cases hb : an (eqK k kd) (Nat.beq c a) with
  | false =>
    rw [hb] at k2
    exact hr u hu _ _ _ _ _ _ _ k2
  | true =>
    rw [hb] at k2
    obtain ⟨rfl, k3⟩ := argN_ok k2
    simp only [Ans.ok.injEq] at k3
    obtain ⟨rfl, rfl, rfl, rfl⟩ := k3
    rw [an_eq, Bool.and_eq_true] at hb
    obtain ⟨rfl, _⟩ := eqK_ok hb.1
    have hc : c = a := Nat.eq_of_beq_eq_true hb.2
    subst hc
    exact ⟨HC_scalars (vals := [.int k (intOf c)]) h _, fun _ _ _ => rfl, fun q hq => by rw [← keys_dec, h.2] at hq; cases hq⟩
theorem no_ok {gl : Gl} {P : Program} {f : Nat} : BodyOk gl P f (fun _ _ _ _ => .no) := by
  intro u _ args ub segs res ub' segs' dirty hg; cases hg
noncomputable def gConst (x : XV) : Bd := fun _ l b segs => argN l (.ok x b segs [])
theorem gConst_ok {gl : Gl} {P : Program} {f : Nat} {x : XV} (h : RC gl P f [] (dec x)) : BodyOk gl P f (gConst x) := by
  intro u hu args ub segs res ub' segs' dirty hg
  obtain ⟨rfl, k1⟩ := argN_ok hg
  simp only [Ans.ok.injEq] at k1
  obtain ⟨rfl, rfl, rfl, rfl⟩ := k1
  exact ⟨HC_scalars (vals := []) h _, fun _ _ _ => rfl, fun q hq => by rw [← keys_dec, h.2] at hq; cases hq⟩
end
end Go.Hf
end

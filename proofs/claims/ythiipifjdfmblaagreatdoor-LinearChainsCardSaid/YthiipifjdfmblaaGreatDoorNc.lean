/- Contracts of the program's functions on numbers, for small integers. -/
import Derived.Test.YthiipifjdfmblaaGreatDoorNa
set_option linter.unusedVariables false
set_option linter.unusedSimpArgs false
namespace Go.Proofs.YthiipifjdfmblaaGreatDoor
open Go Go.Pf Go.RowKit
set_option maxRecDepth 100000

theorem mix : Tryz.prog.follows .mixedOrders = true := by kernel_rfl

/-- An answer without anything written in place. -/
def A (v : PV) : PV × List (List PV) := (v, [])

/-- The cells of an integer as an object. -/
def nO (n : Int) : List PV := [I 1, D n, S [49], S [], S [], S [], nils]
def N (n : Int) : PV := .agg (nO n)
def U32 (n : Nat) : PV := .sc (.int .u32 n)

def isTrueR : Option ((PV × List (List PV)) × List Ob) → Bool
  | some ((.sc (.bool true), []), []) => true
  | _ => false
theorem isTrueR_ok {x : Option ((PV × List (List PV)) × List Ob)} (h : isTrueR x = true) : x = some ((Bo true, []), []) := by
  unfold isTrueR at h
  split at h
  · rfl
  · cases h
def isIntR (n : Int) : Option ((PV × List (List PV)) × List Ob) → Bool
  | some ((.sc (.int .i64 m), []), []) => m == n
  | _ => false
theorem isIntR_ok {n : Int} {x : Option ((PV × List (List PV)) × List Ob)} (h : isIntR n x = true) : x = some ((I n, []), []) := by
  unfold isIntR at h
  split at h
  · have := eq_of_beq h; subst this; rfl
  · cases h

theorem rc316 (n : Int) (h : Sm n) : RC G Tryz.prog 316 .imm [D n] (Bo true) [] :=
  RC_go mix (l := [(318, c318), (352, c352), (367, c367)]) ⟨ok318, ok352, ok367, trivial⟩ ok316 (isTrueR_ok (small_all (p := fun n => isTrueR (go [(318, c318), (352, c352), (367, c367)] c316 .imm [D n] [])) (by kernel_rfl) h)) trivial

/-- How many digits. -/
def dg (n : Int) : Int := ((Lib.itoa n.natAbs).length : Nat)
theorem dg_le {n : Int} (h : Sm n) : dg n ≤ 3 := by
  have := len_small (n := (n.natAbs : Int)) (by unfold Sm at *; omega)
  unfold dg; omega

theorem rc355 (n : Int) (h : Sm n) : RC G Tryz.prog 355 .imm [D n] (I (dg n)) [] :=
  RC_go mix (l := [(275, c275), (316, c316), (318, c318), (352, c352), (367, c367)]) ⟨ok275, ok316, ok318, ok352, ok367, trivial⟩ ok355 (isIntR_ok (small_all (p := fun n => isIntR (dg n) (go [(275, c275), (316, c316), (318, c318), (352, c352), (367, c367)] c355 .imm [D n] [])) (by kernel_rfl) h)) trivial

theorem gt_no {a b : Int} (h : a ≤ b) : binV .gtr (I a) (I b) = some (Bo false) := by
  simp only [binV, I, sbin, if_true, Option.map_some, Bo]
  have : decide (a > b) = false := by simp; exact h
  rw [this]
theorem add_ok {a b c : Int} (h : a + b = c) (h1 : -9223372036854775808 ≤ c) (h2 : c ≤ 9223372036854775807) : binV .add (I a) (I b) = some (I c) := by
  simp only [binV, I, sbin, if_true, Option.map_some]
  rw [h, IntKind.wrap_i64]
  congr 3
  omega
theorem mul_ok {a b c : Int} (h : a * b = c) (h1 : -9223372036854775808 ≤ c) (h2 : c ≤ 9223372036854775807) : binV .mul (I a) (I b) = some (I c) := by
  simp only [binV, I, sbin, if_true, Option.map_some]
  rw [h, IntKind.wrap_i64]
  congr 3
  omega
theorem size_D {n : Int} (h : Sm n) : (((⟨(Lib.itoa n).toArray⟩ : ByteArray).size : Nat) : Int) ≤ 3 := by
  have := len_small h
  simp [ByteArray.size]; omega
theorem eql_self (s : ByteArray) : binV .eql (.sc (.string s)) (.sc (.string s)) = some (Bo true) := by
  simp [binV, sbin, Bo]

def isB (b : Bool) : Option PV → Bool
  | some (.sc (.bool c)) => b == c
  | _ => false
theorem isB_ok {b : Bool} {x : Option PV} (h : isB b x = true) : x = some (Bo b) := by
  unfold isB at h
  split at h
  · have := eq_of_beq h; subst this; rfl
  · cases h
theorem eql_zero {n : Int} (h : Sm n) (h0 : n ≠ 0) : binV .eql (D n) (S [48]) = some (Bo false) := by
  have := small_all (p := fun n => n == 0 || isB false (binV .eql (D n) (S [48]))) (by kernel_rfl) h
  refine isB_ok ?_
  simpa [h0] using this
theorem neq_zero {n : Int} (h : Sm n) (h0 : n ≠ 0) : binV .neq (D n) (D 0) = some (Bo true) := by
  have := small_all (p := fun n => n == 0 || isB true (binV .neq (D n) (D 0))) (by kernel_rfl) h
  refine isB_ok ?_
  simpa [h0] using this
theorem gt_len {n b : Int} (h : Sm n) (hb : 3 ≤ b) : binV .gtr (I ((⟨(Lib.itoa n).toArray⟩ : ByteArray).size : Nat)) (I b) = some (Bo false) := gt_no (by have := size_D h; omega)

/-- What parsing a number that is not 0 gives. -/
def isPar (n : Int) : Option ((PV × List (List PV)) × List Ob) → Bool
  | some ((.agg [.sc (.bool b), .lst 1 [[.sc (.int .u32 v)]]], []), [.call 319 .imm [.sc (.string x), .sc (.int .i64 10), .sc (.int .i64 32)] (.tup [.sc (.int .u64 u), .sc .nilIface]) []]) => b == decide (n < 0) && v == n.natAbs && x.data.toList == Lib.itoa n.natAbs && u == n.natAbs
  | _ => false
def par (n : Int) : PV := .agg [Bo (decide (n < 0)), .lst 1 [[U32 n.natAbs]]]
theorem isPar_ok {n : Int} (hn : Sm n) {x : Option ((PV × List (List PV)) × List Ob)} (h : isPar n x = true) : ∃ obs, x = some ((par n, []), obs) ∧ AllOk G Tryz.prog obs := by
  unfold isPar at h
  split at h
  · rename_i b v x u
    simp only [Bool.and_eq_true, beq_iff_eq] at h
    obtain ⟨⟨⟨h1, h2⟩, h3⟩, h4⟩ := h
    subst h1; subst h2; subst h4
    refine ⟨_, rfl, ?_, trivial⟩
    have e : x = ⟨(Lib.itoa n.natAbs).toArray⟩ := by
      cases x with
      | mk d => simp only at h3; rw [← h3]
    rw [e]
    exact rc319 n.natAbs (by unfold Sm at hn; omega)
  · cases h
def parI : List (Nat × FnR) := [(275, c275), (316, c316), (318, c318), (352, c352), (367, c367), (320, c320)]
theorem rc268 (n : Int) (hn : Sm n) (h0 : n ≠ 0) : RC G Tryz.prog 268 .imm [D n] (par n) [] := by
  have h := small_all (p := fun n => n == 0 || isPar n (go parI c268 .imm [D n] [A (.tup [.sc (.int .u64 n.natAbs), .sc .nilIface])])) (by kernel_rfl) hn
  have h' : isPar n (go parI c268 .imm [D n] [A (.tup [.sc (.int .u64 n.natAbs), .sc .nilIface])]) = true := by simpa [h0] using h
  obtain ⟨obs, e, hA⟩ := isPar_ok hn h'
  exact RC_go mix (l := parI) ⟨ok275, ok316, ok318, ok352, ok367, ok320, trivial⟩ ok268 e hA

theorem rc275 (n : Int) (h : Sm n) : RC G Tryz.prog 275 .imm [D n] (D n) [] :=
  RC_goP mix (l := []) trivial (r := c275) ok275 (ans := [A (Bo true)])
    (Eq.mp (by kernel_rfl) (And.intro (And.intro (rc316 n h) trivial) (Eq.refl ((D n : PV), ([] : List (List PV))))))

theorem rc266_18 (a b : Int) (ha : Sm a) (hb : Sm b) : RC G Tryz.prog 266 .imm [D a, D b, I 18] (.tup [I a, I b, Bo true]) [] :=
  RC_goP mix (l := []) trivial (r := (c266.ask [16, 21])) (ok266.ask [16, 21]) (ans := [A (Bo false), A (Bo false), A (Bo true), A (Bo true), A (.tup [I a, .sc .nilIface]), A (.tup [I b, .sc .nilIface])])
    (Eq.mp (by kernel_rfl) (And.intro (And.intro (rc317 b hb) (And.intro (rc317 a ha) (And.intro (rc316 b hb) (And.intro (rc316 a ha) (And.intro (gt_len (b := 18) hb (by omega)) (And.intro (gt_len (b := 18) ha (by omega)) trivial)))))) (Eq.refl ((.tup [I a, I b, Bo true] : PV), ([] : List (List PV))))))

theorem rc266_9 (a b : Int) (ha : Sm a) (hb : Sm b) : RC G Tryz.prog 266 .imm [D a, D b, I 9] (.tup [I a, I b, Bo true]) [] :=
  RC_goP mix (l := []) trivial (r := (c266.ask [16, 21])) (ok266.ask [16, 21]) (ans := [A (Bo false), A (Bo false), A (Bo true), A (Bo true), A (.tup [I a, .sc .nilIface]), A (.tup [I b, .sc .nilIface])])
    (Eq.mp (by kernel_rfl) (And.intro (And.intro (rc317 b hb) (And.intro (rc317 a ha) (And.intro (rc316 b hb) (And.intro (rc316 a ha) (And.intro (gt_len (b := 9) hb (by omega)) (And.intro (gt_len (b := 9) ha (by omega)) trivial)))))) (Eq.refl ((.tup [I a, I b, Bo true] : PV), ([] : List (List PV))))))

theorem rc274 (a b c : Int) (ha : Sm a) (hb : Sm b) (hc : a + b = c) : RC G Tryz.prog 274 .imm [D a, D b] (D c) [] :=
  RC_goP mix (l := []) trivial (r := (c274.ask [18])) (ok274.ask [18]) (ans := [A (.tup [I a, I b, Bo true]), A (I c), A (D c)])
    (Eq.mp (by kernel_rfl) (And.intro (And.intro (rc267 c (by unfold Sm at *; omega)) (And.intro (add_ok hc (by unfold Sm at *; omega) (by unfold Sm at *; omega)) (And.intro (rc266_18 a b ha hb) trivial))) (Eq.refl ((D c : PV), ([] : List (List PV))))))

theorem rc211 (a b c : Int) (ha : Sm a) (hb : Sm b) (hc : a * b = c) (h : Sm c) : RC G Tryz.prog 211 .imm [D a, D b] (D c) [] :=
  RC_goP mix (l := []) trivial (r := (c211.ask [20])) (ok211.ask [20]) (ans := [A (.tup [I a, I b, Bo true]), A (I c), A (D c)])
    (Eq.mp (by kernel_rfl) (And.intro (And.intro (rc267 c (by unfold Sm at *; omega)) (And.intro (mul_ok hc (by unfold Sm at *; omega) (by unfold Sm at *; omega)) (And.intro (rc266_9 a b ha hb) trivial))) (Eq.refl ((D c : PV), ([] : List (List PV))))))

theorem sm1 : Sm 1 := by unfold Sm; omega
theorem sm0 : Sm 0 := by unfold Sm; omega

theorem rc265 (n : Int) (h : Sm n) : RC G Tryz.prog 265 .imm [D n, D 1] (.tup [D n, D 1]) [] :=
  RC_goP mix (l := []) trivial (r := c265) ok265 (ans := [A (D n), A (D 1)])
    (Eq.mp (by kernel_rfl) (And.intro (And.intro (rc275 1 sm1) (And.intro (rc275 n h) trivial)) (Eq.refl ((.tup [D n, D 1] : PV), ([] : List (List PV))))))

theorem rc37 (n : Int) (h : Sm n) : RC G Tryz.prog 37 .imm [I n] (N n) [] :=
  RC_goP mix (l := [(101, c101), (100, c100)]) ⟨ok101, ok100, trivial⟩ (r := c37) ok37 (ans := [A (D n)])
    (Eq.mp (by kernel_rfl) (And.intro (And.intro (rc157 n (by unfold Sm at *; omega)) trivial) (Eq.refl ((N n : PV), ([] : List (List PV))))))

theorem rc215 (a b c : Int) (ha : Sm a) (hb : Sm b) (hc : a + b = c) : RC G Tryz.prog 215 .imm [N a, N b] (N c) [] :=
  RC_goP mix (l := [(209, c209), (100, c100)]) ⟨ok209, ok100, trivial⟩ (r := c215) ok215 (ans := [A (D c)])
    (Eq.mp (by kernel_rfl) (And.intro (And.intro (rc274 a b c ha hb hc) trivial) (Eq.refl ((N c : PV), ([] : List (List PV))))))

theorem rc160 (a b c : Int) (ha : Sm a) (hb : Sm b) (hc : a * b = c) (h : Sm c) : RC G Tryz.prog 160 .imm [N a, N b] (N c) [] :=
  RC_goP mix (l := [(209, c209), (210, c210)]) ⟨ok209, ok210, trivial⟩ (r := c160) ok160 (ans := [A (D c), A (D 1), A (.tup [D c, D 1])])
    (Eq.mp (by kernel_rfl) (And.intro (And.intro (rc265 c h) (And.intro (rc211 1 1 1 sm1 sm1 rfl sm1) (And.intro (rc211 a b c ha hb hc h) trivial))) (Eq.refl ((N c : PV), ([] : List (List PV))))))

theorem gt100 {n : Int} (h : Sm n) : binV .gtr (I (dg n)) (I 100) = some (Bo false) := gt_no (by have := dg_le h; omega)

theorem rc268z : RC G Tryz.prog 268 .imm [D 0] (.agg [Bo false, .lst 1 []]) [] :=
  RC_goP mix (l := [(275, c275), (316, c316), (318, c318), (352, c352), (367, c367), (320, c320)]) ⟨ok275, ok316, ok318, ok352, ok367, ok320, trivial⟩ (r := c268) ok268 (ans := [A (.tup [.sc (.int .u64 0), .sc .nilIface])])
    (Eq.mp (by kernel_rfl) (And.intro (And.intro (rc319 0 (by omega)) trivial) (Eq.refl ((.agg [Bo false, .lst 1 []] : PV), ([] : List (List PV))))))

def zP : PV := .agg [Bo false, .lst 1 []]
def nP (n : Int) : PV := .agg [Bo true, .lst 1 [[U32 n.natAbs]]]
def pP (n : Int) : PV := .agg [Bo false, .lst 1 [[U32 n.natAbs]]]
theorem rc268n (n : Int) (hn : Sm n) (h : n < 0) : RC G Tryz.prog 268 .imm [D n] (nP n) [] := by
  have := rc268 n hn (by omega)
  unfold par at this
  rw [show decide (n < 0) = true by simpa using h] at this
  exact this

theorem rc268p (n : Int) (hn : Sm n) (h : 0 < n) : RC G Tryz.prog 268 .imm [D n] (pP n) [] := by
  have := rc268 n hn (by omega)
  unfold par at this
  rw [show decide (n < 0) = false by simp; omega] at this
  exact this

theorem rc264n (n : Int) (hn : Sm n) (h : n < 0) : RC G Tryz.prog 264 .imm [D n, D 0] (I (-1)) [] :=
  RC_goP mix (l := [(313, c313)]) ⟨ok313, trivial⟩ (r := c264) ok264 (ans := [A (nP n), A (zP)])
    (Eq.mp (by kernel_rfl) (And.intro (And.intro rc268z (And.intro (rc268n n hn h) trivial)) (Eq.refl ((I (-1) : PV), ([] : List (List PV))))))

theorem rc264p (n : Int) (hn : Sm n) (h : 0 < n) : RC G Tryz.prog 264 .imm [D n, D 0] (I 1) [] :=
  RC_goP mix (l := [(313, c313)]) ⟨ok313, trivial⟩ (r := c264) ok264 (ans := [A (pP n), A (zP)])
    (Eq.mp (by kernel_rfl) (And.intro (And.intro rc268z (And.intro (rc268p n hn h) trivial)) (Eq.refl ((I 1 : PV), ([] : List (List PV))))))

theorem rc264z : RC G Tryz.prog 264 .imm [D 0, D 0] (I 0) [] :=
  RC_goP mix (l := [(313, c313)]) ⟨ok313, trivial⟩ (r := c264) ok264 (ans := [A (zP), A (zP)])
    (Eq.mp (by kernel_rfl) (And.intro (And.intro rc268z (And.intro rc268z trivial)) (Eq.refl ((I 0 : PV), ([] : List (List PV))))))

theorem rc264rn (n : Int) (hn : Sm n) (h : n < 0) : RC G Tryz.prog 264 .imm [D 0, D n] (I 1) [] :=
  RC_goP mix (l := [(313, c313)]) ⟨ok313, trivial⟩ (r := c264) ok264 (ans := [A (zP), A (nP n)])
    (Eq.mp (by kernel_rfl) (And.intro (And.intro (rc268n n hn h) (And.intro rc268z trivial)) (Eq.refl ((I 1 : PV), ([] : List (List PV))))))

theorem rc264rp (n : Int) (hn : Sm n) (h : 0 < n) : RC G Tryz.prog 264 .imm [D 0, D n] (I (-1)) [] :=
  RC_goP mix (l := [(313, c313)]) ⟨ok313, trivial⟩ (r := c264) ok264 (ans := [A (zP), A (pP n)])
    (Eq.mp (by kernel_rfl) (And.intro (And.intro (rc268p n hn h) (And.intro rc268z trivial)) (Eq.refl ((I (-1) : PV), ([] : List (List PV))))))

theorem lt_n (n : Int) (hn : Sm n) (h : n < 0) : RC G Tryz.prog 159 .imm [N n, N 0] (Bo true) [] :=
  RC_goP mix (l := [(209, c209), (208, c208)]) ⟨ok209, ok208, trivial⟩ (r := c159) ok159 (ans := [A (I (-1))])
    (Eq.mp (by kernel_rfl) (And.intro (And.intro (rc264n n hn h) trivial) (Eq.refl ((Bo true : PV), ([] : List (List PV))))))

theorem lt_p (n : Int) (hn : Sm n) (h : 0 < n) : RC G Tryz.prog 159 .imm [N n, N 0] (Bo false) [] :=
  RC_goP mix (l := [(209, c209), (208, c208)]) ⟨ok209, ok208, trivial⟩ (r := c159) ok159 (ans := [A (I 1)])
    (Eq.mp (by kernel_rfl) (And.intro (And.intro (rc264p n hn h) trivial) (Eq.refl ((Bo false : PV), ([] : List (List PV))))))

theorem lt_z : RC G Tryz.prog 159 .imm [N 0, N 0] (Bo false) [] :=
  RC_goP mix (l := [(209, c209), (208, c208)]) ⟨ok209, ok208, trivial⟩ (r := c159) ok159 (ans := [A (I 0)])
    (Eq.mp (by kernel_rfl) (And.intro (And.intro rc264z trivial) (Eq.refl ((Bo false : PV), ([] : List (List PV))))))

theorem gt_n (n : Int) (hn : Sm n) (h : n < 0) : RC G Tryz.prog 159 .imm [N 0, N n] (Bo false) [] :=
  RC_goP mix (l := [(209, c209), (208, c208)]) ⟨ok209, ok208, trivial⟩ (r := c159) ok159 (ans := [A (I 1)])
    (Eq.mp (by kernel_rfl) (And.intro (And.intro (rc264rn n hn h) trivial) (Eq.refl ((Bo false : PV), ([] : List (List PV))))))

theorem gt_p (n : Int) (hn : Sm n) (h : 0 < n) : RC G Tryz.prog 159 .imm [N 0, N n] (Bo true) [] :=
  RC_goP mix (l := [(209, c209), (208, c208)]) ⟨ok209, ok208, trivial⟩ (r := c159) ok159 (ans := [A (I (-1))])
    (Eq.mp (by kernel_rfl) (And.intro (And.intro (rc264rp n hn h) trivial) (Eq.refl ((Bo true : PV), ([] : List (List PV))))))

theorem naught_f (n : Int) (hn : Sm n) (h : n ≠ 0) : RC G Tryz.prog 213 .imm [N n] (Bo false) [] :=
  RC_goP mix (l := []) trivial (r := (c213.ask [5])) (ok213.ask [5]) (ans := [A (Bo false)])
    (Eq.mp (by kernel_rfl) (And.intro (And.intro (eql_zero hn h) trivial) (Eq.refl ((Bo false : PV), ([] : List (List PV))))))

theorem naught_t : RC G Tryz.prog 213 .imm [N 0] (Bo true) [] :=
  RC_goP mix (l := []) trivial (r := c213) ok213 (ans := [])
    (Eq.mp (by kernel_rfl) (And.intro trivial (Eq.refl ((Bo true : PV), ([] : List (List PV))))))

theorem zero36 : RC G Tryz.prog 36 .imm [] (N 0) [] :=
  RC_goP mix (l := []) trivial (r := c36) ok36 (ans := [A (N 0)])
    (Eq.mp (by kernel_rfl) (And.intro (And.intro (rc37 0 sm0) trivial) (Eq.refl ((N 0 : PV), ([] : List (List PV))))))

theorem eq_zero_f (n : Int) (hn : Sm n) (h : n ≠ 0) : RC G Tryz.prog 207 .imm [N n, N 0] (Bo false) [] :=
  RC_goP mix (l := []) trivial (r := (c207.ask [17])) (ok207.ask [17]) (ans := [A (Bo true)])
    (Eq.mp (by kernel_rfl) (And.intro (And.intro (neq_zero hn h) trivial) (Eq.refl ((Bo false : PV), ([] : List (List PV))))))

theorem eq_zero_t : RC G Tryz.prog 207 .imm [N 0, N 0] (Bo true) [] :=
  RC_goP mix (l := []) trivial (r := c207) ok207 (ans := [])
    (Eq.mp (by kernel_rfl) (And.intro trivial (Eq.refl ((Bo true : PV), ([] : List (List PV))))))

theorem isZero_f (n : Int) (hn : Sm n) (h : n ≠ 0) : RC G Tryz.prog 158 .imm [N n] (Bo false) [] :=
  RC_goP mix (l := []) trivial (r := c158) ok158 (ans := [A (N 0), A (Bo false)])
    (Eq.mp (by kernel_rfl) (And.intro (And.intro (eq_zero_f n hn h) (And.intro zero36 trivial)) (Eq.refl ((Bo false : PV), ([] : List (List PV))))))

theorem isZero_t : RC G Tryz.prog 158 .imm [N 0] (Bo true) [] :=
  RC_goP mix (l := []) trivial (r := c158) ok158 (ans := [A (N 0), A (Bo true)])
    (Eq.mp (by kernel_rfl) (And.intro (And.intro eq_zero_t (And.intro zero36 trivial)) (Eq.refl ((Bo true : PV), ([] : List (List PV))))))

theorem lowest_t (n : Int) (hn : Sm n) : RC G Tryz.prog 326 .imm [D n, D 1] (Bo true) [] :=
  RC_goP mix (l := []) trivial (r := (c326.ask [18, 23, 33, 37])) (ok326.ask [18, 23, 33, 37]) (ans := [A (Bo true), A (Bo true), A (I (dg n)), A (Bo false), A (I (dg 1)), A (Bo false), A (.tup [D n, D 1]), A (Bo true), A (Bo true)])
    (Eq.mp (by kernel_rfl) (And.intro (And.intro (eql_self ⟨(Lib.itoa 1).toArray⟩) (And.intro (eql_self ⟨(Lib.itoa n).toArray⟩) (And.intro (rc265 n hn) (And.intro (gt100 sm1) (And.intro (rc355 1 sm1) (And.intro (gt100 hn) (And.intro (rc355 n hn) (And.intro (rc316 1 sm1) (And.intro (rc316 n hn) trivial))))))))) (Eq.refl ((Bo true : PV), ([] : List (List PV))))))

theorem valid_t (n : Int) (hn : Sm n) : RC G Tryz.prog 212 .imm [N n] (Bo true) [] :=
  RC_goP mix (l := [(271, c271), (324, c324), (272, c272), (325, c325)]) ⟨ok271, ok324, ok272, ok325, trivial⟩ (r := c212) ok212 (ans := [A (Bo true)])
    (Eq.mp (by kernel_rfl) (And.intro (And.intro (lowest_t n hn) trivial) (Eq.refl ((Bo true : PV), ([] : List (List PV))))))

end Go.Proofs.YthiipifjdfmblaaGreatDoor
/- The reference's integers: what is to be shown by runs. -/
namespace Go.Proofs.YthiipifjdfmblaaGreatDoor
open Go Go.Pf Go.RowKit
set_option maxRecDepth 100000

theorem sml (n : Int) (h1 : decide (-40 ≤ n) = true) (h2 : decide (n ≤ 40) = true) : Sm n := ⟨of_decide_eq_true h1, of_decide_eq_true h2⟩

theorem str_eq {x : ByteArray} {l : List UInt8} (h : (x.data.toList == l) = true) : PV.sc (.string x) = S l := by
  have e := eq_of_beq h
  cases x with
  | mk d => simp only at e; subst e; rfl

def isStrR (n : Int) : Option ((PV × List (List PV)) × List Ob) → Bool
  | some ((.sc (.string x), []), []) => x.data.toList == Lib.itoa n
  | _ => false
theorem isStrR_ok {n : Int} {x : Option ((PV × List (List PV)) × List Ob)} (h : isStrR n x = true) : x = some ((D n, []), []) := by
  unfold isStrR at h
  split at h
  · rw [str_eq h]; rfl
  · cases h
def isPairR (n : Int) : Option ((PV × List (List PV)) × List Ob) → Bool
  | some ((.tup [.sc (.string x), .sc (.string y)], []), []) => x.data.toList == Lib.itoa n && y.data.toList == Lib.itoa 1
  | _ => false
theorem isPairR_ok {n : Int} {x : Option ((PV × List (List PV)) × List Ob)} (h : isPairR n x = true) : x = some ((.tup [D n, D 1], []), []) := by
  unfold isPairR at h
  split at h
  · simp only [Bool.and_eq_true] at h
    rw [str_eq h.1, str_eq h.2]; rfl
  · cases h
def addI : List (Nat × FnR) := [(179, c179), (229, c229), (278, c278), (277, c277), (276, c276), (230, c230), (180, c180)]
noncomputable def addP (a b : Int) : Bool := isStrR (a + b) (go addI c224 .imm [D a, D b] [])
def redI : List (Nat × FnR) := [(179, c179), (229, c229), (219, c219), (220, c220), (276, c276), (277, c277), (230, c230), (180, c180)]
noncomputable def redP (n : Int) : Bool := isPairR n (go redI c170 .imm [D n, D 1] [])
def mulI : List (Nat × FnR) := [(179, c179), (229, c229), (223, c223), (230, c230), (180, c180)]
noncomputable def mulP (a b : Int) : Bool := isStrR (a * b) (go mulI c174 .imm [D a, D b] [])
end Go.Proofs.YthiipifjdfmblaaGreatDoor

/- Contracts of functions of the program that are not followed by the engine: the deferred call, the builder's methods that handle addresses. -/
import Derived.Test.YtlefgpakmgbgaaaGreatDoorFh
import Derived.Test.YtlefgpakmgbgaaaGreatDoorSa
import Derived.Tactics
import Derived.Tactics2
import Derived.WalkKit
import Derived.Test.YtlefgpakmgbgaaaGreatDoorFi
import Derived.Test.YtlefgpakmgbgaaaGreatDoorRows
set_option linter.unusedVariables false
set_option linter.unusedSimpArgs false
set_option linter.unusedSectionVars false
section
namespace Go.Proofs
open Go Go.Hf Go.RowKit Go.Shelf
theorem cat242 : Cat Tryz.prog 242 := by
  intro v w
  refine callsD_of_wpS Tryz.func242 rfl fun c₀ cs hu => ?_
  apply wpS_seq
  apply wpS_region
  simp [wpOpsS, go_sem, recoverD, hu, Tryz.ntmps242, Exit.thenS]
  apply wpS_seq
  apply wpS_seq
  apply wpS_region
  simp [wpOpsS, go_sem, Exit.thenS]
  refine wpS_cond (t := true) (by simp [Act.eval, Array.replicate]) ?_
  simp only [if_true]
  refine wpS_of_wp (wp_ret ?_)
  cases c₀
  simp_all [Exit.thenS, bodyPostS, results, Tryz.results242]
set_option maxHeartbeats 1000000 in
set_option maxRecDepth 100000 in
theorem copyCheck_used (b : Nat) (w : World) (h0 : w.cell? ⟨b, 0, none⟩ = some (.pointer (some ⟨b, 0, none⟩))) :
    Calls Tryz.prog 183 #[.pointer (some ⟨b, 0, none⟩)] w fun e w' => e = .returned (.tuple #[]) ∧ w' = w := by
  obtain ⟨j, hj, _⟩ : ∃ j, Tryz.prog.info? 191 = some j ∧ j.size = 2 := Option.map_eq_some_iff.1 (by kernel_rfl : (Tryz.prog.info? 191).map (·.size) = some 2)
  go_enter Tryz.func183, Tryz.ntmps183
  go_wp2
  rw [Lib.run_neq_ptr_same w _ Tryz.underlying189 hj]
  go_wp2
  go_end0
  exact ⟨rfl, rfl⟩
set_option maxHeartbeats 1000000 in
set_option maxRecDepth 100000 in
theorem copyCheck_fresh (b : Nat) (w : World) (h0 : w.cell? ⟨b, 0, none⟩ = some (.pointer none)) (hsh : w.shape? b = some (191, 2)) (hfz : w.frozen? ⟨b, 0, none⟩ = false) :
    Calls Tryz.prog 183 #[.pointer (some ⟨b, 0, none⟩)] w fun e w' => e = .returned (.tuple #[]) ∧ w' = w.setCell ⟨b, 0, none⟩ (.pointer (some ⟨b, 0, none⟩)) := by
  obtain ⟨j, hj, hjs⟩ : ∃ j, Tryz.prog.info? 191 = some j ∧ j.size = 2 := Option.map_eq_some_iff.1 (by kernel_rfl : (Tryz.prog.info? 191).map (·.size) = some 2)
  have hlies : liesAt Tryz.prog Tryz.prog.depth 191 (2 / Tryz.prog.cellsOf 191) 0 191 1 = true := by kernel_rfl
  go_enter Tryz.func183, Tryz.ntmps183
  go_wp2
  rw [Lib.run_to_unsafe w ⟨b, 0, none⟩ Tryz.underlying189 Tryz.underlying307 hj (by rw [hjs]; decide) hsh (Nat.zero_lt_succ 1)]
  simp only [Result.andThen]
  rw [Oper.upon_value]
  go_wp2
  rw [run_callFunc_extern Tryz.func251 (by kernel_rfl) (by kernel_rfl) (by kernel_rfl) (e := Extern.AbiNoEscape.same) (by kernel_rfl)]
  rw [Lib.run_noEscape]
  simp only [Result.andThen]
  rw [Oper.upon_value]
  go_wp2
  rw [Lib.run_from_unsafe w ⟨b, 0, none⟩ Tryz.underlying307 Tryz.underlying189 hj hsh hlies]
  simp only [Result.andThen]
  rw [Oper.upon_value]
  go_wp2
  go_end0
  exact ⟨rfl, rfl⟩
set_option maxHeartbeats 1000000 in
set_option maxRecDepth 100000 in
theorem string_exact (b r cap : Nat) (p : Value) (cur : Array Value) (T : TypeId) (l : List UInt8) (w : World) (h0 : l ≠ []) (hbk : w.heap[b]? = some (.cells #[p, .slice (some ⟨r, 0, none⟩) l.length cap] T (0, 0)))
    (hg : w.heap[r]? = some (.cells cur 5 (0, 0))) (hnc : l.length ≤ cap) (hcm : cap ≤ maxLen) (hcs : cur.size = cap) (hcell : ∀ (j : Nat) (x : UInt8), l[j]? = some x → cur[j]? = some (.int .u8 x.toNat)) :
    Calls Tryz.prog 129 #[.pointer (some ⟨b, 0, none⟩)] w fun e w' => e = .returned (.string ⟨l.toArray⟩) ∧ w' = w.drew.freeze ⟨r, 0, none⟩ l.length := by
  have L := Tryz.lays169
  have X := Tryz.Builder_Extra_169
  have hl0 : l.length ≠ 0 := by simpa using h0
  have c1 : w.drew.cell? ⟨b, 1, none⟩ = some (.slice (some ⟨r, 0, none⟩) l.length cap) := by
    have : w.drew.heap[b]? = some (.cells #[p, .slice (some ⟨r, 0, none⟩) l.length cap] T (0, 0)) := hbk
    rw [Lib.cell_of_heap this]; rfl
  have hSD : (Builtin.unsafeSliceData_ #[22] 254 #[.slice (some ⟨r, 0, none⟩) l.length cap]).run Tryz.prog w.drew = .ok (.pointer (some ⟨r, 0, none⟩)) w.drew :=
    Lib.run_unsafeSliceData_row _ _ _ _ _ _ (by omega)
  have hUS : (Builtin.unsafeString_ #[254, 3] 9 #[.pointer (some ⟨r, 0, none⟩), .int .i64 l.length]).run Tryz.prog w.drew = .ok (.string ⟨l.toArray⟩) (w.drew.freeze ⟨r, 0, none⟩ l.length) := by
    refine Lib.run_unsafeString_row w.drew 254 3 9 5 L.t127 X.cellsByte r cur.size (by have hg' : w.drew.heap[r]? = some (.cells cur 5 (0, 0)) := hg; simp [World.shape?, hg']) l h0 (by omega) (by unfold maxLen at hcm; omega) ?_
    intro j x hx
    have hg' : w.drew.heap[r]? = some (.cells cur 5 (0, 0)) := hg
    have := hcell j x hx
    have e : (⟨r, 0, none⟩ : Addr).add j = ⟨r, j, none⟩ := by unfold Addr.add; split <;> simp_all
    rw [e]
    simp only [World.cell?, hg']
    simpa using this
  have mixed : Tryz.prog.follows .mixedOrders = true := by kernel_rfl
  clear L X hcell hbk hg
  go_enter Tryz.func129, Tryz.ntmps129
  go_wp2
  go_region
  all_goals (go_wp2; go_ret; exact ⟨rfl, rfl⟩)
end Go.Proofs
end
section
namespace Go.Proofs
open Go Go.Hf Go.RowKit Go.Shelf
def Fct (w : World) : Prop :=
  Lib.TabIs Tryz.prog w "strings.asciiSpace" .u8 Lib.asciiSpaceTab ∧ Lib.TabIs Tryz.prog w tabName .u64 Lib.pow10Tab ∧ (∃ T, Lib.PrintTabsAt 5 6 7 8 T w) ∧ Lib.Utf8Tabs 3 4 w
def G9 : Gl := keptG Fct
section
variable [Tok]
theorem TabSlice_kept {w w0 : World} {c0 c : Nat → Nat} (h : Kept0 w0 c0 c w) {g : Nat} {k : IntKind} {t : List Nat} (h1 : Lib.TabSlice g k t w0) : Lib.TabSlice g k t w := by
  obtain ⟨R, o, cc, h2, h3⟩ := h1
  exact ⟨R, o, cc, kept_cell h h2, fun j hj => kept_cell h (h3 j hj)⟩
theorem PrintTabs_kept {w w0 : World} {c0 c : Nat → Nat} (h : Kept0 w0 c0 c w) {a b d e : Nat} {T : Lib.PrintTabs} (h1 : Lib.PrintTabsAt a b d e T w0) : Lib.PrintTabsAt a b d e T w :=
  ⟨TabSlice_kept h h1.1, TabSlice_kept h h1.2.1, TabSlice_kept h h1.2.2.1, TabSlice_kept h h1.2.2.2.1, h1.2.2.2.2⟩
theorem Utf8_kept {w w0 : World} {c0 c : Nat → Nat} (h : Kept0 w0 c0 c w) {a b : Nat} (h1 : Lib.Utf8Tabs a b w0) : Lib.Utf8Tabs a b w :=
  ⟨fun i hi => kept_cell h (h1.1 i hi), fun i hi => ⟨kept_cell h (h1.2 i hi).1, kept_cell h (h1.2 i hi).2⟩⟩
theorem G9_facts {c : Nat → Nat} {w : World} (h : G9.p c w) : Fct w := by
  obtain ⟨w0, c0, ⟨h1, h2, ⟨T, h3⟩, h4⟩, hk⟩ := h
  exact ⟨TabIs_kept hk h1, TabIs_kept hk h2, ⟨T, PrintTabs_kept hk h3⟩, Utf8_kept hk h4⟩
theorem ent {f : Nat} {fn : Func} (h : Tryz.prog.funcs[f]? = some fn) (h2 : (fn.name == "runtime.NumGoroutine") = false) (h3 : fn.body.isNone = false) : Hf.Enters Tryz.prog f := ⟨fn, h, h2, h3⟩
theorem ok603 : BodyOk G9 Tryz.prog 603 gIdx := gIdx_ok (ent Tryz.func603 (by kernel_rfl) (by kernel_rfl)) Tryz.stringslite_IndexByte
theorem ok511 : BodyOk G9 Tryz.prog 511 gCnt := gCnt_ok (ent Tryz.func511 (by kernel_rfl) (by kernel_rfl)) Tryz.strings_Count_one
theorem ok344 : BodyOk G9 Tryz.prog 344 (gStr Lib.trimSpace asciiB) := gStr_ok (ent Tryz.func344 (by kernel_rfl) (by kernel_rfl)) fun s c w hp hs ha => by
  refine (Tryz.strings_TrimSpace s w (by omega) (asciiB_ok ha) (G9_facts hp).1).mono ?_
  rintro e w' ⟨rfl, rfl⟩
  exact ⟨rfl, ⟨rfl, rfl, rfl, by rw [Lib.bytesWorld_size]; omega, fun j hj => Lib.bytesWorld_at_old w 5 s j hj⟩⟩
theorem ok180 : BodyOk G9 Tryz.prog 180 gFld := gFld_ok (ent Tryz.func180 (by kernel_rfl) (by kernel_rfl)) fun s c w hp hs ha => Tryz.strings_Fields s w hs ha (G9_facts hp).1
theorem ok250 : BodyOk G9 Tryz.prog 250 (gStr quoteL plainB) := gStr_ok (ent Tryz.func250 (by kernel_rfl) (by kernel_rfl)) fun s c w hp hs ha => by
  obtain ⟨T, hT⟩ := (G9_facts hp).2.2.1
  refine (Tryz.strconv_Quote T s w (by omega) hT (G9_facts hp).2.2.2).mono ?_
  rintro e w' ⟨rfl, hB⟩
  refine ⟨?_, hB⟩
  have := quote_plain T s.data.toList ha
  have e1 : (⟨s.data.toList.toArray⟩ : ByteArray) = s := by cases s; simp
  rw [e1] at this
  rw [this]
theorem keeps_grow (w : World) (k : Nat) (os : Array Go.Obj) : Below w.heap.size w (Sort.grow (w.drewN k) os) := by
  have hd : Below w.heap.size w (w.drewN k) := by
    unfold World.drewN
    exact ⟨rfl, rfl, rfl, Nat.le_refl _, fun _ _ => rfl⟩
  refine hd.trans ⟨rfl, rfl, rfl, by simp [Sort.grow], fun b hb => ?_⟩
  simp only [Sort.grow]
  rw [Array.getElem?_append_left (by simpa using hb)]
theorem ok210 : BodyOk G9 Tryz.prog 210 (gItoa Lib.itoa) := gItoa_ok (ent Tryz.func210 (by kernel_rfl) (by kernel_rfl)) fun n c w hp h1 h2 => by
  refine (Tryz.strconv_Itoa n h1 h2 w (G9_facts hp).2.1).mono ?_
  rintro e w' ⟨rfl, k, os, rfl⟩
  exact ⟨rfl, keeps_grow w k os⟩
theorem ok183 : BodyOk G9 Tryz.prog 183 (gCopy 191) := gCopy_ok (ent Tryz.func183 (by kernel_rfl) (by kernel_rfl)) copyCheck_used copyCheck_fresh
theorem ok129 : BodyOk G9 Tryz.prog 129 (gString 5) := gString_ok (ent Tryz.func129 (by kernel_rfl) (by kernel_rfl)) string_exact
end
end Go.Proofs
end

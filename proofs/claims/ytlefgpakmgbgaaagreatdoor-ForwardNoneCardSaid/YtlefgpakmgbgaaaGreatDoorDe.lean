/- The law holds of all codes. -/
import Derived.Test.YtlefgpakmgbgaaaGreatDoorDd
set_option linter.unusedVariables false
set_option linter.unusedSimpArgs false
set_option linter.unusedSectionVars false
set_option maxRecDepth 100000
namespace Go.Hf
open Go.Proofs Go.RowKit
theorem okB_ok {a : Ans} (h : okB a = true) : ∃ s d, a = .ok (.b true) 0 s d := by
  unfold okB at h
  split at h
  · exact ⟨_, _, rfl⟩
  · cases h
theorem law3_aux {BX : XV} {cs : List Nat} (hB : Codes BX cs) (hc : ∀ c ∈ cs, c < 256) (hz : cs.length ≤ 100) (hfB : flat (@dec tok0 BX) = true) (ini : Option (Option Nat)) (arg : XV) (C : Nat → PV) (hC : ∀ i, flat (C i) = true)
    (hst : Start (@dec tok0 BX) C (.sc (.int .i64 0)) ini) (hdec : ∀ t : Tok, (∀ i, t.τ (1000000 + i) = C i) → @dec t arg = @dec tok0 BX)
    (hck : chk (kn (k9 :: L10)) (leaf3 ini arg) t3 [] = true) : RC G9 Tryz.prog 3 [@dec tok0 BX] (.sc (.bool true)) := by
  obtain ⟨σ, A, t, hF, hl, hA0, hs⟩ := tree_ok (kn_ok hB hc hz (drawAll hB hc hz hfB)) t3 [] (fun _ => .sc (.int .i64 0)) (fun _ _ => nils) hck ⟨fun _ => ⟨0, Nat.zero_le _, rfl⟩, fun _ _ => rfl, fun j sc h => by simp at h⟩ (fun sc h => by cases h)
  have hA0 : A 0 = .sc (.int .i64 0) := hA0
  unfold leaf3 at hl
  rw [an_eq', Bool.and_eq_true] at hl
  have hlen : σ.length ≤ 1000 := Nat.le_of_ble_eq_true hl.1
  obtain ⟨s, d, hr⟩ := okB_ok hl.2
  let tk : Tok := tokI (@dec tok0 BX) WP C A t hfB WP_flat hC (fun j => (hF.pos j).flat) hF.flat
  have h61 : tk.τ 61 = WP := tokOf_61 _ WP C A t
  have hu : @CallOk tk G9 Tryz.prog (uS 15 65565 ini T3 1000 σ gAr) := @uS_ok 15 65565 G9 Tryz.prog tk ini T3 1000 σ gAr (@T3_ok tk h61) (@gAr_ok tk h61) (fun f => gD_ok hfB WP_flat hC hF (by rw [hA0]; exact hst) hlen hs f)
  have hHC := ((@Ck0.ok3 tk G9) _ hu _ _ _ _ _ _ _ hr).1
  have e1 : ([arg]).map (@dec tk) = [@dec tok0 BX] := by
    rw [List.map_cons, List.map_nil, hdec tk (fun i => tokOf_c _ WP C A t i)]
  have e2 : @dec tk (.b true) = .sc (.bool true) := by simp only [dec]
  rw [e1, e2, @dobX_zero tk, @dobX_zero tk] at hHC
  exact ⟨hHC, rfl⟩
theorem ctoks_dec (t : Tok) (C : Nat → PV) (h : ∀ i, t.τ (1000000 + i) = C i) : ∀ L, @decLL t (ctoks L) = (List.range L).map fun i => [C i]
  | 0 => by simp [ctoks, decLL]
  | L + 1 => by
    have ih := ctoks_dec t C h L
    rw [@decLL_map t] at ih ⊢
    rw [ctoks, List.map_append, ih, List.range_succ, List.map_append]
    simp only [List.map_cons, List.map_nil, decL, dec, h]
theorem law3_small {BX : XV} {cs : List Nat} (hB : Codes BX cs) (hz : cs.length ≤ 100) : RC G9 Tryz.prog 3 [@dec tok0 BX] (.sc (.bool true)) := by
  cases hB with
  | nil => exact law3_aux .nil (fun c h => by cases h) hz rfl (some none) .nl (fun _ => nils) (fun _ => rfl) ⟨by simp only [dec], rfl⟩ (fun t _ => by simp only [dec]) c3n
  | lst cs hc =>
    refine law3_aux (.lst cs hc) hc hz (by simp only [dec]; rfl) (some (some cs.length)) (.lst 1 (ctoks cs.length)) (fun i => .sc (.int .u8 ((cs[i]?.getD 0 : Nat) : Int))) (fun _ => rfl) ⟨?_, rfl⟩ (fun t ht => ?_) (allN_ok c3l _ (by omega))
    · have e : ∀ t : Tok, @decLL t (cs.map fun c => [XV.i .u8 (Nat.add o64 c)]) = (List.range cs.length).map fun i => [PV.sc (.int .u8 ((cs[i]?.getD 0 : Nat) : Int))] := by
        intro t
        rw [@decLL_map t, List.map_map]
        apply List.ext_getElem
        · simp
        · intro i h1 h2
          have hi : i < cs.length := by simpa using h1
          simp [hi, decL, dec]
          exact intOf_o64 _
      simp only [dec, e]
    · have e : ∀ t : Tok, @decLL t (cs.map fun c => [XV.i .u8 (Nat.add o64 c)]) = (List.range cs.length).map fun i => [PV.sc (.int .u8 ((cs[i]?.getD 0 : Nat) : Int))] := by
        intro t
        rw [@decLL_map t, List.map_map]
        apply List.ext_getElem
        · simp
        · intro i h1 h2
          have hi : i < cs.length := by simpa using h1
          simp [hi, decL, dec]
          exact intOf_o64 _
      simp only [dec, e, ctoks_dec t _ ht]
theorem x1 (u : Fn) (arg : XV) : b3 u [arg] 0 .nil = b3_5 u 0 arg (hs0 0 .nil) := rfl
theorem x2 (T : DT) (F : KX) (h : HS) : kGo (tab (ovr 4 (gConst (.b true)) T) 1000) 0 none 4 [] [] h F = F (.b true) h := rfl
theorem x3 (F : XV → Ans) : kNot (.b true) F = F (.b false) := rfl
theorem x4 (sz : Nat) (es : List (List XV)) (F : XV → Ans) : kLen false (.lst sz es) F = F (.i .i64 (Nat.add 18446744073709551616 es.length)) := by
  have e : kLen false (.lst sz es) F = frc (Nat.add 18446744073709551616 (lenL es)) fun n => F (.i .i64 n) := rfl
  letI := tok0
  rw [e, frcE, lenL_eq]
theorem x5 (a b : Nat) (F : XV → Ans) : kGtr (.i .i64 a) (.i .i64 b) F = F (.b (Nat.ble (Nat.succ b) a)) := by
  unfold kGtr kCmp
  rw [onI_i, onI_i, eqK64, bo_t]
theorem x6 (x y : Ans) : cnd (.b true) x y = x := rfl
theorem x7 : r3 0 tt (hs0 0 .nil) = .ok (.b true) 0 .nil [] := rfl
theorem x8 (es : List (List XV)) (h : 100 < es.length) : b3 (tab T3 1000) [.lst 1 es] 0 .nil = .ok (.b true) 0 .nil [] := by
  have hb : Nat.ble (Nat.succ 18446744073709551716) (Nat.add 18446744073709551616 es.length) = true := Nat.ble_eq_true_of_le (by simp only [Nat.add_eq]; omega)
  rw [x1]
  unfold b3_5
  rw [join_eq, T3, x2, x3, cnd_f]
  unfold b3_4
  rw [join_eq, x4, n100, x5, hb, x6, x7]
theorem law3 {BX : XV} {cs : List Nat} (hB : Codes BX cs) : RC G9 Tryz.prog 3 [@dec tok0 BX] (.sc (.bool true)) := by
  by_cases hz : cs.length ≤ 100
  · exact law3_small hB hz
  · cases hB with
    | nil => exact absurd (Nat.zero_le _) hz
    | lst cs hc =>
      let t : Tok := ⟨fun i => if i = 61 then WP else nils, fun i => by
        show flat (if i = 61 then WP else nils) = true
        split
        · exact WP_flat
        · rfl⟩
      have h61 : t.τ 61 = WP := rfl
      have hr := x8 (cs.map fun c => [XV.i .u8 (Nat.add o64 c)]) (by simpa using hz)
      have hHC := ((@Ck0.ok3 t G9) _ (@tab_ok t _ _ _ (@T3_ok t h61) 1000) _ _ _ _ _ _ _ hr).1
      rw [@dobX_zero t] at hHC
      have e : @dec t (.lst 1 (cs.map fun c => [XV.i .u8 (Nat.add o64 c)])) = @dec tok0 (.lst 1 (cs.map fun c => [XV.i .u8 (Nat.add o64 c)])) := by
        have e2 : ∀ t : Tok, @dec t (.lst 1 (cs.map fun c => [XV.i .u8 (Nat.add o64 c)])) = .lst 1 (cs.map fun c => [PV.sc (.int .u8 (intOf (Nat.add o64 c)))]) := by
          intro t
          simp only [dec, decLL_map, List.map_map]
          congr 1
        rw [e2, e2]
      have e3 : @dec t (.b true) = .sc (.bool true) := by simp only [dec]
      rw [List.map_cons, List.map_nil, e, e3] at hHC
      exact ⟨hHC, rfl⟩
end Go.Hf

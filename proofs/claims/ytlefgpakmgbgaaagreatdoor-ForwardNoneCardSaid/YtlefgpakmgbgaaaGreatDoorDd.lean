/- The law itself, with tokens for what is drawn. -/
import Derived.Test.YtlefgpakmgbgaaaGreatDoorDb
import Derived.Test.YtlefgpakmgbgaaaGreatDoorRp
import Derived.Test.YtlefgpakmgbgaaaGreatDoorR4
import Derived.Test.YtlefgpakmgbgaaaGreatDoorRc
set_option linter.unusedVariables false
set_option linter.unusedSimpArgs false
set_option linter.unusedSectionVars false
set_option maxRecDepth 1000000
namespace Go.Hf
open Go.Proofs Go.RowKit
mutual
def noTok : XV → Bool
  | .agg cs => noTokL cs
  | .tup cs => noTokL cs
  | .lst _ es => noTokLL es
  | .eptr cs _ => noTokL cs
  | .clo _ cs => noTokL cs
  | .tok _ => false
  | _ => true
def noTokL : List XV → Bool
  | [] => true
  | x :: r => noTok x && noTokL r
def noTokLL : List (List XV) → Bool
  | [] => true
  | x :: r => noTokL x && noTokLL r
end
mutual
theorem dec_noTok (t1 t2 : Tok) : ∀ x, noTok x = true → @dec t1 x = @dec t2 x
  | .agg cs, h => by simp only [noTok] at h; simp only [dec, decL_noTok t1 t2 cs h]
  | .tup cs, h => by simp only [noTok] at h; simp only [dec, decL_noTok t1 t2 cs h]
  | .lst _ es, h => by simp only [noTok] at h; simp only [dec, decLL_noTok t1 t2 es h]
  | .eptr cs _, h => by simp only [noTok] at h; simp only [dec, decL_noTok t1 t2 cs h]
  | .clo _ cs, h => by simp only [noTok] at h; simp only [dec, decL_noTok t1 t2 cs h]
  | .tok _, h => by simp [noTok] at h
  | .undef, _ => by simp only [dec]
  | .b _, _ => by simp only [dec]
  | .i _ _, _ => by simp only [dec]
  | .s _ _, _ => by simp only [dec]
  | .nl, _ => by simp only [dec]
  | .sc _, _ => by simp only [dec]
  | .bptr _ _ _, _ => by simp only [dec]
  | .bld _ _ _ _, _ => by simp only [dec]
  | .kptr _ _ _ _, _ => by simp only [dec]
  | .mref _ _, _ => by simp only [dec]
theorem decL_noTok (t1 t2 : Tok) : ∀ x, noTokL x = true → @decL t1 x = @decL t2 x
  | [], _ => by simp only [decL]
  | x :: r, h => by
    simp only [noTokL, Bool.and_eq_true] at h
    simp only [decL, dec_noTok t1 t2 x h.1, decL_noTok t1 t2 r h.2]
theorem decLL_noTok (t1 t2 : Tok) : ∀ x, noTokLL x = true → @decLL t1 x = @decLL t2 x
  | [], _ => by simp only [decLL]
  | x :: r, h => by
    simp only [noTokLL, Bool.and_eq_true] at h
    simp only [decLL, decL_noTok t1 t2 x h.1, decLL_noTok t1 t2 r h.2]
end
theorem W0_noTok : noTok W0 = true := by kernel_rfl
theorem W0_dec (t : Tok) : @dec t W0 = WP := dec_noTok t tok0 W0 W0_noTok
theorem HC_known [Tok] {P : Program} {gl : Gl} {f : Nat} {args : List PV} {res : PV} (h : RC gl P f args res) (ha : ∀ p ∈ args, p.keys = [] ∧ p ≠ .undef) (ob : Nat → Obj) : HC gl P f args ob res ob :=
  HC_of_RC h ha ob fun _ _ p _ hp hX => XR_flat (ha p hp).1 hX
theorem flat_ok {p : PV} (h : flat p = true) : p.keys = [] ∧ p ≠ .undef := ⟨(flat_keys' h).1, fun e => by rw [e] at h; cases h⟩
theorem rc8 (X Y : PV) (hX : flat X = true) (hY : flat Y = true) : RC G9 Tryz.prog 8 [WP, nils, X, Y] nils := by
  let t2 : Tok := ⟨fun i => if i = 1 then X else if i = 2 then Y else nils, fun i => by
        show flat (if i = 1 then X else if i = 2 then Y else nils) = true
        split
        · exact hX
        · split
          · exact hY
          · rfl⟩
  have h := @run_RC t2 _ _ _ (@TB_ok t2) _ _ _ _ run8
  have e1 : @dec t2 (.tok 1) = X := by simp only [dec]; rfl
  have e2 : @dec t2 (.tok 2) = Y := by simp only [dec]; rfl
  have e3 : @dec t2 .nl = nils := by simp only [dec]
  simp only [List.map_cons, List.map_nil, W0_dec] at h
  rw [e1, e2, e3] at h
  exact h
noncomputable def gw5 : Bd := fun _ l b segs => match l with | [.i .u32 18446744073709551616] => .ok (.tok 61) b segs [] | _ => .no
noncomputable def gw18 : Bd := fun _ l b segs => match l with | [.tok 61] => .ok (.b true) b segs [] | _ => .no
noncomputable def gw8 : Bd := fun _ l b segs => match l with | [.tok 61, .nl, x, y] => bo (an (flatX x) (flatX y)) (.ok .nl b segs []) .no | _ => .no
section
variable [Tok]
theorem gw5_ok (h61 : Tok.τ 61 = WP) : BodyOk G9 Tryz.prog 5 gw5 := by
  intro u _ args b segs res ub' segs' dirty h
  unfold gw5 at h
  split at h
  · simp only [Ans.ok.injEq] at h
    obtain ⟨rfl, rfl, rfl, rfl⟩ := h
    have hR : RC G9 Tryz.prog 5 [@dec tok0 (.i .u32 18446744073709551616)] WP := by
      letI := tok0
      exact run_RC TB_ok run5
    have e : ([XV.i .u32 18446744073709551616]).map dec = [@dec tok0 (.i .u32 18446744073709551616)] := by simp only [List.map_cons, List.map_nil, dec]
    have e2 : dec (XV.tok 61) = WP := by simp only [dec, h61]
    rw [e, e2]
    refine ⟨HC_known hR (fun p hp => ?_) _, fun _ _ _ => rfl, fun k hk => ?_⟩
    · rw [List.mem_singleton.1 hp]; exact ⟨by simp [dec, PV.keys, PV.keysA, PV.key, PV.key0], by simp [dec]⟩
    · simp [XV.keys, XV.keysA, XV.key, XV.key0] at hk
  · cases h
theorem gw18_ok (h61 : Tok.τ 61 = WP) : BodyOk G9 Tryz.prog 18 gw18 := by
  intro u _ args b segs res ub' segs' dirty h
  unfold gw18 at h
  split at h
  · simp only [Ans.ok.injEq] at h
    obtain ⟨rfl, rfl, rfl, rfl⟩ := h
    have hR : RC G9 Tryz.prog 18 [WP] (@dec tok0 (.b true)) := by
      letI := tok0
      exact run_RC TB_ok run18
    have e : ([XV.tok 61]).map dec = [WP] := by simp only [List.map_cons, List.map_nil, dec, h61]
    rw [e]
    refine ⟨HC_known (by simpa only [dec] using hR) (fun p hp => ?_) _, fun _ _ _ => rfl, fun k hk => ?_⟩
    · rw [List.mem_singleton.1 hp]; exact flat_ok WP_flat
    · simp [XV.keys, XV.keysA, XV.key, XV.key0] at hk
  · cases h
theorem gw8_ok (h61 : Tok.τ 61 = WP) : BodyOk G9 Tryz.prog 8 gw8 := by
  intro u _ args b segs res ub' segs' dirty h
  unfold gw8 at h
  split at h
  · rename_i x y
    obtain ⟨h1, h⟩ := bo_ok h
    rw [an_eq, Bool.and_eq_true] at h1
    simp only [Ans.ok.injEq] at h
    obtain ⟨rfl, rfl, rfl, rfl⟩ := h
    have hx := flatX_ok h1.1
    have hy := flatX_ok h1.2
    have hR : RC G9 Tryz.prog 8 [WP, nils, dec x, dec y] nils := rc8 _ _ hx hy
    have e : ([XV.tok 61, .nl, x, y]).map dec = [WP, nils, dec x, dec y] := by
      simp only [List.map_cons, List.map_nil]
      simp only [dec, h61]
    rw [e]
    refine ⟨HC_known hR (fun p hp => ?_) _, fun _ _ _ => rfl, fun k hk => ?_⟩
    · simp only [List.mem_cons, List.not_mem_nil, or_false] at hp
      rcases hp with rfl | rfl | rfl | rfl
      · exact flat_ok WP_flat
      · exact flat_ok rfl
      · exact flat_ok hx
      · exact flat_ok hy
    · simp [XV.keys, XV.keysA, XV.key, XV.key0] at hk
  · cases h
end
noncomputable def T3 : DT := ovr 4 (gConst (.b true)) (ovr 5 gw5 (ovr 18 gw18 (ovr 8 gw8 TB)))
theorem T3_ok [Tok] (h61 : Tok.τ 61 = WP) : AllOk G9 Tryz.prog T3 := by
  have h8 : AllOk G9 Tryz.prog (ovr 8 gw8 TB) := ⟨TB_ok, gw8_ok h61, TB_ok⟩
  have h18 : AllOk G9 Tryz.prog (ovr 18 gw18 (ovr 8 gw8 TB)) := ⟨h8, gw18_ok h61, h8⟩
  have h5 : AllOk G9 Tryz.prog (ovr 5 gw5 (ovr 18 gw18 (ovr 8 gw8 TB))) := ⟨h18, gw5_ok h61, h18⟩
  exact ⟨h5, gConst_ok (run_RC TC_ok run4), h5⟩
def okB : Ans → Bool
  | .ok (.b true) 0 _ _ => true
  | _ => false
noncomputable def leaf3 (ini : Option (Option Nat)) (arg : XV) (σ : List Sc) : Bool := an (Nat.ble σ.length 1000) (okB (b3 (uS 15 65565 ini T3 1000 σ gAr) [arg] 0 .nil))
def t3 : Dr := .ask 7 [wk, i6 3, i6 1] (.lst 10293 48 12288) fun _ => .ask 9 [wk] (.one .t) fun _ => .ask 9 [wk] (.one .t) fun _ => .done
theorem c3n : chk (kn (k9 :: L10)) (leaf3 (some none) .nl) t3 [] = true := by kernel_rfl
theorem c3l : allN 101 (fun L => chk (kn (k9 :: L10)) (leaf3 (some (some L)) (.lst 1 (ctoks L))) t3 []) = true := by kernel_rfl
end Go.Hf

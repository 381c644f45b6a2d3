/- For every input the law LinearChains returns true, and leaves its arguments as they were: the statement LinearChainsCardSaid. Its conditions are those of the given card: the listed package variables hold what the program's text lays. -/
import Derived.Test.YthiipifjdfmblaaGreatDoorTp
import Derived.Test.YthiipifjdfmblaaGreatDoorFx
import Derived.Test.YthiipifjdfmblaaGreatDoorCards
import Derived.Test.YthiipifjdfmblaaGreatDoorTie
import Derived.ProofKit
import Derived.LaidMore
import Derived.OpenShut
import Derived.Stop.Joined
import Derived.Below
import Derived.ChangeSame
import Derived.SevenTiedAt
import Derived.Lib.LaidTab
set_option linter.unusedVariables false
set_option linter.unusedSimpArgs false
namespace Go.Proofs.YthiipifjdfmblaaGreatDoor
open Go Go.Pf Go.ChangeShapes Go.WideShapes Go.ChangeAt Go.WideMaps Go.WideElems Go.RowKit

set_option maxRecDepth 100000

theorem own : ownKnob Tryz.prog.godebug = none := by kernel_rfl
theorem gTab : Tryz.prog.globalNamed tabName = some 0 := by kernel_rfl
theorem gTabType : (Tryz.prog.globals[0]?).map (·.type) = some 372 := by kernel_rfl

section
variable {H : Type} {enc : TypeId × Value → H} {P : Program}
theorem post_of_below {f : Func} {s : ChangeSpec} {apart fresh handsOn again : Bool} {W W' : World} {args : Array Value} {v : Value} {ds gs : List (DataW H)} {before pa pv : List MemPlace}
    (hW : DataW.Whole enc P f.params.toList s.vars apart W args.toList ds gs before)
    (hres : ∀ (b : Nat) (sp : Nat → Bool) (hd : Bool), DataW.TrodAll enc P W' b sp hd f.resultTypes.toList (v.resultList f.resultTypes.size) (s.fn H (ds ++ gs)).results [])
    (hargs : ∀ sp : Nat → Bool, (∀ p ∈ before, sp p.block = true) → DataW.TrodAll enc P W' 0 sp true f.params.toList args.toList (s.fn H (ds ++ gs)).args pa)
    (hvars : ∀ sp : Nat → Bool, (∀ p ∈ before, sp p.block = true) → DataW.TrodVars enc P W' sp s.vars (s.fn H (ds ++ gs)).vars pv)
    (hps : before = pa ++ pv) (hb : Below W.heap.size W W')
    (hok : ∀ (j : Nat) (t : TypeId) (r : Value), f.resultTypes[j]? = some t → (v.resultList f.resultTypes.size)[j]? = some r → Value.okWide P W' .any 0 t r) :
    s.post enc P f apart fresh handsOn again W args v W' := by
  have hlt : ∀ p ∈ before, p.block < W.heap.size := fun p hp => hW.lt p hp
  have hold : ∀ p ∈ before, (fun b => decide (b < W.heap.size)) p.block = true := fun p hp => by simpa using hlt p hp
  refine ⟨ds, gs, before, [], pa, pv, hW, hres _ _ _, hargs _ hold, hvars _ hold, World.keptBut_mono (fun p hp => ⟨hp, ?_⟩) (hb.frame (· ∈ before)), fun _ => ?_⟩
  · rw [hps, List.mem_append] at hp
    exact Or.inr hp
  · obtain ⟨_, _, _, _, _, hz, hn⟩ := hW
    refine ⟨hok, _, _, ([] ++ pa) ++ pv, ⟨[] ++ pa, pv, trodAll_append (hargs _ (fun _ _ => rfl)) (hres _ _ _), hvars _ (fun _ _ => rfl), rfl, ?_, ?_⟩, ?_⟩
    · intro b off hp
      have hin : MemPlace.cell b off ∈ before := by rw [hps]; simpa using hp
      rw [hb.frozen (hlt _ hin)]
      exact hz b off hin
    · intro ha
      have := hn ha
      rw [hps] at this
      simpa using this
    · intro p hp _
      rw [hps]
      simpa using hp
end

theorem cellsTab : Tryz.prog.cellsOf 372 = 20 := by kernel_rfl
theorem cellsU64 : Tryz.prog.cellsOf 78 = 1 := by kernel_rfl
theorem cellsU8 : Tryz.prog.cellsOf 5 = 1 := by kernel_rfl

/-- The table of the powers of ten. -/
theorem table {W : World} (h : laidMetH Tryz.prog Rows.linearChainsRow.laid W) : Lib.TabIs Tryz.prog W tabName .u64 Lib.pow10Tab := by
  rw [MakeChecks.laidMetH_plain _ _ _ (by kernel_rfl)] at h
  obtain ⟨ps, ⟨g0, t0, cs0, f0, p0, q0, hg0, ht0, hv0, hd0, ⟨g1, t1, cs1, f1, p1, q1, hg1, ht1, hv1, hd1, ⟨g2, t2, cs2, f2, p2, q2, hg2, ht2, hv2, hd2, _, _⟩, _⟩, _⟩, _⟩ := h
  have hg2' : Tryz.prog.globalNamed tabName = some g2 := hg2
  obtain rfl := Option.some.inj (gTab.symm.trans hg2')
  obtain rfl := Option.some.inj (gTabType.symm.trans ht2)
  have hd2' : DataW.trod _ Tryz.prog W _ _ _ f2 372 cs2.toList = some (Lib.tabData .u64 Lib.pow10Tab, p2) := hd2
  have hv2' : W.var? Tryz.prog tabName = some cs2 := hv2
  unfold Lib.TabIs
  rw [hv2', ← Lib.cells_of_tab Tryz.underlying372 Tryz.underlying78 cellsU64 cellsTab hd2']

theorem wf_u8 {n : Int} (h : (Lit.int .u8 n).wf = true) : 0 ≤ n ∧ n ≤ 255 := by
  simp only [Lit.wf, Bool.and_eq_true, decide_eq_true_eq] at h
  have e1 : IntKind.u8.min = 0 := by decide
  have e2 : IntKind.u8.max = 255 := by decide
  rw [e1, e2] at h
  exact h
theorem wf_i8 {n : Int} (h : (Lit.int .i8 n).wf = true) : -128 ≤ n ∧ n ≤ 127 := by
  simp only [Lit.wf, Bool.and_eq_true, decide_eq_true_eq] at h
  have e1 : IntKind.i8.min = -128 := by decide
  have e2 : IntKind.i8.max = 127 := by decide
  rw [e1, e2] at h
  exact h

/-- So much of each block stays as it is: all that there is. -/
def cOf (W : World) (b : Nat) : Nat := (match W.heap[b]? with | some (.cells cs _ _) => cs.size | _ => 0) + 21

/-- What the run gives, for every argument and every memory that holds the table. -/
theorem contract (H : Type) (enc : TypeId × Value → H) (W : World) (base : Nat) (args : Array Value) (ds gs : List (DataW H)) (before : List MemPlace)
    (hval : ∀ (j : Nat) t v, Tryz.f4.params[j]? = some t → args[j]? = some v → Value.okWide Tryz.prog W .any base t v)
    (hW : DataW.Whole enc Tryz.prog Tryz.f4.params.toList Rows.linearChainsSpec.vars false W args.toList ds gs before) (hL : laidMetH Tryz.prog Rows.linearChainsRow.laid W) :
    Calls Tryz.prog 4 args W fun e W' => ∃ v, e = .returned v ∧ Rows.linearChainsSpec.post enc Tryz.prog Tryz.f4 false true false false W args v W' := by
  have hW' := hW
  obtain ⟨p, q, hA0, hV, rfl, hfz, hnd⟩ := hW
  have hA : DataW.TrodAll enc Tryz.prog W 0 (fun _ => true) true Tryz.f4.params.toList args.toList ds p := hA0
  rw [Tryz.params4] at hA hval
  obtain ⟨v0, v1, v2, d0, d1, d2, p0, p1, p2, rfl, rfl, rfl, t0, t1, t2⟩ := trodAll_three hA
  obtain ⟨rfl, rfl⟩ := trodVars_none hV
  obtain ⟨n, rfl, rfl, rfl, hn⟩ := open_int Tryz.underlying5 (hval 0 5 v0 rfl rfl) t0
  obtain ⟨d, rfl, rfl, rfl, hd⟩ := open_int Tryz.underlying41 (hval 2 41 v2 rfl rfl) t2
  have hn' := wf_u8 hn
  have hd' := wf_i8 hd
  have hT := table hL
  have hG : G.p (cOf W) W := by
    have h20 : Lib.pow10Tab.length = 20 := by decide
    refine ⟨hT, fun g hg => ⟨?_, by unfold cOf; omega⟩⟩
    obtain rfl := Option.some.inj (gTab.symm.trans hg)
    unfold Lib.TabIs World.var? at hT
    rw [gTab] at hT
    simp only [Option.bind_some] at hT
    split at hT
    · rename_i hw; exact (Array.getElem?_eq_some_iff.1 hw).1
    · cases hT
  have hval1 := hval 1 22 v1 rfl rfl
  obtain ⟨a1, len, cap, rfl⟩ := okWide_slice Tryz.underlying22 hval1
  obtain ⟨fuel, hf⟩ := t1
  clear hA0 hA
  simp only [List.append_nil, List.nil_append] at hW'
  -- what holds behind the call
  have fin : ∀ (W' : World), Below W.heap.size W W' → (∀ sp : Nat → Bool, (∀ q ∈ p1, sp q.block = true) → DataW.Trod enc Tryz.prog W' 0 sp true 22 (.slice a1 len cap) d1 p1) →
      Rows.linearChainsSpec.post enc Tryz.prog Tryz.f4 false true false false W #[.int .u8 n, .slice a1 len cap, .int .i8 d] (.bool true) W' := by
    intro W' hb ht
    refine post_of_below (pa := p1) (pv := []) hW' (fun _ _ _ => trodAll_mk1 (shut_bool Tryz.underlying4 _)) (fun sp hsp => ?_) (fun _ _ => rfl) (by simp) hb (ok_one (by kernel_rfl) rfl (okWide_bool_mk Tryz.underlying4 _))
    have := trodAll_mk3 (shut_int (enc := enc) (w := W') (base := 0) (spare := sp) (held := true) Tryz.underlying5 hn) (ht sp (by simpa using hsp)) (shut_int (enc := enc) (w := W') (base := 0) (spare := sp) (held := true) Tryz.underlying41 hd)
    rw [show ([] ++ (p1 ++ []) : List MemPlace) = p1 by simp] at this
    exact this
  rcases open_ints Tryz.underlying22 Tryz.underlying5 cellsU8 hf with ⟨hcs, hx⟩ | ⟨a, len', cap', zs, hcs, _, hl, hm, hz, hx, hcell, hwz⟩
  · simp [Value.cells] at hcs
    obtain ⟨rfl, rfl, rfl⟩ := hcs
    simp only [Prod.mk.injEq] at hx
    obtain ⟨rfl, rfl⟩ := hx
    have hR := (law_nil n d hn' hd').2 (cOf W) W [.int .u8 n, .slice none 0 0, .int .i8 d] hG ⟨rfl, fun i p v hp hv => by
      match i, hp, hv with
      | 0, hp, hv => cases hp; cases hv; exact .sc rfl
      | 1, hp, hv => cases hp; cases hv; exact .sc rfl
      | 2, hp, hv => cases hp; cases hv; exact .sc rfl
      | _ + 3, hp, _ => simp at hp⟩
    refine hR.mono ?_
    rintro e W' ⟨v, c', rfl, hP, hres, _⟩
    have hv : v = .bool true := by cases hres; rfl
    subst hv
    exact ⟨_, rfl, fin W' ⟨hP.os, hP.tape, hP.output, hP.size, fun b hb => hP.block b hb (by simp [ownBlk])⟩ (fun sp _ => ⟨1, by simp [DataW.trod, Value.cells, Tryz.underlying22]⟩)⟩
  · simp [Value.cells] at hcs
    obtain ⟨rfl, rfl, rfl⟩ := hcs
    simp only [Prod.mk.injEq] at hx
    obtain ⟨rfl, rfl⟩ := hx
    simp only [if_true] at hz
    obtain ⟨b, o, spot⟩ := a
    have hhas : len ≤ cap ∧ (cap : Int) ≤ IntKind.i64.max ∧ W.has Tryz.prog .any base ⟨b, o, spot⟩ 5 cap := by
      simpa [Value.okWide, Tryz.underlying22, Cell.okWide, Cell.ok] using hval1
    obtain ⟨_, _, _, hspot, row, cells, hsh, _⟩ := hhas
    have hspot : spot = none := hspot
    subst hspot
    have hblk : b < W.heap.size := by
      have hs : W.shape? b = some (row, cells) := hsh
      unfold World.shape? at hs
      by_cases hb : b < W.heap.size
      · exact hb
      · rw [Array.getElem?_eq_none_iff.2 (by omega)] at hs
        simp at hs
    have hbs : ∀ x ∈ zs.take len, 0 ≤ x ∧ x ≤ 255 := fun x hx => by
      exact wf_u8 (hwz x (List.mem_of_mem_take hx))
    have hlen : (zs.take len).length = len := by simp; omega
    have hR := (law_lst n d hn' hd' (zs.take len) hbs).2 (cOf W) W [.int .u8 n, .slice (some ⟨b, o, none⟩) len cap, .int .i8 d] hG ⟨rfl, fun i p v hp hv => by
      match i, hp, hv with
      | 0, hp, hv => cases hp; cases hv; exact .sc rfl
      | 2, hp, hv => cases hp; cases hv; exact .sc rfl
      | _ + 3, hp, _ => simp at hp
      | 1, hp, hv =>
        cases hp; cases hv
        have hml : ((zs.take len).map fun x => [U x]).length = len := by simp; omega
        have key : VR (cOf W) W (.lst 1 ((zs.take len).map fun x => [U x])) (.slice (some ⟨b, o, none⟩) ((zs.take len).map fun x => [U x]).length cap) := by
          have hget : ∀ (i : Nat) (cs : List PV), ((zs.take len).map fun x => [U x])[i]? = some cs → i < len ∧ cs = [U (zs.getD i 0)] := by
            intro i cs hi
            have hil : i < len := by have := (List.getElem?_eq_some_iff.1 hi).1; omega
            simp only [List.getElem?_map, List.getElem?_take, hil, if_true, Option.map_eq_some_iff] at hi
            obtain ⟨x, hx, rfl⟩ := hi
            exact ⟨hil, by simp [List.getD, hx]⟩
          refine .lst (fun i _ => .int .u8 (zs.getD i 0)) (by omega) hm hblk (fun hpos => ?_) (fun i cs hi => ?_) (fun i j cs q hi hj => ?_) (fun i j cs q hi hj => ?_) (fun i j cs q hi hj => ?_)
          · have hc := hcell (len - 1) (by omega)
            rw [Pf.add_lit] at hc
            simp only [World.cell?] at hc
            unfold cOf
            split at hc
            · rename_i cs tt fr hw
              rw [hw]
              have := (Array.getElem?_eq_some_iff.1 hc).1
              simp only
              omega
            · cases hc
          · rw [(hget i cs hi).2]; rfl
          · obtain ⟨hil, rfl⟩ := hget i cs hi
            have hj0 : j = 0 := by have := (List.getElem?_eq_some_iff.1 hj).1; simp at this; omega
            subst hj0
            have := hcell i (by omega)
            rw [Pf.add_lit] at this
            simpa using this
          · obtain ⟨hil, rfl⟩ := hget i cs hi
            have hj0 : j = 0 := by have := (List.getElem?_eq_some_iff.1 hj).1; simp at this; omega
            subst hj0
            cases hj; rfl
          · obtain ⟨hil, rfl⟩ := hget i cs hi
            have hj0 : j = 0 := by have := (List.getElem?_eq_some_iff.1 hj).1; simp at this; omega
            subst hj0
            cases hj; exact .sc rfl
        rw [hml] at key
        exact key⟩
    refine hR.mono ?_
    rintro e W' ⟨v, c', rfl, hP, hres, _⟩
    have hv : v = .bool true := by cases hres; rfl
    subst hv
    have hBel : Below W.heap.size W W' := ⟨hP.os, hP.tape, hP.output, hP.size, fun b hb => hP.block b hb (by simp [ownBlk])⟩
    refine ⟨_, rfl, fin W' hBel (fun sp hsp => ⟨2, ?_⟩)⟩
    refine shut_ints 0 Tryz.underlying22 Tryz.underlying5 cellsU8 (Nat.zero_le _) hl hm ?_ (fun i hi => ?_) hwz
    · by_cases h0 : zs.length = 0
      · have hc0 : cap = 0 := by omega
        have hl0 : len = 0 := by omega
        rw [h0, hc0, hl0]; split <;> rfl
      · have := hsp (.cell b o) (by simp only [MemPlace.row, List.mem_map, List.mem_range]; exact ⟨0, by omega, rfl⟩)
        rw [if_pos (show sp b = true from this)]
        exact hz
    · rw [← hcell i hi]
      exact hBel.cell (p := Addr.add ⟨b, o, none⟩ i) (by rw [Pf.add_lit]; exact hblk)

theorem lifted (os : Os) (started : os.Started) (H : Type) (enc : TypeId × Value → H) :
    ReturnsInHanded {} Tryz.checked os 4 .any (fun w args => (Rows.linearChainsSpec.pre enc Tryz.prog Tryz.f4 [] false w args ∧ laidMetH Tryz.prog Rows.linearChainsRow.laid w) ∧ sizedMet enc Tryz.prog Tryz.f4 (OpenSpec.ofChange Rows.linearChainsSpec) false w args)
      (Rows.linearChainsSpec.post enc Tryz.prog Tryz.f4 false true false false) := by
  refine returnsInHanded_of_change_and (C := Tryz.checked) (X := fun w _ => laidMetH Tryz.prog Rows.linearChainsRow.laid w) (fun _ _ _ hh h => h.of_heap hh) own started (by as_aux_lemma => kernel_rfl) Tryz.func4
    (ChangeSpec.witness_shaped (enc := enc) (C := Tryz.checked) (os := os) (X := fun w _ => laidMetH Tryz.prog Rows.linearChainsRow.laid w) false (World.doorLaid Tryz.prog 65 os) wArgs 8 rfl (World.shaped_of_RefB (wit1 os) (wit2 os)) (wit3 os) (wit4 os) (wit5 os) (wit6 os)) ?_
  intro W base args ds gs before hval hW _ _ hL _
  exact contract H enc W base args ds gs before hval hW hL

theorem said : Rows.LinearChainsSaid :=
  OpenClaim.holds_of_wide 4 Tryz.f4 rfl rfl rfl rfl rfl rfl rfl ⟨rfl, rfl, rfl, rfl, rfl⟩ rfl rfl rfl rfl rfl (by kernel_rfl) Tryz.func4 rowFacts
    (of_decide_eq_true (by kernel_rfl)) (by unfold Func.isWrapper; first | (rw [if_pos (by decide +kernel)]; kernel_rfl) | (rw [if_neg (by decide +kernel)]; exact ⟨rfl, rfl⟩))
    (fun os started H enc _ => lifted os started H enc)

/-- No parameter wants a stand-in. -/
theorem plain (f : FuncId) (fn : Func) (hf : Tryz.pinned.checked.prog.funcNamed "lispprover/lispproverlaw30.LinearChains" = some f) (hfn : Tryz.pinned.checked.prog.funcs[f]? = some fn) :
    true = Tryz.pinned.checked.prog.looks [] ∧ ∀ (j : Nat) t, fn.params[j]? = some t → Tryz.pinned.checked.prog.wantsStandIn t = false := by
  obtain rfl : f = 4 := Option.some.inj ((show Tryz.prog.funcNamed "lispprover/lispproverlaw30.LinearChains" = some 4 by kernel_rfl).symm.trans hf) |>.symm
  obtain rfl : fn = Tryz.f4 := (Option.some.inj (Tryz.func4.symm.trans hfn)).symm
  refine ⟨by kernel_rfl, fun j t ht => ?_⟩
  rw [Tryz.params4] at ht
  have hm : t ∈ [5, 22, 41] := by simpa using Array.mem_of_getElem? ht
  have hall : ([5, 22, 41].all fun u => !Tryz.prog.wantsStandIn u) = true := by kernel_rfl
  exact (show Tryz.prog.wantsStandIn t = false by simpa using List.all_eq_true.1 hall t hm)

/-- The card. -/
theorem card : Rows.LinearChainsCardSaid :=
  Claim7.holds_tied_plain_at .later [] _ _ _ _ said (fun _ h => by cases h) (by kernel_rfl) (fun _ h => by cases h) linearChains_row_tie rfl ⟨rfl, rfl⟩ (by kernel_rfl) rfl plain (by kernel_rfl)
end Go.Proofs.YthiipifjdfmblaaGreatDoor

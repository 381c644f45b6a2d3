/- For every input the law ForwardNone returns true, and leaves its argument as it was. -/
import Derived.Test.YtlefgpakmgbgaaaGreatDoorDe
import Derived.Test.YtlefgpakmgbgaaaGreatDoorFx
import Derived.Below
import Derived.ChangeSame
set_option linter.unusedVariables false
set_option linter.unusedSimpArgs false
set_option linter.unusedSectionVars false
namespace Go.Proofs.YtlefgpakmgbgaaaGreatDoor
open Go Go.Hf Go.ChangeShapes Go.WideShapes Go.ChangeAt Go.WideMaps Go.WideElems Go.RowKit Go.Lib Go.Shelf
set_option maxRecDepth 100000
theorem own : ownKnob Tryz.prog.godebug = none := by kernel_rfl
theorem cellsU8 : Tryz.prog.cellsOf 5 = 1 := by kernel_rfl
theorem u8X : U8Extra Tryz.prog Tryz.lays177_ren := ⟨by kernel_rfl, by kernel_rfl, by kernel_rfl, by kernel_rfl, by kernel_rfl, by kernel_rfl, by kernel_rfl⟩
theorem u8T : U8Types Tryz.prog Tryz.lays177_ren := ⟨by kernel_rfl, by kernel_rfl, by kernel_rfl, by kernel_rfl⟩
theorem tab_of_reads {W : World} {name : String} {k : IntKind} {zs : List Int} {g : Nat} {t e : TypeId} {n : Nat} (hg : Tryz.prog.globalNamed name = some g) (hty : (Tryz.prog.globals[g]?).map (·.type) = some t)
    (ht : Tryz.prog.underlying t = some (.array n e)) (he : Tryz.prog.underlying e = some (.int k)) (hce : Tryz.prog.cellsOf e = 1) (hct : Tryz.prog.cellsOf t = n) (h : VarReads Tryz.prog W name (tabData k zs)) : TabIs Tryz.prog W name k zs := by
  obtain ⟨g', t', cs, fuel, p, hg', ht', hv, hd⟩ := h
  obtain rfl := Option.some.inj (hg.symm.trans hg')
  obtain rfl := Option.some.inj (hty.symm.trans ht')
  have hcs := cells_of_tab ht he hce hct hd
  unfold TabIs
  rw [hv, ← hcs]
def nmF (i : Nat) : String := (Rows.forwardNoneRow.laid.map (fun p => p.1)).getD i ""
theorem facts {W : World} (h : laidMetH Tryz.prog Rows.forwardNoneRow.laid W) : Fct W := by
  rw [MakeChecks.laidMetH_plain _ _ _ plainH] at h
  have rd : ∀ (i : Nat) (n : String) (d : DataW Unit), Rows.forwardNoneRow.laid[i]? = some (n, d) → VarReads Tryz.prog W n d := fun i n d hi => laidMet.reads h (List.mem_of_getElem? hi)
  refine ⟨tab_of_reads (g := 0) (t := 301) (e := 5) (n := 256) (by kernel_rfl) (by kernel_rfl) (by kernel_rfl) (by kernel_rfl) (by kernel_rfl) (by kernel_rfl) (rd 3 _ _ (by kernel_rfl)),
    tab_of_reads (g := 2) (t := 527) (e := 72) (n := 20) (by kernel_rfl) (by kernel_rfl) (by kernel_rfl) (by kernel_rfl) (by kernel_rfl) (by kernel_rfl) (rd 0 _ _ (by kernel_rfl)), ⟨goPrintTabs, ?_⟩, ?_⟩
  · exact ⟨tabSlice_of_reads (t := 573) (e := 445) (by kernel_rfl) (by kernel_rfl) (by kernel_rfl) (by kernel_rfl) (by kernel_rfl) (by decide) (Pinned.isPrint16_eq ▸ rd 9 (nmF 9) Pinned.isPrint16 (by kernel_rfl)),
      tabSlice_of_reads (t := 573) (e := 445) (by kernel_rfl) (by kernel_rfl) (by kernel_rfl) (by kernel_rfl) (by kernel_rfl) (by decide) (Pinned.isNotPrint16_eq ▸ rd 10 (nmF 10) Pinned.isNotPrint16 (by kernel_rfl)),
      tabSlice_of_reads (t := 543) (e := 26) (by kernel_rfl) (by kernel_rfl) (by kernel_rfl) (by kernel_rfl) (by kernel_rfl) (by decide) (Pinned.isPrint32_eq ▸ rd 11 (nmF 11) Pinned.isPrint32 (by kernel_rfl)),
      tabSlice_of_reads (t := 573) (e := 445) (by kernel_rfl) (by kernel_rfl) (by kernel_rfl) (by kernel_rfl) (by kernel_rfl) (by decide) (Pinned.isNotPrint32_eq ▸ rd 12 (nmF 12) Pinned.isNotPrint32 (by kernel_rfl)),
      by decide, by decide, by decide⟩
  · exact utf8Tabs_of_readsT u8T u8X (Pinned.utf8First_eq ▸ rd 4 (nmF 4) Pinned.utf8First (by kernel_rfl)) (rd 5 _ _ (by kernel_rfl))
section
variable {H : Type} {enc : TypeId × Value → H} {P : Program}
theorem post_of_below {f : Func} {s : ChangeSpec} {apart fresh handsOn again : Bool} {W W' : World} {args : Array Value} {v : Value} {ds gs : List (DataW H)} {before pa pv : List MemPlace}
    (hW : DataW.Whole enc P f.params.toList s.vars apart W args.toList ds gs before)
    (hres : ∀ (b : Nat) (sp : Nat → Bool) (hd : Bool), DataW.TrodAll enc P W' b sp hd f.resultTypes.toList (v.resultList f.resultTypes.size) (s.fn H (ds ++ gs)).results [])
    (hargs : ∀ sp : Nat → Bool, (∀ p ∈ before, sp p.block = true) → DataW.TrodAll enc P W' 0 sp true f.params.toList args.toList (s.fn H (ds ++ gs)).args pa)
    (hvars : ∀ sp : Nat → Bool, (∀ p ∈ before, sp p.block = true) → DataW.TrodVars enc P W' sp s.vars (s.fn H (ds ++ gs)).vars pv)
    (hps : before = pa ++ pv) (hb : Below W.heap.size W W')
    (hok : ∀ (j : Nat) (t : TypeId) (r : Value), f.resultTypes[j]? = some t → (v.resultList f.resultTypes.size)[j]? = some r → Value.okWide P W' .any 0 t r) :
    s.post enc P f apart fresh handsOn again W args v W' := by
  have hlt : ∀ p ∈ before, p.block < W.heap.size := fun p hp => hW.lt p hp
  have hold : ∀ p ∈ before, (fun b => decide (b < W.heap.size)) p.block = true := fun p hp => by simpa using hlt p hp
  refine ⟨ds, gs, before, [], pa, pv, hW, hres _ _ _, hargs _ hold, hvars _ hold, World.keptBut_mono (fun p hp => ⟨hp, ?_⟩) (hb.frame (· ∈ before)), fun _ => ?_⟩
  · rw [hps, List.mem_append] at hp
    exact Or.inr hp
  · obtain ⟨_, _, _, _, _, hz, hn⟩ := hW
    refine ⟨hok, _, _, ([] ++ pa) ++ pv, ⟨[] ++ pa, pv, trodAll_append (hargs _ (fun _ _ => rfl)) (hres _ _ _), hvars _ (fun _ _ => rfl), rfl, ?_, ?_⟩, ?_⟩
    · intro b off hp
      have hin : MemPlace.cell b off ∈ before := by rw [hps]; simpa using hp
      rw [hb.frozen (hlt _ hin)]
      exact hz b off hin
    · intro ha
      have := hn ha
      rw [hps] at this
      simpa using this
    · intro p hp _
      rw [hps]
      simpa using hp
end
theorem wf_u8 {n : Int} (h : (Lit.int .u8 n).wf = true) : 0 ≤ n ∧ n ≤ 255 := by
  simp only [Lit.wf, Bool.and_eq_true, decide_eq_true_eq] at h
  have e1 : IntKind.u8.min = 0 := by decide
  have e2 : IntKind.u8.max = 255 := by decide
  rw [e1, e2] at h
  exact h
def cSz (W : World) (b : Nat) : Nat := match W.heap[b]? with | some (.cells cs _ _) => cs.size | _ => 0
theorem cSz_lt {W : World} {b i : Nat} {v : Value} (h : W.cell? ⟨b, i, none⟩ = some v) : i < cSz W b := by
  simp only [World.cell?] at h
  unfold cSz
  split at h
  · rename_i cs tt fr hw
    rw [hw]
    exact (Array.getElem?_eq_some_iff.1 h).1
  · cases h
def cOf (W : World) (b : Nat) : Nat := cSz W b + 1
theorem start {W : World} (h : Fct W) : G9.p (cOf W) W :=
  ⟨W, cSz W, h, ⟨fun _ _ _ hv => cSz_lt hv, Nat.le_refl _, fun _ _ => ⟨Nat.lt_succ_self _, fun _ _ => rfl⟩⟩⟩
theorem run_true {W : World} {B : PV} {v0 : Value} (hR : RC G9 Tryz.prog 3 [B] (.sc (.bool true))) (hL : Fct W) (hv : VR (cOf W) W B v0) :
    Calls Tryz.prog 3 #[v0] W fun e W' => e = .returned (.bool true) ∧ Below W.heap.size W W' := by
  refine (hR.1.2 ⟨cOf W, fun _ => 0, fun _ => 0⟩ W [v0] (start hL) HeapR.none ⟨rfl, fun i p v hp hv' => ?_⟩).mono ?_
  · match i, hp, hv' with
    | 0, hp, hv' => cases hp; cases hv'; exact .inr (.inl (.inl hv))
    | _ + 1, hp, _ => simp at hp
  · rintro e W' ⟨v, g', rfl, hA, hX⟩
    obtain ⟨rfl, _⟩ := hX.sc_inv
    have hn : ∀ b, ¬ Blk ⟨cOf W, fun _ => 0, fun _ => 0⟩ noOb b := fun b hb => by obtain ⟨k, hl, _⟩ := hb; exact hl
    exact ⟨rfl, ⟨hA.pres.os, hA.pres.tape, hA.pres.output, hA.pres.size, fun b hb => hA.pres.block b hb (hn b)⟩⟩
theorem contract (H : Type) (enc : TypeId × Value → H) (W : World) (base : Nat) (args : Array Value) (ds gs : List (DataW H)) (before : List MemPlace)
    (hval : ∀ (j : Nat) t v, Tryz.f3.params[j]? = some t → args[j]? = some v → Value.okWide Tryz.prog W .any base t v)
    (hW : DataW.Whole enc Tryz.prog Tryz.f3.params.toList Rows.forwardNoneSpec.vars false W args.toList ds gs before) (hL : laidMetH Tryz.prog Rows.forwardNoneRow.laid W) :
    Calls Tryz.prog 3 args W fun e W' => ∃ v, e = .returned v ∧ Rows.forwardNoneSpec.post enc Tryz.prog Tryz.f3 false true false false W args v W' := by
  have hW' := hW
  obtain ⟨p, q, hA0, hV, rfl, hfz, hnd⟩ := hW
  have hA : DataW.TrodAll enc Tryz.prog W 0 (fun _ => true) true Tryz.f3.params.toList args.toList ds p := hA0
  rw [Tryz.params3] at hA hval
  obtain ⟨v0, d0, rfl, rfl, t1⟩ := trodAll_one hA
  obtain ⟨rfl, rfl⟩ := trodVars_none hV
  have hF := facts hL
  have hval1 := hval 0 22 v0 rfl rfl
  obtain ⟨a1, len, cap, rfl⟩ := okWide_slice Tryz.underlying22 hval1
  obtain ⟨fuel, hf⟩ := t1
  clear hA0 hA
  simp only [List.append_nil] at hW'
  have fin : ∀ (W' : World), Below W.heap.size W W' → (∀ sp : Nat → Bool, (∀ q ∈ p, sp q.block = true) → DataW.Trod enc Tryz.prog W' 0 sp true 22 (.slice a1 len cap) d0 p) →
      Rows.forwardNoneSpec.post enc Tryz.prog Tryz.f3 false true false false W #[.slice a1 len cap] (.bool true) W' := by
    intro W' hb ht
    refine post_of_below (pa := p) (pv := []) hW' (fun _ _ _ => trodAll_mk1 (shut_bool Tryz.underlying4 _)) (fun sp hsp => ?_) (fun _ _ => rfl) (by simp) hb (ok_one (by kernel_rfl) rfl (okWide_bool_mk Tryz.underlying4 _))
    exact trodAll_mk1 (ht sp (by simpa using hsp))
  rcases open_ints Tryz.underlying22 Tryz.underlying5 cellsU8 hf with ⟨hcs, hx⟩ | ⟨a, len', cap', zs, hcs, _, hl, hm, hz, hx, hcell, hwz⟩
  · simp [Value.cells] at hcs
    obtain ⟨rfl, rfl, rfl⟩ := hcs
    simp only [Prod.mk.injEq] at hx
    obtain ⟨rfl, rfl⟩ := hx
    have hR := law3 Codes.nil
    have e : @dec tok0 .nl = nils := by simp only [dec]
    rw [e] at hR
    refine (run_true hR hF (v0 := .slice none 0 0) (.sc rfl)).mono ?_
    rintro e W' ⟨rfl, hb⟩
    exact ⟨_, rfl, fin W' hb (fun sp _ => ⟨1, by simp [DataW.trod, Value.cells, Tryz.underlying22]⟩)⟩
  · simp [Value.cells] at hcs
    obtain ⟨rfl, rfl, rfl⟩ := hcs
    simp only [Prod.mk.injEq] at hx
    obtain ⟨rfl, rfl⟩ := hx
    simp only [if_true] at hz
    obtain ⟨b, o, spot⟩ := a
    have hhas : len ≤ cap ∧ (cap : Int) ≤ IntKind.i64.max ∧ W.has Tryz.prog .any base ⟨b, o, spot⟩ 5 cap := by
      simpa [Value.okWide, Tryz.underlying22, Cell.okWide, Cell.ok] using hval1
    obtain ⟨_, _, _, hspot, row, cells, hsh, _⟩ := hhas
    have hspot : spot = none := hspot
    subst hspot
    have hblk : b < W.heap.size := by
      have hs : W.shape? b = some (row, cells) := hsh
      unfold World.shape? at hs
      by_cases hb : b < W.heap.size
      · exact hb
      · rw [Array.getElem?_eq_none_iff.2 (by omega)] at hs
        simp at hs
    have hbs : ∀ x ∈ zs.take len, 0 ≤ x ∧ x ≤ 255 := fun x hx => by
      exact wf_u8 (hwz x (List.mem_of_mem_take hx))
    have hlen : (zs.take len).length = len := by simp; omega
    have hR := law3 (Codes.lst ((zs.take len).map Int.toNat) (fun c hc => by
      obtain ⟨x, hx, rfl⟩ := List.mem_map.1 hc
      have := hbs x hx
      omega))
    have e : @dec tok0 (.lst 1 (((zs.take len).map Int.toNat).map fun c => [.i .u8 (Nat.add o64 c)])) = .lst 1 ((zs.take len).map fun x => [PV.sc (.int .u8 x)]) := by
      simp only [dec, decLL_map, List.map_map]
      congr 1
      apply List.map_congr_left
      intro x hx
      have := hbs x hx
      show [@dec tok0 (.i .u8 (Nat.add o64 x.toNat))] = _
      simp only [dec, intOf_o64]
      rw [Int.toNat_of_nonneg this.1]
    rw [e] at hR
    have hml : ((zs.take len).map fun x => [PV.sc (.int .u8 x)]).length = len := by simp; omega
    have key : VR (cOf W) W (.lst 1 ((zs.take len).map fun x => [PV.sc (.int .u8 x)])) (.slice (some ⟨b, o, none⟩) ((zs.take len).map fun x => [PV.sc (.int .u8 x)]).length cap) := by
      have hget : ∀ (i : Nat) (cs : List PV), ((zs.take len).map fun x => [PV.sc (.int .u8 x)])[i]? = some cs → i < len ∧ cs = [PV.sc (.int .u8 (zs.getD i 0))] := by
        intro i cs hi
        have hil : i < len := by have := (List.getElem?_eq_some_iff.1 hi).1; omega
        simp only [List.getElem?_map, List.getElem?_take, hil, if_true, Option.map_eq_some_iff] at hi
        obtain ⟨x, hx, rfl⟩ := hi
        exact ⟨hil, by simp [List.getD, hx]⟩
      refine .lst (fun i _ => .int .u8 (zs.getD i 0)) (by omega) hm hblk (fun hpos => ?_) (fun i cs hi => ?_) (fun i j cs q hi hj => ?_) (fun i j cs q hi hj => ?_) (fun i j cs q hi hj => ?_)
      · have hc := hcell (len - 1) (by omega)
        rw [Addr.add_lit] at hc
        have := cSz_lt hc
        unfold cOf
        omega
      · rw [(hget i cs hi).2]; rfl
      · obtain ⟨hil, rfl⟩ := hget i cs hi
        have hj0 : j = 0 := by have := (List.getElem?_eq_some_iff.1 hj).1; simp at this; omega
        subst hj0
        have := hcell i (by omega)
        rw [Addr.add_lit] at this
        simpa using this
      · obtain ⟨hil, rfl⟩ := hget i cs hi
        have hj0 : j = 0 := by have := (List.getElem?_eq_some_iff.1 hj).1; simp at this; omega
        subst hj0
        cases hj; rfl
      · obtain ⟨hil, rfl⟩ := hget i cs hi
        have hj0 : j = 0 := by have := (List.getElem?_eq_some_iff.1 hj).1; simp at this; omega
        subst hj0
        cases hj; exact .sc rfl
    rw [hml] at key
    refine (run_true hR hF key).mono ?_
    rintro e W' ⟨rfl, hBel⟩
    refine ⟨_, rfl, fin W' hBel (fun sp hsp => ⟨2, ?_⟩)⟩
    refine shut_ints 0 Tryz.underlying22 Tryz.underlying5 cellsU8 (Nat.zero_le _) hl hm ?_ (fun i hi => ?_) hwz
    · by_cases h0 : zs.length = 0
      · have hc0 : cap = 0 := by omega
        have hl0 : len = 0 := by omega
        rw [h0, hc0, hl0]; split <;> rfl
      · have := hsp (.cell b o) (by simp only [MemPlace.row, List.mem_map, List.mem_range]; exact ⟨0, by omega, rfl⟩)
        rw [if_pos (show sp b = true from this)]
        exact hz
    · rw [← hcell i hi]
      exact hBel.cell (p := Addr.add ⟨b, o, none⟩ i) (by rw [Addr.add_lit]; exact hblk)
end Go.Proofs.YtlefgpakmgbgaaaGreatDoor

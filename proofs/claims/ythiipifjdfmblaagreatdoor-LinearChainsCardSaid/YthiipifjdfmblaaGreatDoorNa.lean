/- Contracts of the library's functions on decimal numerals and strings, in the words of pure frames; what is known of the package variable that they read. -/
import Derived.Test.YthiipifjdfmblaaGreatDoorCb
import Derived.Test.YthiipifjdfmblaaGreatDoorSh
set_option linter.unusedVariables false
set_option linter.unusedSimpArgs false
namespace Go.Proofs.YthiipifjdfmblaaGreatDoor
open Go Go.Pf Go.RowKit

def tabName : String := "internal/strconv.uint64pow10"

/-- The table of the powers of ten is as it was laid. -/
def tabP (c : Nat → Nat) (w : World) : Prop :=
  Lib.TabIs Tryz.prog w tabName .u64 Lib.pow10Tab ∧ ∀ g, Tryz.prog.globalNamed tabName = some g → g < w.heap.size ∧ Lib.pow10Tab.length < c g

theorem tabP_mono {c c' : Nat → Nat} {w w' : World} (hE : Ext c w c' w') (h : tabP c w) : tabP c' w' := by
  obtain ⟨h1, h2⟩ := h
  refine ⟨?_, fun g hg => ?_⟩
  · unfold Lib.TabIs World.var? at h1 ⊢
    cases hg : Tryz.prog.globalNamed tabName with
    | none => rw [hg] at h1; cases h1
    | some g =>
      rw [hg] at h1
      simp only [Option.bind_some] at h1 ⊢
      obtain ⟨hl, hc⟩ := h2 g hg
      have hcell : ∀ i, i ≤ Lib.pow10Tab.length → w'.cell? ⟨g, i, none⟩ = w.cell? ⟨g, i, none⟩ := fun i hi => hE.cell g i hl (by omega)
      split at h1
      · rename_i cs t fr hw
        cases h1
        have hsz : ((Lib.pow10Tab.map fun z => Value.int .u64 z).toArray).size = Lib.pow10Tab.length := by simp
        have h0 : w.cell? ⟨g, 0, none⟩ = some (.int .u64 1) := by simp only [World.cell?, hw]; rfl
        have h0' := hcell 0 (by omega)
        rw [h0] at h0'
        simp only [World.cell?] at h0' hcell
        split at h0'
        · rename_i cs' t' fr' hw'
          rw [hw']
          simp only [Option.some.injEq]
          apply Array.ext_getElem?
          intro i
          by_cases hi : i ≤ Lib.pow10Tab.length
          · have := hcell i hi
            rw [hw', hw] at this
            exact this
          · have hn := hcell Lib.pow10Tab.length (Nat.le_refl _)
            rw [hw', hw] at hn
            have e1 : ((Lib.pow10Tab.map fun z => Value.int .u64 z).toArray)[Lib.pow10Tab.length]? = none := by simp
            have hn' : cs'[Lib.pow10Tab.length]? = none := hn.trans e1
            rw [Array.getElem?_eq_none_iff] at hn'
            rw [Array.getElem?_eq_none_iff.2 (by omega), Array.getElem?_eq_none_iff.2 (by omega)]
        · cases h0'
      · cases h1
  · obtain ⟨hl, hc⟩ := h2 g hg
    exact ⟨Nat.lt_of_lt_of_le hl hE.size, Nat.lt_of_lt_of_le hc (hE.le g hl)⟩

def G : Gl := ⟨tabP, fun h => tabP_mono h⟩

/-- Nothing that lay there has turned. -/
theorem keeps_pres {w w' : World} (h : Below w.heap.size w w') (c : Nat → Nat) : Pres c w c w' none := ⟨h.os, h.tape, h.output, h.size, fun b hb _ => h.block b hb, fun _ _ _ => rfl⟩
theorem keeps_grow (w : World) (k : Nat) (os : Array Go.Obj) : Below w.heap.size w (Sort.grow (w.drewN k) os) := by
  have hd : Below w.heap.size w (w.drewN k) := by
    unfold World.drewN
    exact ⟨rfl, rfl, rfl, Nat.le_refl _, fun _ _ => rfl⟩
  refine hd.trans ⟨rfl, rfl, rfl, by simp [Sort.grow], fun b hb => ?_⟩
  simp only [Sort.grow]
  rw [Array.getElem?_append_left (by simpa using hb)]

theorem scalars_eq {c : Nat → Nat} {w : World} : ∀ {us vs : List Value}, ArgsR c w (us.map PV.sc) vs → vs = us
  | [], [], _ => rfl
  | [], _ :: _, h => by have := h.1; simp at this
  | _ :: _, [], h => by have := h.1; simp at this
  | u :: us, v :: vs, h => by
    have h0 : VR c w (.sc u) v := h.2 0 (.sc u) v rfl rfl
    have e := h0.sc_inv.1
    have hr : ArgsR c w (us.map PV.sc) vs := ⟨by have := h.1; simpa using this, fun i p x hp hx => h.2 (i + 1) p x (by simpa using hp) (by simpa using hx)⟩
    rw [e, scalars_eq hr]

theorem ownBlk_scalars : ∀ (us vs : List Value), ownBlk (us.map PV.sc) vs = none
  | [], _ => rfl
  | _ :: _, _ => rfl

/-- A contract of a function of scalars. -/
theorem RC_scalars {P : Program} {gl : Gl} {f : Nat} {us : List Value} {res : PV} {v : Value} (hE : Pf.Enters P f) (hres : ∀ c w m, ResR c w m res v) (h : ∀ c w, gl.p c w → Calls P f us.toArray w fun e w' => e = .returned v ∧ Below w.heap.size w w') : RC gl P f .imm (us.map PV.sc) res [] := by
  refine ⟨hE, fun c w vs hg hA => ?_⟩
  have e := scalars_eq hA
  subst e
  refine (h c w hg).mono ?_
  rintro e w' ⟨rfl, hk⟩
  exact ⟨v, c, rfl, by rw [ownBlk_scalars]; exact keeps_pres hk c, hres _ _ _, fun hm => by cases hm⟩

theorem ResR_tup2 {c : Nat → Nat} {w : World} {m : Nat → Prop} {a b : Value} (ha : scalarV a = true) (hb : scalarV b = true) : ResR c w m (.tup [.sc a, .sc b]) (.tuple #[a, b]) := by
  refine ⟨[a, b], rfl, rfl, fun i p u hp hu => .inl ?_⟩
  match i, hp, hu with
  | 0, hp, hu => cases hp; cases hu; exact .sc ha
  | 1, hp, hu => cases hp; cases hu; exact .sc hb
  | _ + 2, hp, _ => simp at hp

/-- A decimal numeral. -/
def D (n : Int) : PV := .sc (.string ⟨(Lib.itoa n).toArray⟩)
def I (n : Int) : PV := .sc (.int .i64 n)
def Bo (b : Bool) : PV := .sc (.bool b)
def S (l : List UInt8) : PV := .sc (.string ⟨l.toArray⟩)

theorem rc157 (n : Int) (h : -1000000 ≤ n ∧ n ≤ 1000000) : RC G Tryz.prog 157 .imm [I n] (D n) [] :=
  RC_scalars (us := [.int .i64 n]) ⟨Tryz.f157, Tryz.func157, by kernel_rfl, by kernel_rfl⟩ (fun _ _ _ => .sc rfl) fun c w hg =>
    (Tryz.strconv_Itoa n (by omega) (by omega) w hg.1).mono fun e w' ⟨h1, k, os, h2⟩ => ⟨h1, h2 ▸ keeps_grow w k os⟩

theorem rc267 (n : Int) (h : -1000000 ≤ n ∧ n ≤ 1000000) : RC G Tryz.prog 267 .imm [I n, I 10] (D n) [] :=
  RC_scalars (us := [.int .i64 n, .int .i64 10]) ⟨Tryz.f267, Tryz.func267, by kernel_rfl, by kernel_rfl⟩ (fun _ _ _ => .sc rfl) fun c w hg =>
    (Tryz.strconv_FormatInt_10 n (by omega) (by omega) w hg.1).mono fun e w' ⟨h1, k, os, h2⟩ => ⟨h1, h2 ▸ keeps_grow w k os⟩

theorem rc334 (a b : List UInt8) : RC G Tryz.prog 334 .imm [S a, S b] (I (Lib.compareBytes a b)) [] :=
  RC_scalars (us := [.string ⟨a.toArray⟩, .string ⟨b.toArray⟩]) ⟨Tryz.f334, Tryz.func334, by kernel_rfl, by kernel_rfl⟩ (fun _ _ _ => .sc rfl) fun c w _ =>
    (Tryz.strings_Compare ⟨a.toArray⟩ ⟨b.toArray⟩ w).mono fun e w' ⟨h1, h2⟩ => ⟨by simpa using h1, by subst h2; exact Below.refl _ _⟩

/-- The small numbers. -/
def Sm (n : Int) : Prop := -40 ≤ n ∧ n ≤ 40

theorem small_all {p : Int → Bool} (h : (List.range 81).all (fun i => p ((i : Int) - 40)) = true) {n : Int} (hn : Sm n) : p n = true := by
  rw [List.all_eq_true] at h
  have := h (n + 40).toNat (by simp; unfold Sm at hn; omega)
  have e : (((n + 40).toNat : Nat) : Int) - 40 = n := by unfold Sm at hn; omega
  rwa [e] at this

def okIs (n : Int) : Lib.NumEnd Int → Bool
  | .ok v => v == n
  | _ => false
def okNat (n : Nat) : Lib.NumEnd Nat → Bool
  | .ok v => v == n
  | _ => false

theorem parse_small {n : Int} (hn : Sm n) : Lib.parseIntB 64 (Lib.itoa n) = .ok n := by
  have h := small_all (p := fun n => okIs n (Lib.parseIntB 64 (Lib.itoa n))) (by kernel_rfl) hn
  revert h
  cases Lib.parseIntB 64 (Lib.itoa n) with
  | ok v =>
    intro h
    have e : v = n := by simpa [okIs] using h
    rw [e]
  | _ => intro h; cases h

theorem parseU_small {n : Nat} (hn : n ≤ 40) : Lib.parseUintB 32 (Lib.itoa n) = .ok n := by
  have h := small_all (p := fun n => okNat n.natAbs (Lib.parseUintB 32 (Lib.itoa n.natAbs))) (by kernel_rfl) (n := (n : Int)) ⟨by omega, by omega⟩
  rw [Int.natAbs_natCast] at h
  revert h
  cases Lib.parseUintB 32 (Lib.itoa n) with
  | ok v =>
    intro h
    have e : v = n := by simpa [okNat] using h
    rw [e]
  | _ => intro h; cases h

theorem len_small {n : Int} (hn : Sm n) : (Lib.itoa n).length ≤ 3 := by
  have h := small_all (p := fun n => decide ((Lib.itoa n).length ≤ 3)) (by kernel_rfl) hn
  simpa using h

theorem rc317 (n : Int) (h : Sm n) : RC G Tryz.prog 317 .imm [D n, I 10, I 64] (.tup [I n, .sc .nilIface]) [] :=
  RC_scalars (us := [.string ⟨(Lib.itoa n).toArray⟩, .int .i64 10, .int .i64 64]) ⟨Tryz.f317, Tryz.func317, by kernel_rfl, by kernel_rfl⟩ (fun _ _ _ => ResR_tup2 rfl rfl) fun c w _ =>
    (Tryz.strconv_ParseInt_10_at64_ok ⟨(Lib.itoa n).toArray⟩ (by have := len_small h; simp [ByteArray.size]; omega) n (by simpa using parse_small h) w).mono fun e w' ⟨h1, h2⟩ => ⟨h1, by
      rcases h2 with rfl | ⟨t, rfl⟩
      · exact Below.refl _ _
      · exact Lib.bytesWorld_below _ _ _⟩

theorem rc319 (n : Nat) (h : n ≤ 40) : RC G Tryz.prog 319 .imm [D n, I 10, I 32] (.tup [.sc (.int .u64 n), .sc .nilIface]) [] :=
  RC_scalars (us := [.string ⟨(Lib.itoa n).toArray⟩, .int .i64 10, .int .i64 32]) ⟨Tryz.f319, Tryz.func319, by kernel_rfl, by kernel_rfl⟩ (fun _ _ _ => ResR_tup2 rfl rfl) fun c w _ =>
    (Tryz.strconv_ParseUint_10_at32_ok ⟨(Lib.itoa n).toArray⟩ (by have := len_small (n := (n : Int)) ⟨by omega, by omega⟩; simp [ByteArray.size]; omega) n (by simpa using parseU_small h) w).mono fun e w' ⟨h1, h2⟩ => ⟨h1, by
      rcases h2 with rfl | rfl
      · exact Below.refl _ _
      · exact Lib.bytesWorld_below _ _ _⟩
end Go.Proofs.YthiipifjdfmblaaGreatDoor

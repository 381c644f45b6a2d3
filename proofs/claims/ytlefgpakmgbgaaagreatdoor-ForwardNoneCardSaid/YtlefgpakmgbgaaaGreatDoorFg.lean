/- Contracts of functions that are not followed by the engine: those that turn nothing of what was there; what is known of package variables. -/
import Derived.Test.YtlefgpakmgbgaaaGreatDoorFf
import Derived.Lib.LaidTab
import Derived.Lib.Builder
import Derived.Lib.UnsafeStr
import Derived.Recover
import Derived.RangeFuncRecord
set_option linter.unusedVariables false
set_option linter.unusedSimpArgs false
set_option linter.unusedSectionVars false
section
namespace Go.Hf
open Go.RowKit
section
variable [Tok]
theorem After.below {g : Gh} {w w' : World} {ob : Nat → Obj} (hH : HeapR g w ob) (hB : Below w.heap.size w w') : After g w ob g w' ob := by
  have hE : Ext g.c w g.c w' := ⟨hB.size, fun _ _ => Nat.le_refl _, fun b i hb _ => by simp only [World.cell?, hB.block b hb]⟩
  exact ⟨⟨hB.os, hB.tape, hB.output, hB.size, fun b hb _ => hB.block b hb, fun _ _ _ => rfl⟩, hE,
    ⟨fun k => ObjR.keep hE (ObStep.refl g ob) (fun hl => ⟨rfl, rfl, rfl, hB.block _ (hH.lt k (by cases ho : ob k <;> simp_all [Obj.live]))⟩) (hH.obj k), hH.inj, fun k hl => Nat.lt_of_lt_of_le (hH.lt k hl) hB.size⟩,
    ObStep.refl g ob, fun k hl => .inr ⟨k, hl, rfl⟩⟩
theorem ArgsX.scalars {g : Gh} {w : World} {ob : Nat → Obj} : ∀ {us vs : List Value}, ArgsX g w ob (us.map PV.sc) vs → vs = us
  | [], [], _ => rfl
  | [], _ :: _, h => by have := h.1; simp at this
  | _ :: _, [], h => by have := h.1; simp at this
  | u :: us, v :: vs, h => by
    have h0 : XR g w ob (.sc u) v := h.2 0 (.sc u) v rfl rfl
    have e := h0.sc_inv.1
    have hr : ArgsX g w ob (us.map PV.sc) vs := ⟨by have := h.1; simpa using this, fun i p x hp hx => h.2 (i + 1) p x (by simpa using hp) (by simpa using hx)⟩
    rw [e, ArgsX.scalars hr]
theorem HC_lib {gl : Gl} {P : Program} {f : Nat} (hE : Enters P f) (vals : List Value) (r : Value) (hr : scalarV r = true)
    (h : ∀ c w, gl.p c w → Calls P f vals.toArray w fun e w' => e = .returned r ∧ Below w.heap.size w w') (ob : Nat → Obj) : HC gl P f (vals.map PV.sc) ob (.sc r) ob := by
  refine ⟨hE, fun g w vs hG hH hA => ?_⟩
  rw [ArgsX.scalars hA]
  refine (h g.c w hG).mono ?_
  rintro e w' ⟨rfl, hB⟩
  exact ⟨r, g, rfl, After.below hH hB, .inr (.inl (.inl (.sc hr)))⟩
theorem lib_ok {gl : Gl} {P : Program} {f : Nat} {g : Bd} (hE : Enters P f)
    (h : ∀ u args ub segs res ub' segs' dirty, g u args ub segs = .ok res ub' segs' dirty → ub' = ub ∧ segs' = segs ∧ dirty = [] ∧ ∃ (vals : List Value) (r : Value), args.map dec = vals.map PV.sc ∧ dec res = .sc r ∧ scalarV r = true ∧
      ∀ c w, gl.p c w → Calls P f vals.toArray w fun e w' => e = .returned r ∧ Below w.heap.size w w') : BodyOk gl P f g := by
  intro u _ args ub segs res ub' segs' dirty hg
  obtain ⟨rfl, rfl, rfl, vals, r, e1, e2, hr, hc⟩ := h u args ub segs res ub' segs' dirty hg
  refine ⟨?_, fun _ _ _ => rfl, fun k hk => ?_⟩
  · rw [e1, e2]; exact HC_lib hE vals r hr hc _
  · rw [← keys_dec, e2] at hk; simp [PV.keys, PV.keysA, PV.key, PV.key0] at hk
structure Kept0 (w0 : World) (c0 : Nat → Nat) (c : Nat → Nat) (w : World) : Prop where
  top : ∀ b i v, w0.cell? ⟨b, i, none⟩ = some v → i < c0 b
  size : w0.heap.size ≤ w.heap.size
  cell : ∀ b, b < w0.heap.size → c0 b < c b ∧ ∀ i, i ≤ c0 b → w.cell? ⟨b, i, none⟩ = w0.cell? ⟨b, i, none⟩
def keptP (F : World → Prop) (c : Nat → Nat) (w : World) : Prop := ∃ w0 c0, F w0 ∧ Kept0 w0 c0 c w
def keptG (F : World → Prop) : Gl := ⟨keptP F, fun {c c' w w'} hE h => by
  obtain ⟨w0, c0, h1, h2⟩ := h
  refine ⟨w0, c0, h1, h2.top, Nat.le_trans h2.size hE.size, fun b hb => ?_⟩
  obtain ⟨h4, h5⟩ := h2.cell b hb
  have hb' : b < w.heap.size := Nat.lt_of_lt_of_le hb h2.size
  exact ⟨Nat.lt_of_lt_of_le h4 (hE.le b hb'), fun i hi => (hE.cell b i hb' (by omega)).trans (h5 i hi)⟩⟩
theorem cell_lt {w0 : World} {b i : Nat} {v : Value} (hv : w0.cell? ⟨b, i, none⟩ = some v) : b < w0.heap.size := by
  simp only [World.cell?] at hv
  split at hv
  · rename_i hw; exact (Array.getElem?_eq_some_iff.1 hw).1
  · cases hv
theorem kept_cell {w w0 : World} {c0 c : Nat → Nat} (h : Kept0 w0 c0 c w) {b i : Nat} {v : Value} (hv : w0.cell? ⟨b, i, none⟩ = some v) : w.cell? ⟨b, i, none⟩ = some v := by
  rw [(h.cell b (cell_lt hv)).2 i (Nat.le_of_lt (h.top b i v hv)), hv]
theorem TabIs_kept {P : Program} {w w0 : World} {c0 c : Nat → Nat} (h : Kept0 w0 c0 c w) {name : String} {k : IntKind} {z : Int} {zs : List Int}
    (h1 : Lib.TabIs P w0 name k (z :: zs)) : Lib.TabIs P w name k (z :: zs) := by
  unfold Lib.TabIs World.var? at h1 ⊢
  cases hg : P.globalNamed name with
  | none => rw [hg] at h1; cases h1
  | some g =>
    rw [hg] at h1
    simp only [Option.bind_some] at h1 ⊢
    split at h1
    · rename_i cs t fr hw
      cases h1
      have hl : g < w0.heap.size := (Array.getElem?_eq_some_iff.1 hw).1
      have hlast : (z :: zs).length - 1 < c0 g := by
        obtain ⟨v, hv⟩ : ∃ v, w0.cell? ⟨g, (z :: zs).length - 1, none⟩ = some v := by
          simp only [World.cell?, hw]
          exact ⟨_, Array.getElem?_eq_getElem (by simp)⟩
        exact h.top g _ v hv
      have hcell : ∀ i, i ≤ (z :: zs).length → w.cell? ⟨g, i, none⟩ = w0.cell? ⟨g, i, none⟩ := fun i hi => (h.cell g hl).2 i (by omega)
      have h0 : w0.cell? ⟨g, 0, none⟩ = some (.int k z) := by simp only [World.cell?, hw]; rfl
      have h0' := hcell 0 (by omega)
      rw [h0] at h0'
      simp only [World.cell?] at h0' hcell
      split at h0'
      · rename_i cs' t' fr' hw'
        rw [hw']
        simp only [Option.some.injEq]
        apply Array.ext_getElem?
        intro i
        by_cases hi : i ≤ (z :: zs).length
        · have := hcell i hi
          rw [hw', hw] at this
          exact this
        · have hn := hcell (z :: zs).length (Nat.le_refl _)
          rw [hw', hw] at hn
          have e1 : (((z :: zs).map fun z => Value.int k z).toArray)[(z :: zs).length]? = none := by simp
          have hn' : cs'[(z :: zs).length]? = none := hn.trans e1
          rw [Array.getElem?_eq_none_iff] at hn'
          have e2 : (((z :: zs).map fun z => Value.int k z).toArray).size = (z :: zs).length := by simp
          rw [Array.getElem?_eq_none_iff.2 (by omega), Array.getElem?_eq_none_iff.2 (by omega)]
      · cases h0'
    · cases h1
theorem argK_ok {l : List XV} {f : XV → List XV → Ans} {res : XV} {ub : Nat} {s : SL} {d : List Nat} (h : argK l f = .ok res ub s d) : ∃ x r, l = x :: r ∧ f x r = .ok res ub s d := by
  cases l with
  | nil => cases h
  | cons x r => exact ⟨x, r, rfl, h⟩
theorem argN_ok {l : List XV} {x : Ans} {res : XV} {ub : Nat} {s : SL} {d : List Nat} (h : argN l x = .ok res ub s d) : l = [] ∧ x = .ok res ub s d := by
  cases l with
  | nil => exact ⟨rfl, h⟩
  | cons x r => cases h
theorem onS_ok {x : XV} {f : Nat → Nat → Ans} {res : XV} {ub : Nat} {s : SL} {d : List Nat} (h : onS x f = .ok res ub s d) : ∃ n v, x = .s n v ∧ f n v = .ok res ub s d := by
  obtain ⟨n, v, e, e2⟩ := onS_ne (by rw [h]; simp : onS x f ≠ .no)
  exact ⟨n, v, e, by rw [← e2]; exact h⟩
theorem onI_ok {x : XV} {f : IntKind → Nat → Ans} {res : XV} {ub : Nat} {s : SL} {d : List Nat} (h : onI x f = .ok res ub s d) : ∃ q n, x = .i q n ∧ f q n = .ok res ub s d := by
  obtain ⟨n, v, e, e2⟩ := onI_ne (by rw [h]; simp : onI x f ≠ .no)
  exact ⟨n, v, e, by rw [← e2]; exact h⟩
theorem bo_ok {c : Bool} {x : Ans} {res : XV} {ub : Nat} {s : SL} {d : List Nat} (h : bo c x .no = .ok res ub s d) : c = true ∧ x = .ok res ub s d := by
  cases c
  · cases h
  · exact ⟨rfl, h⟩
def sOut (l : List UInt8) : XV := .s l.length (numOf l)
theorem sOut_dec (l : List UInt8) : dec (sOut l) = .sc (.string ⟨l.toArray⟩) := by
  unfold sOut
  simp only [dec, bytesB, bytesL_num]
noncomputable def idxF (m n v c : Nat) : Nat :=
  @Nat.rec (fun _ => Nat) 18446744073709551615 (fun k ih => @Bool.rec (fun _ => Nat) ih (Nat.add 18446744073709551616 (Nat.sub m (Nat.succ k))) (Nat.beq (Nat.mod (Nat.div v (Nat.pow 256 k)) 256) c)) n
noncomputable def cntB (n v c : Nat) : Nat :=
  @Nat.rec (fun _ => Nat) 0 (fun k ih => @Bool.rec (fun _ => Nat) ih (Nat.succ ih) (Nat.beq (Nat.mod (Nat.div v (Nat.pow 256 k)) 256) c)) n
theorem byte_beq (v k c : Nat) (hc : c < 256) : (UInt8.ofNat (v / 256 ^ k) == UInt8.ofNat c) = Nat.beq (Nat.mod (Nat.div v (Nat.pow 256 k)) 256) c := by
  have h2 : (UInt8.ofNat (v / 256 ^ k)).toNat = Nat.mod (Nat.div v (Nat.pow 256 k)) 256 := by simp; rfl
  have h3 : (UInt8.ofNat c).toNat = c := by simp; omega
  rw [Bool.eq_iff_iff, beq_iff_eq, Nat.beq_eq]
  constructor
  · intro h; rw [← h2, h, h3]
  · intro h
    apply UInt8.toNat_inj.1
    rw [h2, h3]; exact h
end
end Go.Hf
end
section
namespace Go.Hf
open Go.RowKit
section
variable [Tok]
theorem After.turn {g : Gh} {w w' : World} {ob : Nat → Obj} (hH : HeapR g w ob) (k : Nat) (x : Obj) (hl : (ob k).live)
    (ho : w'.os = w.os) (ht : w'.tape = w.tape) (hu : w'.output = w.output) (hsz : w.heap.size = w'.heap.size) (hb : ∀ b, b ≠ g.blk k → w'.heap[b]? = w.heap[b]?)
    (hc : ∀ i, i < g.c (g.blk k) → w'.cell? ⟨g.blk k, i, none⟩ = w.cell? ⟨g.blk k, i, none⟩) (hS : ObStep g ob g (upd ob k x)) (hx : Ext g.c w g.c w' → ObjR g w' (upd ob k x) k x) : After g w ob g w' (upd ob k x) := by
  have hE : Ext g.c w g.c w' := ⟨by omega, fun _ _ => Nat.le_refl _, fun b i _ hi => by
    by_cases e : b = g.blk k
    · subst e; exact hc i hi
    · simp only [World.cell?, hb b e]⟩
  have hlv : ∀ k', (upd ob k x k').live → (ob k').live := by
    intro k' h
    by_cases e : k' = k
    · subst e; exact hl
    · rw [upd_ne _ _ e] at h; exact h
  refine ⟨⟨ho, ht, hu, by omega, fun b _ hB => hb b (fun e => hB ⟨k, hl, e.symm⟩), fun _ _ _ => rfl⟩, hE, ⟨fun k' => ?_, fun k1 k2 h1 h2 e => hH.inj k1 k2 (hlv k1 h1) (hlv k2 h2) e, fun k' h => by have := hH.lt k' (hlv k' h); omega⟩, hS, fun k' h => .inr ⟨k', hlv k' h, rfl⟩⟩
  by_cases e : k' = k
  · subst e; rw [upd_same]; exact hx hE
  · rw [upd_ne _ _ e]
    exact ObjR.keep hE hS (fun hl' => ⟨rfl, rfl, rfl, hb _ (fun e2 => e (hH.inj k' k hl' hl e2))⟩) (hH.obj k')
theorem ObStep.drop {ob : Nat → Obj} (g : Gh) (k s : Nat) (h : (ob k).stamp ≤ s) : ObStep g ob g (upd ob k (.no s)) := by
  intro k'
  by_cases hk : k' = k
  · subst hk
    rw [upd_same]
    exact ⟨h, (fun _ hc => by cases hc), (fun _ _ _ _ hc => by cases hc), (fun _ hc => by cases hc)⟩
  · rw [upd_ne _ _ hk]
    exact ⟨Nat.le_refl _, fun cs hc => ⟨⟨cs, hc⟩, rfl⟩, fun _ _ es raw hc => ⟨⟨es, raw, hc, Nat.le_refl _⟩, rfl, rfl⟩, fun es hc => ⟨⟨es, hc⟩, rfl⟩⟩
theorem XR.unit {g : Gh} {w : World} {ob : Nat → Obj} : XR g w ob (.tup []) (.tuple #[]) :=
  .inr (.inr (.inr ⟨[], [], rfl, rfl, rfl, fun j q u h => by simp at h⟩))
theorem ptr_arg {g : Gh} {w : World} {ob : Nat → Obj} {k s : Nat} {cs : List PV} {vs : List Value} (hob : ob k = .box s cs) (hA : ArgsX g w ob [.bptr k s 0] vs) : vs = [.pointer (some ⟨g.blk k, 0, none⟩)] := by
  match vs, hA with
  | [], hA => have := hA.1; simp at this
  | [v], hA =>
    have h := hA.2 0 _ v rfl rfl
    obtain ⟨_, a, e1, e2⟩ := h.ref_inv (by simp [PV.key, PV.key0])
    rw [e1, e2 cs hob]
  | _ :: _ :: _, hA => have := hA.1; simp at this
section
variable {gl : Gl} {P : Program} {f T : Nat}
theorem HC_used (hE : Enters P f) (h : ∀ b w, w.cell? ⟨b, 0, none⟩ = some (.pointer (some ⟨b, 0, none⟩)) → Calls P f #[.pointer (some ⟨b, 0, none⟩)] w fun e w' => e = .returned (.tuple #[]) ∧ w' = w)
    {k s : Nat} {c1 : PV} {ob : Nat → Obj} (hob : ob k = .box s [.bptr k s 0, c1]) : HC gl P f [.bptr k s 0] ob (.tup []) ob := by
  refine ⟨hE, fun g w vs hG hH hA => ?_⟩
  rw [ptr_arg hob hA]
  have hO := hH.obj k
  rw [hob] at hO
  obtain ⟨arr, T, r1, r2, r3, r4⟩ := hO
  obtain ⟨u, h1, _, h3⟩ := r4 0 _ rfl
  have hu : u = .pointer (some ⟨g.blk k, 0, none⟩) := by
    rcases h3 with h3 | h3
    · cases h3
    · obtain ⟨_, a, e1, e2⟩ := h3
      rw [e1, e2 _ hob]
  subst hu
  refine (h (g.blk k) w (by simp only [World.cell?, r1]; exact h1)).mono ?_
  rintro e w' ⟨rfl, rfl⟩
  exact ⟨_, g, rfl, After.below hH (Below.refl _ _), XR.unit⟩
theorem HC_fresh (hE : Enters P f) (hf : ∀ b w, w.cell? ⟨b, 0, none⟩ = some (.pointer none) → w.shape? b = some (T, 2) → w.frozen? ⟨b, 0, none⟩ = false →
      Calls P f #[.pointer (some ⟨b, 0, none⟩)] w fun e w' => e = .returned (.tuple #[]) ∧ w' = w.setCell ⟨b, 0, none⟩ (.pointer (some ⟨b, 0, none⟩)))
    {k s : Nat} {c1 : PV} {ob : Nat → Obj} (hT : s % 65536 = T) (hob : ob k = .box s [.sc (.pointer none), c1]) : HC gl P f [.bptr k s 0] ob (.tup []) (upd ob k (.box s [.bptr k s 0, c1])) := by
  refine ⟨hE, fun g w vs hG hH hA => ?_⟩
  rw [ptr_arg hob hA]
  have hO := hH.obj k
  rw [hob] at hO
  obtain ⟨arr, T', r1, ⟨r2, rT⟩, r3, r4⟩ := hO
  have hl : (ob k).live := by rw [hob]; trivial
  have hTT : T' = T := by rw [← rT, hT]
  subst hTT
  obtain ⟨u, h1, _, h3⟩ := r4 0 _ rfl
  have hu : u = .pointer none := by
    rcases h3 with h3 | h3
    · cases h3; rfl
    · exact h3.elim
  subst hu
  have hsz : arr.size = 2 := r2
  refine (hf (g.blk k) w (by simp only [World.cell?, r1]; exact h1) (by simp [World.shape?, r1, hsz]) (by simp [World.frozen?, r1])).mono ?_
  rintro e w' ⟨rfl, rfl⟩
  have hset : (w.setCell ⟨g.blk k, 0, none⟩ (.pointer (some ⟨g.blk k, 0, none⟩))).heap[g.blk k]? = some (.cells (arr.setIfInBounds 0 (.pointer (some ⟨g.blk k, 0, none⟩))) T' (0, 0)) := by
    simp [World.setCell, Array.getElem?_modify, r1]
  have hS := ObStep.box g (cs' := [.bptr k s 0, c1]) hob
  refine ⟨_, g, rfl, After.turn hH k (.box s [.bptr k s 0, c1]) hl rfl rfl rfl (by simp [World.setCell]) (fun b hb => Below.heap_setCell _ _ _ _ hb) (fun i hi => by omega) hS (fun hE => ?_), XR.unit⟩
  refine ⟨_, T', hset, ⟨by simpa using hsz, rT⟩, r3, fun j q hq => ?_⟩
  match j, hq with
  | 0, hq =>
    simp at hq
    subst hq
    refine ⟨.pointer (some ⟨g.blk k, 0, none⟩), by simp [hsz], rfl, .inr ⟨by simp [upd, Obj.stamp], _, rfl, fun cs' _ => rfl⟩⟩
  | 1, hq =>
    simp at hq
    subst hq
    obtain ⟨u, q1, q2, q3⟩ := r4 1 _ rfl
    exact ⟨u, by simp [Array.getElem?_setIfInBounds, q1], q2, q3.step hE hS⟩
  | j + 2, hq => simp at hq
theorem HC_string (hE : Enters P f) {e : Nat} (hf : ∀ (b r cap : Nat) (p : Value) (cur : Array Value) (T : TypeId) (l : List UInt8) (w : World), l ≠ [] → w.heap[b]? = some (.cells #[p, .slice (some ⟨r, 0, none⟩) l.length cap] T (0, 0)) →
      w.heap[r]? = some (.cells cur e (0, 0)) → l.length ≤ cap → cap ≤ maxLen → cur.size = cap → (∀ (j : Nat) (x : UInt8), l[j]? = some x → cur[j]? = some (.int .u8 x.toNat)) →
      Calls P f #[.pointer (some ⟨b, 0, none⟩)] w fun e w' => e = .returned (.string ⟨l.toArray⟩) ∧ w' = w.drew.freeze ⟨r, 0, none⟩ l.length)
    {k s kd st : Nat} {c0 : PV} {l : List UInt8} {raw : Bool} {ob : Nat → Obj} (hl0 : l ≠ []) (hob : ob k = .box s [c0, .bld kd st 0 l.length]) (hd : ob kd = .bld st e 1 (l.map fun c => [.sc (.int .u8 c.toNat)]) raw) :
    HC gl P f [.bptr k s 0] ob (.sc (.string ⟨l.toArray⟩)) (upd ob kd (.no st)) := by
  refine ⟨hE, fun g w vs hG hH hA => ?_⟩
  rw [ptr_arg hob hA]
  have hO := hH.obj k
  rw [hob] at hO
  obtain ⟨arr, T', r1, ⟨r2, rT⟩, r3, r4⟩ := hO
  have hl : (ob kd).live := by rw [hd]; trivial
  obtain ⟨u0, h1, _, _⟩ := r4 0 _ rfl
  obtain ⟨u1, h2, _, h3⟩ := r4 1 _ rfl
  obtain ⟨b', o', cap, e1, e2, e3, e4⟩ : ∃ b o cap, u1 = .slice (some ⟨b, o, none⟩) l.length cap ∧ l.length ≤ cap ∧ cap ≤ maxLen ∧
      ∀ e sz es raw, ob kd = .bld st e sz es raw → 0 + l.length ≤ es.length ∧ b = g.blk kd ∧ (0 < l.length ∨ 0 = 0 → o = 0 * sz) ∧ (0 = 0 → cap = g.cap kd) := by
    rcases h3 with h3 | h3
    · cases h3
    · exact h3.2
  obtain ⟨f1, f2, f3, f4⟩ := e4 _ _ _ _ hd
  have ho' : o' = 0 := by have := f3 (.inr rfl); omega
  have hcap := f4 rfl
  subst ho' f2 hcap e1
  have hD := hH.obj kd
  rw [hd] at hD
  obtain ⟨cur, q1, q2, q3, q4, q5, q6, q7, q8⟩ := hD
  have harr : arr = #[u0, .slice (some ⟨g.blk kd, 0, none⟩) l.length (g.cap kd)] := by
    apply Array.ext_getElem?
    intro i
    match i with
    | 0 => simpa using h1
    | 1 => simpa using h2
    | i + 2 => rw [Array.getElem?_eq_none_iff.2 (by simp at r2; omega)]; simp
  rw [harr] at r1
  have hcell : ∀ (j : Nat) (x : UInt8), l[j]? = some x → cur[j]? = some (.int .u8 x.toNat) := by
    intro j x hx
    obtain ⟨u, t1, _, t3⟩ := q6 j 0 [.sc (.int .u8 x.toNat)] (.sc (.int .u8 x.toNat)) (by simp [hx]) rfl
    have := t3.sc_inv.1
    subst this
    simpa using t1
  refine (hf (g.blk k) (g.blk kd) (g.cap kd) u0 cur T' l w hl0 r1 q1 e2 e3 (by omega) hcell).mono ?_
  rintro e w' ⟨rfl, rfl⟩
  have hheap : ∀ b, b ≠ g.blk kd → (w.drew.freeze ⟨g.blk kd, 0, none⟩ l.length).heap[b]? = w.heap[b]? := by
    intro b hb
    unfold World.freeze
    split
    · rfl
    · simp only [Array.getElem?_modify]
      rw [if_neg (fun e => hb e.symm)]
      rfl
  refine ⟨_, g, rfl, After.turn hH kd (.no st) hl ?_ ?_ ?_ ?_ hheap (fun i hi => ?_) (ObStep.drop g kd st (by rw [hd]; exact Nat.le_refl _)) (fun _ => trivial), .inr (.inl (.inl (.sc rfl)))⟩
  · unfold World.freeze; split <;> rfl
  · unfold World.freeze; split <;> rfl
  · unfold World.freeze; split <;> rfl
  · unfold World.freeze; split
    · rfl
    · simp
  · have hd : w.drew.heap[g.blk kd]? = some (.cells cur e (0, 0)) := q1
    unfold World.freeze
    split
    · rfl
    · simp only [World.cell?, Array.getElem?_modify, if_pos, hd, q1, Option.map_some]
end
end
end Go.Hf
end
section
namespace Go.Hf
open Go.RowKit
section
variable [Tok]
def Cat (P : Program) (fc : Nat) : Prop := ∀ v w, CallsD P fc #[v] .returning w fun e u' w' => (∃ r, e = .returned r) ∧ u' = .returning ∧ w' = w
section
variable {P : Program}
theorem enters_run {f : Nat} {fn : Func} (h1 : P.funcs[f]? = some fn) (h2 : (fn.name == "runtime.NumGoroutine") = false) (h3 : fn.body.isNone = false) (args : Array Value) (w : World) : (callFunc f args).run P w = .ok (.enter f args) w := by
  simp only [callFunc, program, Sem.run_bind, Sem.run, h1, h2, h3, Bool.false_eq_true, if_false, Result.andThen_ok]
  simp
def LeavesM (P : Program) (fn : Func) (tmps : Array Value) (R : Ending → World → Prop) : List Deferred → World → Prop
  | [], w => ∃ v, (results fn tmps).run P w = .ok v w ∧ R (.returned v) w
  | d :: ds, w =>
      (∃ r w', d.target = .collected r ∧ (Instr.takeDeferred r).run P w = .ok [] w' ∧ LeavesM P fn tmps R ds w') ∨
      (∃ fc v, d = ⟨.fn (.func fc) #[], #[v]⟩ ∧ Enters P fc ∧ Cat P fc ∧ LeavesM P fn tmps R ds w)
theorem leaves_stepsM {fn : Func} {tmps : Array Value} {R : Ending → World → Prop} : ∀ (ds : List Deferred) (w : World) (fr : Frame)
    (cs : List Frame), fr.mode = .returning → fr.defers = ds → fr.tmps = tmps → P.funcs[fr.fn]? = some fn → fr.kind = .normal → LeavesM P fn tmps R ds w →
    ∃ e w' fr', R e w' ∧ Comes P (lone fr cs w) (lone fr' cs w') e ∧ fr'.fn = fr.fn ∧ fr'.leaving P w' e := by
  intro ds
  induction ds with
  | nil =>
    intro w fr cs hu hd ht hf hk h
    obtain ⟨v, hr, hR⟩ := h
    exact ⟨.returned v, w, fr, hR, Steps.refl P _, rfl, hu, hd, hk, fn, hf, ht ▸ hr⟩
  | cons d ds ih =>
    intro w fr cs hu hd ht hf hk h
    rcases h with ⟨r, w', htar, htake, hrest⟩ | ⟨fc, v, rfl, ⟨fnc, hc1, hc2, hc3⟩, hcat, hrest⟩
    · have h1 := step_collected (cs := cs) (fr := fr) (P := P) (by rw [hu]; simp) hd htar htake
      obtain ⟨e', w'', fr', hR', hs', hfn', hl'⟩ := ih w' { fr with defers := [] ++ ds } cs hu rfl ht hf hk hrest
      exact ⟨e', w'', fr', hR', Comes.of_steps (.one h1) hs', hfn', hl'⟩
    · have hinv : (invoke (.fn (.func fc) #[]) #[v]).run P w = .ok (.enter fc #[v]) w := by
        simp only [invoke, enters_run hc1 hc2 hc3, Array.append_empty]
      have h1 := step_defer (cs := cs) (fr := fr) (P := P) (by rw [hu]; simp) hd rfl hinv
      obtain ⟨e, u', w', frX, ⟨⟨rv, rfl⟩, rfl, rfl⟩, hsteps, hkX, hgo⟩ := hcat v w { fr with defers := ds } cs hu
      have h2 := step_going_returned (P := P) (c := { { fr with defers := ds } with mode := .returning }) (cs := cs) hkX hgo
      obtain ⟨e', w'', fr', hR', hs', hfn', hl'⟩ := ih w' { { { fr with defers := ds } with mode := .returning } with mode := settle .returning } cs rfl rfl ht hf hk hrest
      exact ⟨e', w'', fr', hR', Comes.of_steps (.head h1 (Steps.trans hsteps (.one h2))) hs', hfn', hl'⟩
def bodyPostM' (P : Program) (fn : Func) (R : Ending → World → Prop) : Exit → Act → World → Prop
  | .normal, a, w | .ret, a, w => LeavesM P fn a.tmps R a.defers w
  | _, _, _ => False
theorem calls_of_wp_marks {f : FuncId} {fn : Func} {c : Code} {args : Array Value} {w : World} {R : Ending → World → Prop}
    (hf : P.funcs[f]? = some fn) (hb : fn.body = some c)
    (h : c.wp P (bodyPostM' P fn R) { tmps := args ++ Array.replicate (fn.ntmps - args.size) undef, defers := [] } w) : Calls P f args w R := by
  intro cs
  let b : Frame := { (default : Frame) with fn := f, kind := .normal }
  have henter : Frame.enter P f args .normal =
      b.at { tmps := args ++ Array.replicate (fn.ntmps - args.size) undef, defers := [] } [.code c] := by
    simp [Frame.enter, Frame.at, hf, hb, b]
  obtain ⟨e, a', w', hq, harr⟩ := h b [] cs
  rw [← henter] at harr
  cases e with
  | normal =>
    obtain ⟨e', w'', fr', hR, hs, hfn, hl⟩ := leaves_stepsM a'.defers w' { b.at a' [] with mode := .returning } cs rfl rfl rfl hf rfl hq
    exact ⟨e', w'', fr', hR, Comes.of_steps (Steps.trans harr (.one step_end)) hs, hfn, hl⟩
  | ret =>
    obtain ⟨todo, hs₀⟩ := harr
    obtain ⟨e', w'', fr', hR, hs, hfn, hl⟩ := leaves_stepsM a'.defers w' { b.at a' todo with mode := .returning } cs rfl rfl rfl hf rfl hq
    exact ⟨e', w'', fr', hR, Comes.of_steps hs₀ hs, hfn, hl⟩
  | panic chain => exact hq.elim
  | exit id => exact hq.elim
  | goto l => exact hq.elim
  | outgrown => exact hq.elim
theorem wp_rangeFunc_none {g : Operand} {ps : Array Tmp} {assign body : Code} {Q : Exit → Act → World → Prop} {a : Act} {w : World} {gf : Nat} {lb : Array Value} (hg : a.eval g = .func (.func gf) #[] lb) (hen : Enters P gf)
    (h : ∀ L : Loop, L.state = .ready → L.pending = none → Calls P gf (#[.func (.yield (w.heap.size + 1)) #[] #[]] ++ lb) ((w.alloc (.deferred (some []))).alloc (.loop L)) fun e w3 => (∃ v, e = .returned v) ∧
      w3.heap[w.heap.size + 1]? = some (.loop L) ∧ Q .normal { a with defers := { target := .collected w.heap.size, args := #[] } :: a.defers } (w3.putObj (w.heap.size + 1) (.loop { L with state := .exhausted }))) :
    (Code.rangeFunc g ps assign body).wp P Q a w := by
  intro b k cs
  obtain ⟨fn, hc1, hc2, hc3⟩ := hen
  have hat : ∀ (a : Act) (k : List Item), ({ b with roundOf := none } : Frame).atR a k = b.at a k := fun a k => rfl
  have he := run_enterLoop_outer (P := P) (w := w) b.fn a.tmps ps assign body
  have hres : ∀ w1, (resolve a.eval (rangeCall g (w.heap.size + 1)) 0).run P w1 = .ok ({ target := .fn (.func gf) lb, args := #[.func (.yield (w.heap.size + 1)) #[] #[]] } : Deferred) w1 := by
    intro w1
    simp only [resolve, hg]
    simp [go_sem]
  have hinv : ∀ w1, (invoke (.fn (.func gf) lb) #[.func (.yield (w.heap.size + 1)) #[] #[]]).run P w1 = .ok (.enter gf (#[.func (.yield (w.heap.size + 1)) #[] #[]] ++ lb)) w1 := by
    intro w1
    simp only [invoke, enters_run hc1 hc2 hc3]
  have h1 := stepR_rangeFunc (P := P) (b := { b with roundOf := none }) (a := a) (k := k) (cs := cs) (w := w) (g := g) (ps := ps) (assign := assign) (body := body) he (hres _) (hinv _)
  rw [hat] at h1
  obtain ⟨e, w3, fr, ⟨⟨v, rfl⟩, hl, hq⟩, hsteps, hfn, hleave⟩ := h { state := .ready, pending := none, fn := b.fn, tmps := a.tmps, params := ps, assign, body, defers := w.heap.size } rfl rfl (({ b with roundOf := none } : Frame).atR { a with defers := [{ target := .collected w.heap.size, args := #[] }] ++ a.defers } (.inRangeFunc (w.heap.size + 1) :: k) :: cs)
  refine ⟨.normal, _, _, hq, .head h1 (Steps.trans hsteps (.head (step_leave_returned hleave) (.one ?_)))⟩
  rw [finish_atR_inRangeFunc]
  have hend := run_endLoop (P := P) hl (by simp)
  exact stepR_endRangeFunc hend
end
end
end Go.Hf
end

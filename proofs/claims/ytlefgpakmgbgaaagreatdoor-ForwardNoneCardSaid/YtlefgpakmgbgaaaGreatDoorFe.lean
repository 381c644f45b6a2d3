/- Fast values, part O: what a body denotes is what it does: operations. -/
import Derived.Test.YtlefgpakmgbgaaaGreatDoorFd
set_option linter.unusedVariables false
set_option linter.unusedSimpArgs false
set_option linter.unusedSectionVars false
section
namespace Go.Hf
open Go.RowKit
section
variable [Tok]
noncomputable def stE (env : Env) (h : HS) : St := ⟨fun i => dec (env i), h.dob⟩
theorem evK_dec (env : Env) (h : HS) : (fun x => dec (evK env x)) = evalIn (stE env h).env := by
  funext x
  cases x with
  | tmp t => rfl
  | const v => exact encK_ok v
  | func f => simp only [evK, dec]; rfl
  | global g => simp only [evK, dec]; rfl
theorem put_dec (env : Env) (h h' : HS) (d : Option Nat) (v : XV) : stE (putE env d v) h' = ⟨put (stE env h).env d (dec v), h'.dob⟩ := by
  cases d with
  | none => rfl
  | some t =>
    show St.mk _ _ = St.mk _ _
    congr 1
    funext j
    show dec (@Bool.rec (fun _ => XV) (env j) v (Nat.beq j t)) = if j = t then dec v else dec (env j)
    by_cases e : j = t
    · subst e; rw [beq_self, if_pos rfl]
    · rw [beq_ne (fun x => e x.symm), if_neg e]
theorem Sel.c {a : Ans} {x y : Option XV} {k : XV → Ans} (s : Sel a x k) (e : x = y) : Sel a y k := e ▸ s
theorem SelU.c {b : Nat} {wk : Option (List Nat)} {a : Ans} {x y : UX} {h : HS} {k : KX} (s : SelU b wk a x h k) (e : x = y) : SelU b wk a y h k := e ▸ s
theorem SelU.bad {b : Nat} {wk : Option (List Nat)} {x : UX} {h : HS} {k : KX} : SelU b wk .no x h k := fun h => absurd rfl h
theorem denR_sel {b d : Nat} {wk : Option (List Nat)} {ev : Operand → XV} {h : HS} {k : KX} {r : ROp} : SelU b wk (denR b d wk ev h k r) (popX ev h.ob (b + d) r) h k := by
  cases r with
  | mv x => exact (Sel.u (x := some (ev x)) fun _ => ⟨_, rfl, rfl⟩)
  | pick c x y => exact (kPick_sel _ _ _ _).u
  | alloc t zero => exact kAlloc_sel _ _ _ _ _ _ _
  | box t x => exact kBox_sel _ _ _ _ _ _ _
  | build zero ps =>
    refine (Sel.u (kBuild_sel _ _ _)).c ?_
    simp only [popX]
    cases fillPartsX (zero.map encC) (ps.map fun q => (q.1, q.2.1, ev q.2.2)) <;> rfl
  | bslice e sz zero len ps raw =>
    refine (kBslice_sel _ _ _ _ _ _ _ _ _ _ _).c ?_
    simp only [popX, uBslice, List.flatMap_map]
    rfl
  | load isAgg n a => exact (kLoad_sel _ _ _ _ _).u
  | store n a v => exact kStore_sel _ _ _ _ _ _ _
  | nilchk x => exact (kNil_sel _ _).u
  | bin op x y => exact (kBin_sel _ _ _ _).u
  | binb neg x y => exact (kBinb_sel _ _ _ _).u
  | eqs neg x y => exact (kEqs_sel _ _ _ _).u
  | isnil neg x => exact (kIsnil_sel _ _ _).u
  | un op x => exact (kUn_sel _ _ _).u
  | cint kk x => exact (kv_sel _ _).u
  | b2s x => exact (kv_sel _ _).u
  | mkslice e sz bytes zero l c => exact ku_sel _ _ _ _ _
  | sslice x lo hi => exact (kSslice_sel _ _ _ _).u
  | slc sz x lo hi => exact (kSlc_sel _ _ _ _ _ _).u
  | faddr o x => exact (kFaddr_sel _ _ _).u
  | fld isAgg off n x => exact (kFld_sel _ _ _ _ _).u
  | iaddr sz x i => exact (kIaddr_sel _ _ _ _ _).u
  | sidx x i => exact (kSidx_sel _ _ _).u
  | ext x i => exact (kExt_sel _ _ _).u
  | len isStr x => exact (kLen_sel _ _ _).u
  | append e sz bytes s x raw => exact kAppend_sel _ _ _ _ _ _ _ _ _ _ _
  | apps e bytes s x raw => exact kApps_sel _ _ _ _ _ _ _ _ _ _
  | mx isMax x y => exact (kv_sel _ _).u
  | aaddr n sz x i => exact (kv_sel _ _).u
  | sh op x y => exact (kv_sel _ _).u
  | bits op x y => exact (kv_sel _ _).u
  | mkfun f caps => exact (kv_sel _ _).u
  | mkmap => exact ku_sel b wk (some (XV.mref (Nat.add b d) (Nat.add (h.ob (Nat.add b d)).stamp 1), [(Nat.add b d, XObj.map (Nat.add (h.ob (Nat.add b d)).stamp 1) [])])) h k
  | mput kd m x v => exact ku_sel _ _ _ _ _
  | mget kd ok zero m x => exact (kv_sel _ _).u
  | _ => exact SelU.bad
section
variable {gl : Gl} {P : Program}
noncomputable def dobX (ub : Nat) (l : SL) : Nat → Obj := fun k => decO (obX ub l k)
def CallOk (gl : Gl) (P : Program) (u : Fn) : Prop :=
  ∀ f args ub segs res ub' segs' dirty, u f args ub segs = .ok res ub' segs' dirty → HC gl P f (args.map dec) (dobX ub segs) (dec res) (dobX ub' segs') ∧
    (∀ k, k < ub → k ∉ dirty → obX ub' segs' k = obX ub segs k) ∧ ∀ k ∈ res.keys, k < ub'
theorem dobX_zero (l : SL) : dobX 0 l = noOb := by
  funext k
  show decO (obX 0 l k) = .no 0
  rw [obX_ge (Nat.zero_le k)]; rfl
theorem dob_eq (h : HS) : h.dob = dobX h.ub h.segs := by
  funext k; show decO (h.ob k) = _; rw [HS.ob_eq]; rfl
theorem fnOf_dec {x : XV} {f : Nat} {caps : List XV} (h : (match x with
    | .sc (.func (.func f) ⟨[]⟩ ⟨[]⟩) => some (f, [])
    | .clo f caps => some (f, caps)
    | _ => none) = some (f, caps)) : fnOf (dec x) = some (f, caps.map dec) := by
  split at h
  · cases h; simp only [dec, List.map_nil]; rfl
  · cases h; simp only [dec, decL_map]; rfl
  · cases h
theorem onF_ne {x : XV} {g : Nat → List XV → Ans} (h : onF x g ≠ .no) : ∃ f caps, fnOf (dec x) = some (f, caps.map dec) ∧ onF x g = g f caps := by
  unfold onF at h ⊢
  split at h
  · exact ⟨_, [], by simp only [dec, List.map_nil]; rfl, rfl⟩
  · exact ⟨_, _, by simp only [dec, decL_map]; rfl, rfl⟩
  · exact absurd rfl h
theorem onFS_ne {x : XV} {g : Nat → Ans} (h : onFS x g ≠ .no) : ∃ f, dec x = .sc (.func (.func f) #[] #[]) ∧ onFS x g = g f := by
  unfold onFS at h ⊢
  split at h
  · exact ⟨_, by simp only [dec], rfl⟩
  · exact absurd rfl h
theorem fltL_mem {b x : Nat} (hx : x < b) : ∀ {l : List Nat}, x ∈ l → x ∈ fltL b l
  | y :: r, h => by
    show x ∈ @Bool.rec (fun _ => List Nat) (fltL b r) (y :: fltL b r) (Nat.ble (Nat.succ y) b)
    rcases List.mem_cons.1 h with rfl | h
    · have : Nat.ble (Nat.succ x) b = true := Nat.ble_eq_true_of_le hx
      rw [this]; exact List.mem_cons_self
    · cases Nat.ble (Nat.succ y) b with
      | true => exact List.mem_cons_of_mem _ (fltL_mem hx h)
      | false => exact fltL_mem hx h
def Does (gl : Gl) (P : Program) (b : Nat) (draw : Bool) (o : POper) (env : Env) (h : HS) (a : Ans) (k : KX) : Prop :=
  a ≠ .no → ∃ v h', NX b h h' ∧ a = k v h' ∧
      ∀ K : St → Prop, K ⟨put (stE env h).env o.dst (dec v), h'.dob⟩ → metOk b draw o (evalIn (stE env h).env) → wantedIn (stE env h).env o.guard = some true → pwOp gl P b draw o (stE env h) K
theorem kCall_ok {u : Fn} (hu : CallOk gl P u) {b : Nat} {draw : Bool} {o : POper} {f : Operand} {args : List Operand} {env : Env} {h : HS} {k : KX} {fid : Nat} (hr : o.r = .call f args)
    (hfe : evalIn (stE env h).env f = .sc (.func (.func fid) #[] #[])) : Does gl P b draw o env h (kCall u b (wkO draw o) fid (args.map (evK env)) h k) k := by
  intro hn
  unfold kCall at hn ⊢
  obtain ⟨ps, us, hp, e⟩ := kPrep_ne hn
  rw [e] at hn ⊢
  unfold kGo at hn ⊢
  obtain ⟨ht, e⟩ := bo_ne hn
  rw [e] at hn ⊢
  have hp' := prepP_ok hp
  rw [evK_dec env h] at hp'
  cases ha : u fid ps 0 .nil with
  | no => rw [ha] at hn; exact absurd rfl hn
  | ok res ub' segs' dirty =>
    rw [ha] at hn
    change bo (Nat.beq ub' 0) (kUpd b us h fun h' => k res h') .no ≠ .no at hn
    show ∃ v h', NX b h h' ∧ bo (Nat.beq ub' 0) (kUpd b us h fun h' => k res h') .no = k v h' ∧ _
    obtain ⟨hz, e⟩ := bo_ne hn
    rw [e] at hn ⊢
    obtain ⟨h', e1, e2⟩ := kUpd_ne hn
    have ez := Nat.eq_of_beq_eq_true hz
    subst ez
    obtain ⟨n1, n2, n3⟩ := e1
    refine ⟨res, h', n1, e2, fun K hK hm hw => ?_⟩
    obtain ⟨c1, _, c3⟩ := hu _ _ _ _ _ _ _ _ ha
    rw [dobX_zero, dobX_zero] at c1
    unfold pwOp
    rw [hw]
    refine ⟨hm, ?_⟩
    simp only [hr]
    rw [hfe]
    simp only []
    have hp2 : prep (evalIn (stE env h).env) (stE env h).objs [] args = some (ps.map dec, us.map decU) := hp'
    rw [hp2]
    refine ⟨dec res, ⟨c1, ?_⟩, trn_ok ht, ?_⟩
    · rw [keys_dec]; exact List.eq_nil_iff_forall_not_mem.2 fun k hk => Nat.not_lt_zero k (c3 k hk)
    · rw [n2] at hK; exact hK
theorem kCallV_ok {u : Fn} (hu : CallOk gl P u) {b : Nat} {draw : Bool} {o : POper} {f : Operand} {args : List Operand} {env : Env} {h : HS} {k : KX} (hr : o.r = .call f args) :
    Does gl P b draw o env h (kCallV u b (wkO draw o) (evK env f) (args.map (evK env)) h k) k := by
  intro hn
  unfold kCallV at hn ⊢
  obtain ⟨fid, hf, e⟩ := onFS_ne hn
  rw [e] at hn ⊢
  refine kCall_ok hu hr ?_ hn
  rw [← evK_dec env h]
  exact hf
theorem memF_iff {l : List Nat} {x : Nat} (h : memF l x = true) : x ∈ l := memF_ok h
theorem trK_ok {b : Nat} {wk : List Nat} : ∀ {l : List Nat}, trK b wk l = true → ∀ k ∈ l, cls b k ∈ wk
  | x :: r, h, k, hk => by
    have h' : an (memF wk (clsX b x)) (trK b wk r) = true := h
    rw [an_eq, Bool.and_eq_true] at h'
    rcases List.mem_cons.1 hk with rfl | hk
    · have := memF_ok h'.1
      rw [clsX_eq] at this; exact this
    · exact trK_ok h'.2 k hk
theorem kHCall_core {u : Fn} (hu : CallOk gl P u) {b : Nat} {draw : Bool} {o : POper} {f : Operand} {args : List Operand} {frz : List Bool} {env : Env} {h : HS} {fid : Nat} {caps ps : List XV} {us : List (Nat × XObj)} (hr : o.r = .hcall f args frz)
    (hfe : fnOf (evalIn (stE env h).env f) = some (fid, caps.map dec)) (hp : prepP h.ob frz (args.map (evK env)) = some (ps, us)) {ub : Nat} {segs : SL} {d : List Nat} (hU : Upd b us h (.mk ub segs d)) {res : XV} {ub' : Nat} {segs' : SL} {dirty : List Nat} (ha : u fid (ps ++ caps) ub segs = .ok res ub' segs' dirty)
    (hb : b + 4096 ≤ h.ub) (hle : ub ≤ ub') (hd : draw = true → 4097 ∈ o.rk ∧ (∀ u ∈ us, cls b u.1 ∈ o.wk) ∧ (∀ k ∈ dirty, cls b k ∈ o.wk) ∧ (ub = ub' ∨ 4096 ∈ o.wk ∧ 4098 ∈ o.wk)) :
    NX b h (.mk ub' segs' (apL (fltL b dirty) d)) ∧ ∀ K : St → Prop, K ⟨put (stE env h).env o.dst (dec res), (HS.mk ub' segs' (apL (fltL b dirty) d)).dob⟩ → metOk b draw o (evalIn (stE env h).env) → wantedIn (stE env h).env o.guard = some true → pwOp gl P b draw o (stE env h) K := by
  obtain ⟨n1, n2, n3⟩ := hU
  have hp' := prepP_ok hp
  rw [evK_dec env h] at hp'
  obtain ⟨c1, c2, _⟩ := hu _ _ _ _ _ _ _ _ ha
  have hub : h.ub = ub := n3.symm
  refine ⟨n1.trans ⟨hle, fun x hx => ?_, fun x hx hnd => ?_⟩, fun K hK hm hw => ?_⟩
  · show x ∈ apL (fltL b dirty) d
    rw [apL_eq]; exact List.mem_append.2 (.inr hx)
  · show obX ub' segs' x = obX ub segs x
    refine c2 x (by omega) (fun hd => hnd ?_)
    show x ∈ apL (fltL b dirty) d
    rw [apL_eq]
    exact List.mem_append.2 (.inl (fltL_mem hx hd))
  · unfold pwOp
    rw [hw]
    refine ⟨hm, ?_⟩
    simp only [hr]
    rw [hfe]
    simp only []
    have hp2 : prep (evalIn (stE env h).env) (stE env h).objs frz args = some (ps.map dec, us.map decU) := hp'
    rw [hp2]
    refine ⟨dec res, dobX ub' segs', ?_, fun hdr => ?_, hK⟩
    · change HC gl P fid (ps.map dec ++ caps.map dec) (updAll h.dob (us.map decU)) (dec res) (dobX ub' segs')
      rw [← n2, dob_eq, ← List.map_append]
      exact c1
    · obtain ⟨d1, d2, d3, d4⟩ := hd hdr
      refine ⟨d1, fun k => ?_⟩
      by_cases hku : ∃ u ∈ us, u.1 = k
      · obtain ⟨u, hu, rfl⟩ := hku
        exact .inr (d2 u hu)
      · have e1 : (HS.mk ub segs d).dob k = h.dob k := by
          rw [n2]
          exact updAll_ne _ _ _ (fun u' hu' e => by
            obtain ⟨q, hq, rfl⟩ := List.mem_map.1 hu'
            exact hku ⟨q, hq, e⟩)
        have e2 : dobX ub segs k = h.dob k := e1
        by_cases hk : k < ub
        · by_cases hkd : k ∈ dirty
          · exact .inr (d3 k hkd)
          · left
            show decO _ = h.dob k
            rw [c2 k hk hkd]; exact e2
        · rcases d4 with e | h4
          · left
            have e3 : dobX ub' segs' k = .no 0 := by show decO _ = _; rw [obX_ge (by omega)]; rfl
            have e4 : dobX ub segs k = .no 0 := by show decO _ = _; rw [obX_ge (by omega)]; rfl
            have e5 : (stE env h).objs k = .no 0 := e2.symm.trans e4
            rw [e3, e5]
          · right
            unfold cls; rw [if_neg (by omega)]
            split
            · exact h4.1
            · exact h4.2
theorem kHCall_ok {u : Fn} (hu : CallOk gl P u) {b : Nat} {o : POper} {f : Operand} {args : List Operand} {frz : List Bool} {env : Env} {h : HS} {k : KX} {fid : Nat} {caps : List XV} (hr : o.r = .hcall f args frz)
    (hb : b + 4096 ≤ h.ub) (hfe : fnOf (evalIn (stE env h).env f) = some (fid, caps.map dec)) : Does gl P b false o env h (kHCall u b fid caps (args.map (evK env)) frz h k) k := by
  intro hn
  unfold kHCall at hn ⊢
  obtain ⟨ps, us, hp, e⟩ := kPrep_ne hn
  rw [e] at hn ⊢
  unfold kGoH at hn ⊢
  obtain ⟨h1, e1, e2⟩ := kUpd_ne hn
  rw [e2] at hn ⊢
  cases h1 with
  | mk ub segs d =>
    change kGotH b ub d k (u fid (apL ps caps) ub segs) ≠ .no at hn
    show ∃ v h', NX b h h' ∧ kGotH b ub d k (u fid (apL ps caps) ub segs) = k v h' ∧ _
    rw [apL_eq] at hn ⊢
    cases ha : u fid (ps ++ caps) ub segs with
    | no => rw [ha] at hn; exact absurd rfl hn
    | ok res ub' segs' dirty =>
      rw [ha] at hn
      change bo (Nat.ble ub ub') (k res (.mk ub' segs' (apL (fltL b dirty) d))) .no ≠ .no at hn
      show ∃ v h', NX b h h' ∧ bo (Nat.ble ub ub') (k res (.mk ub' segs' (apL (fltL b dirty) d))) .no = k v h' ∧ _
      obtain ⟨hle, e⟩ := bo_ne hn
      rw [e]
      obtain ⟨r1, r2⟩ := kHCall_core (draw := false) hu hr hfe hp e1 ha hb (Nat.le_of_ble_eq_true hle) (fun h => by cases h)
      exact ⟨res, _, r1, rfl, r2⟩
theorem kHCallD_ok {u : Fn} (hu : CallOk gl P u) {b : Nat} {o : POper} {f : Operand} {args : List Operand} {frz : List Bool} {env : Env} {h : HS} {k : KX} {fid : Nat} {caps : List XV} (hr : o.r = .hcall f args frz)
    (hb : b + 4096 ≤ h.ub) (hrk : memF o.rk 4097 = true) (hfe : fnOf (evalIn (stE env h).env f) = some (fid, caps.map dec)) : Does gl P b true o env h (kHCallD u b o.wk fid caps (args.map (evK env)) frz h k) k := by
  intro hn
  unfold kHCallD at hn ⊢
  obtain ⟨ps, us, hp, e⟩ := kPrep_ne hn
  rw [e] at hn ⊢
  unfold kGoHD at hn ⊢
  obtain ⟨ht, e⟩ := bo_ne hn
  rw [e] at hn ⊢
  obtain ⟨h1, e1, e2⟩ := kUpd_ne hn
  rw [e2] at hn ⊢
  cases h1 with
  | mk ub segs d =>
    change kGotHD b o.wk ub d k (u fid (apL ps caps) ub segs) ≠ .no at hn
    show ∃ v h', NX b h h' ∧ kGotHD b o.wk ub d k (u fid (apL ps caps) ub segs) = k v h' ∧ _
    rw [apL_eq] at hn ⊢
    cases ha : u fid (ps ++ caps) ub segs with
    | no => rw [ha] at hn; exact absurd rfl hn
    | ok res ub' segs' dirty =>
      rw [ha] at hn
      change bo (Nat.ble ub ub') (bo (trK b o.wk dirty) (bo (newF o.wk ub ub') (k res (.mk ub' segs' (apL (fltL b dirty) d))) .no) .no) .no ≠ .no at hn
      show ∃ v h', NX b h h' ∧ bo (Nat.ble ub ub') (bo (trK b o.wk dirty) (bo (newF o.wk ub ub') (k res (.mk ub' segs' (apL (fltL b dirty) d))) .no) .no) .no = k v h' ∧ _
      obtain ⟨hle, e⟩ := bo_ne hn
      rw [e] at hn ⊢
      obtain ⟨htk, e⟩ := bo_ne hn
      rw [e] at hn ⊢
      obtain ⟨hnw, e⟩ := bo_ne hn
      rw [e]
      obtain ⟨r1, r2⟩ := kHCall_core (draw := true) hu hr hfe hp e1 ha hb (Nat.le_of_ble_eq_true hle) (fun _ => ⟨memF_ok hrk, fun q hq => trn_ok (draw := true) (o := o) (us := us) ht rfl (decU q) (List.mem_map.2 ⟨q, hq, rfl⟩), trK_ok htk, by
        unfold newF at hnw
        cases hbq : Nat.beq ub ub' with
        | true => exact .inl (Nat.eq_of_beq_eq_true hbq)
        | false =>
          rw [hbq] at hnw
          have hnw' : an (memF o.wk 4096) (memF o.wk 4098) = true := hnw
          rw [an_eq, Bool.and_eq_true] at hnw'
          exact .inr ⟨memF_ok hnw'.1, memF_ok hnw'.2⟩⟩)
      exact ⟨res, _, r1, rfl, r2⟩
theorem denR_ok {b : Nat} {draw : Bool} {o : POper} {env : Env} {h : HS} {k : KX} (hnc : ∀ f a, o.r ≠ .call f a) (hnh : ∀ f a z, o.r ≠ .hcall f a z) :
    Does gl P b draw o env h (denR b (Nat.add o.r.off (o.dst.getD 0)) (wkO draw o) (evK env) h k o.r) k := by
  intro hn
  obtain ⟨v, us, h', e1, e2, e3, e4⟩ := denR_sel hn
  obtain ⟨n1, n2, n3⟩ := e3
  refine ⟨v, h', n1, e4, fun K hK hm hw => ?_⟩
  have hp := popX_ok e1
  rw [evK_dec env h] at hp
  have key : (match pop (evalIn (stE env h).env) h.dob (b + o.r.off + o.dst.getD 0) o.r with
      | some (v, us) => turnedOk b draw o us ∧ K ⟨put (stE env h).env o.dst v, updAll h.dob us⟩
      | none => False) := by
    have hp2 : pop (evalIn (stE env h).env) h.dob (b + o.r.off + o.dst.getD 0) o.r = some (dec v, us.map decU) := by
      rw [Nat.add_assoc]; exact hp
    rw [hp2]
    refine ⟨trn_ok e2, ?_⟩
    rw [n2] at hK
    exact hK
  unfold pwOp
  rw [hw]
  refine ⟨hm, ?_⟩
  revert key
  cases hor : o.r with
  | call f args => exact absurd hor (hnc f args)
  | hcall f args frz => exact absurd hor (hnh f args frz)
  | _ => exact fun k => k
theorem denW_ok {u : Fn} (hu : CallOk gl P u) {b : Nat} {draw : Bool} {o : POper} {env : Env} {h : HS} {k : KX} (hb : b + 4096 ≤ h.ub) : Does gl P b draw o env h (denW u b draw o (evK env) h k) k := by
  cases hr : o.r with
  | call f args =>
    cases f with
    | func i =>
      have e : denW u b draw o (evK env) h k = kCall u b (wkO draw o) i (args.map (evK env)) h k := by unfold denW; rw [hr]
      rw [e]
      exact kCall_ok hu hr rfl
    | tmp t =>
      have e : denW u b draw o (evK env) h k = kCallV u b (wkO draw o) (evK env (.tmp t)) (args.map (evK env)) h k := by unfold denW; rw [hr]
      rw [e]; exact kCallV_ok hu hr
    | const v =>
      have e : denW u b draw o (evK env) h k = kCallV u b (wkO draw o) (evK env (.const v)) (args.map (evK env)) h k := by unfold denW; rw [hr]
      rw [e]; exact kCallV_ok hu hr
    | global g =>
      have e : denW u b draw o (evK env) h k = kCallV u b (wkO draw o) (evK env (.global g)) (args.map (evK env)) h k := by unfold denW; rw [hr]
      rw [e]; exact kCallV_ok hu hr
  | hcall f args frz =>
    cases draw with
    | true =>
      cases hrk : memF o.rk 4097 with
      | false =>
        have e : denW u b true o (evK env) h k = .no := by
          unfold denW; rw [hr]; cases f <;> simp only [hrk] <;> rfl
        rw [e]; exact fun h => absurd rfl h
      | true =>
        have gen : Does gl P b true o env h (kHCallVD u b o.wk (evK env f) (args.map (evK env)) frz h k) k := by
          intro hn
          unfold kHCallVD at hn ⊢
          obtain ⟨fid, caps, hf, e⟩ := onF_ne hn
          rw [e] at hn ⊢
          refine kHCallD_ok hu hr hb hrk ?_ hn
          rw [← evK_dec env h]
          exact hf
        cases f with
        | func i =>
          have e : denW u b true o (evK env) h k = kHCallD u b o.wk i [] (args.map (evK env)) frz h k := by unfold denW; rw [hr]; simp only [hrk]
          rw [e]
          exact kHCallD_ok hu hr hb hrk rfl
        | tmp t =>
          have e : denW u b true o (evK env) h k = kHCallVD u b o.wk (evK env (.tmp t)) (args.map (evK env)) frz h k := by unfold denW; rw [hr]; simp only [hrk]
          rw [e]; exact gen
        | const v =>
          have e : denW u b true o (evK env) h k = kHCallVD u b o.wk (evK env (.const v)) (args.map (evK env)) frz h k := by unfold denW; rw [hr]; simp only [hrk]
          rw [e]; exact gen
        | global g =>
          have e : denW u b true o (evK env) h k = kHCallVD u b o.wk (evK env (.global g)) (args.map (evK env)) frz h k := by unfold denW; rw [hr]; simp only [hrk]
          rw [e]; exact gen
    | false =>
      have gen : Does gl P b false o env h (kHCallV u b (evK env f) (args.map (evK env)) frz h k) k := by
        intro hn
        unfold kHCallV at hn ⊢
        obtain ⟨fid, caps, hf, e⟩ := onF_ne hn
        rw [e] at hn ⊢
        refine kHCall_ok hu hr hb ?_ hn
        rw [← evK_dec env h]
        exact hf
      cases f with
      | func i =>
        have e : denW u b false o (evK env) h k = kHCall u b i [] (args.map (evK env)) frz h k := by unfold denW; rw [hr]
        rw [e]
        exact kHCall_ok hu hr hb rfl
      | tmp t =>
        have e : denW u b false o (evK env) h k = kHCallV u b (evK env (.tmp t)) (args.map (evK env)) frz h k := by unfold denW; rw [hr]
        rw [e]; exact gen
      | const v =>
        have e : denW u b false o (evK env) h k = kHCallV u b (evK env (.const v)) (args.map (evK env)) frz h k := by unfold denW; rw [hr]
        rw [e]; exact gen
      | global g =>
        have e : denW u b false o (evK env) h k = kHCallV u b (evK env (.global g)) (args.map (evK env)) frz h k := by unfold denW; rw [hr]
        rw [e]; exact gen
  | _ =>
    have e : denW u b draw o (evK env) h k = denR b (Nat.add o.r.off (o.dst.getD 0)) (wkO draw o) (evK env) h k o.r := by unfold denW; rw [hr]
    rw [e]
    exact denR_ok (by rw [hr]; intros; simp) (by rw [hr]; intros; simp)
theorem metC_ok {b : Nat} {rk : List Nat} : ∀ {cs : List XV}, metC b rk cs = true → (∀ k ∈ cs.flatMap XV.key, cls b k ∈ rk) ∧ (∀ k ∈ cs.flatMap XV.key0, cls b k ∈ rk)
  | [], _ => ⟨by simp, by simp⟩
  | c :: r, h => by
    have hr : metC b rk r = true ∧ (∀ k ∈ c.key, cls b k ∈ rk) ∧ (∀ k ∈ c.key0, cls b k ∈ rk) := by
      have one : ∀ {k : Nat}, an (memF rk (clsX b k)) (metC b rk r) = true → metC b rk r = true ∧ cls b k ∈ rk := by
        intro k h
        rw [an_eq, Bool.and_eq_true] at h
        have := memF_ok h.1
        rw [clsX_eq] at this
        exact ⟨h.2, this⟩
      cases c with
      | bptr k s o => obtain ⟨h1, h2⟩ := one h; exact ⟨h1, by intro j hj; simp [XV.key, XV.key0] at hj; subst hj; exact h2, by intro j hj; simp [XV.key0] at hj; subst hj; exact h2⟩
      | bld k s o l => obtain ⟨h1, h2⟩ := one h; exact ⟨h1, by intro j hj; simp [XV.key, XV.key0] at hj; subst hj; exact h2, by intro j hj; simp [XV.key0] at hj; subst hj; exact h2⟩
      | kptr k s i o => obtain ⟨h1, h2⟩ := one h; exact ⟨h1, by intro j hj; simp [XV.key, XV.key0] at hj; subst hj; exact h2, by intro j hj; simp [XV.key0] at hj; subst hj; exact h2⟩
      | mref k s => obtain ⟨h1, h2⟩ := one h; exact ⟨h1, by intro j hj; simp [XV.key, XV.key0] at hj; subst hj; exact h2, by intro j hj; simp [XV.key0] at hj; subst hj; exact h2⟩
      | _ => first | exact ⟨h, by simp [XV.key, XV.key0], by simp [XV.key0]⟩ | exact absurd h (by intro h; cases h)
    obtain ⟨h1, h2⟩ := metC_ok hr.1
    constructor
    · intro k hk
      rw [List.flatMap_cons, List.mem_append] at hk
      exact hk.elim (hr.2.1 k) (h1 k)
    · intro k hk
      rw [List.flatMap_cons, List.mem_append] at hk
      exact hk.elim (hr.2.2 k) (h2 k)
theorem metV_ok {b : Nat} {rk : List Nat} {x : XV} (h : metV b rk x = true) : ∀ k ∈ x.keys, cls b k ∈ rk := by
  have one : ∀ {k : Nat}, memF rk (clsX b k) = true → cls b k ∈ rk := by
    intro k h
    have := memF_ok h
    rw [clsX_eq] at this
    exact this
  cases x with
  | agg cs => exact (metC_ok h).1
  | clo f cs => exact (metC_ok h).2
  | bptr k s o => intro j hj; simp [XV.keys, XV.keysA, XV.key, XV.key0] at hj; subst hj; exact one h
  | bld k s o l => intro j hj; simp [XV.keys, XV.keysA, XV.key, XV.key0] at hj; subst hj; exact one h
  | kptr k s i o => intro j hj; simp [XV.keys, XV.keysA, XV.key, XV.key0] at hj; subst hj; exact one h
  | mref k s => intro j hj; simp [XV.keys, XV.keysA, XV.key, XV.key0] at hj; subst hj; exact one h
  | tup cs => cases h
  | _ => simp [XV.keys, XV.keysA, XV.key, XV.key0]
theorem met_ne {b : Nat} {rk : List Nat} {a : Ans} : ∀ {xs : List XV}, met b rk xs a ≠ .no → met b rk xs a = a ∧ ∀ x ∈ xs, ∀ k ∈ x.keys, cls b k ∈ rk
  | [], _ => ⟨rfl, by simp⟩
  | x :: r, h => by
    change bo (metV b rk x) (met b rk r a) .no ≠ .no at h
    show bo (metV b rk x) (met b rk r a) .no = a ∧ _
    obtain ⟨h1, e⟩ := bo_ne h
    rw [e] at h ⊢
    obtain ⟨h2, h3⟩ := met_ne h
    refine ⟨h2, fun y hy k hk => ?_⟩
    rcases List.mem_cons.1 hy with rfl | hy
    · exact metV_ok h1 k hk
    · exact h3 y hy k hk
theorem keys_const (env : Nat → PV) : ∀ (x : Operand), (∀ t, x ≠ .tmp t) → (evalIn env x).keys = []
  | .tmp t, h => absurd rfl (h t)
  | .func _, _ => rfl
  | .global _, _ => rfl
  | .const v, _ => by
    cases v with
    | agg cs =>
      show (cs.toList.map PV.sc).flatMap PV.key = []
      rw [List.flatMap_map]
      exact List.flatMap_eq_nil_iff.2 fun _ _ => rfl
    | _ => rfl
theorem tmpsO_mem {env : Nat → PV} : ∀ {l : List Operand} {x : Operand}, x ∈ l → x ∈ tmpsO l ∨ (evalIn env x).keys = []
  | y :: r, x, h => by
    rcases List.mem_cons.1 h with rfl | h
    · cases x with
      | tmp t => left; exact List.mem_cons_self
      | _ => right; exact keys_const env _ (by intro t; simp)
    · rcases tmpsO_mem (env := env) h with h2 | h2
      · left
        cases y with
        | tmp t => exact List.mem_cons_of_mem _ h2
        | _ => exact h2
      · exact .inr h2
theorem denM_ok {u : Fn} (hu : CallOk gl P u) {b : Nat} {draw : Bool} {o : POper} {env : Env} {h : HS} {k : KX} (hb : b + 4096 ≤ h.ub) (hn : denM u b draw o (evK env) h k ≠ .no) :
    ∃ v h', NX b h h' ∧ denM u b draw o (evK env) h k = k v h' ∧
      ∀ K : St → Prop, K ⟨put (stE env h).env o.dst (dec v), h'.dob⟩ → wantedIn (stE env h).env o.guard = some true → pwOp gl P b draw o (stE env h) K := by
  unfold denM at hn ⊢
  cases hd : (draw && o.r.looks) with
  | false =>
    rw [hd] at hn
    change denW u b draw o (evK env) h k ≠ .no at hn
    show ∃ v h', NX b h h' ∧ denW u b draw o (evK env) h k = k v h' ∧ _
    obtain ⟨v, h', n1, e1, e2⟩ := denW_ok hu hb hn
    refine ⟨v, h', n1, e1, fun K hK => e2 K hK ?_⟩
    intro h1 h2
    rw [h1, h2] at hd
    cases hd
  | true =>
    rw [hd] at hn
    change met b o.rk ((metOps o.r).map (evK env)) (denW u b draw o (evK env) h k) ≠ .no at hn
    show ∃ v h', NX b h h' ∧ met b o.rk ((metOps o.r).map (evK env)) (denW u b draw o (evK env) h k) = k v h' ∧ _
    obtain ⟨e0, hm⟩ := met_ne hn
    rw [e0] at hn ⊢
    obtain ⟨v, h', n1, e1, e2⟩ := denW_ok hu hb hn
    refine ⟨v, h', n1, e1, fun K hK => ?_⟩
    by_cases hh : ∃ f args frz, o.r = .hcall f args frz
    · obtain ⟨f, args, frz, hr⟩ := hh
      refine e2 K hK ?_
      intro hdr _ x hx k hk
      right
      cases hrk : memF o.rk 4097 with
      | true => exact memF_ok hrk
      | false =>
        exfalso
        subst hdr
        apply hn
        unfold denW; rw [hr]; cases f <;> simp only [hrk] <;> rfl
    · refine e2 K hK ?_
      intro _ _ x hx k hk
      left
      have hmo : metOps o.r = tmpsO o.r.lookOpnds := by
        cases hr : o.r with
        | hcall f args frz => exact absurd ⟨f, args, frz, hr⟩ hh
        | _ => rfl
      rw [hmo] at hm
      rcases tmpsO_mem hx with hx | hx
      · refine hm (evK env x) (List.mem_map.2 ⟨x, hx, rfl⟩) k ?_
        rw [← keys_dec]
        rw [← evK_dec env h] at hk
        exact hk
      · rw [hx] at hk; cases hk
theorem sameG_ok {a b : Option (Nat × Bool)} (h : sameG a b = true) : a = b := by
  cases a with
  | none => cases b with
    | none => rfl
    | some _ => cases h
  | some p => cases b with
    | none => cases h
    | some q =>
      obtain ⟨t, w⟩ := p
      obtain ⟨t', w'⟩ := q
      simp only [sameG, Bool.and_eq_true] at h
      have h1 := Nat.eq_of_beq_eq_true h.1
      have h2 : w = w' := by simpa using h.2
      rw [h1, h2]
theorem under_ok {g : Option (Nat × Bool)} {o : POper} (h : under g o = true) : o.guard = g ∧ ∀ t w, g = some (t, w) → o.dst ≠ some t := by
  simp only [under, Bool.and_eq_true] at h
  refine ⟨sameG_ok h.1, fun t w hg hd => ?_⟩
  subst hg
  have h2 := h.2
  rw [hd] at h2
  simp [sameN] at h2
def GuardAt (g : Option (Nat × Bool)) (env : Env) : Prop := ∀ t w, g = some (t, w) → env t = .b w
theorem GuardAt.put {g : Option (Nat × Bool)} {env : Env} (h : GuardAt g env) {o : POper} (ho : under g o = true) (v : XV) : GuardAt g (putE env o.dst v) := by
  intro t w hg
  have h1 := (under_ok ho).2 t w hg
  cases hd : o.dst with
  | none => exact h t w hg
  | some d =>
    have hne : t ≠ d := fun e => h1 (by rw [hd, e])
    show @Bool.rec (fun _ => XV) (env t) v (Nat.beq t d) = _
    rw [beq_ne (fun e => hne e.symm)]
    exact h t w hg
theorem GuardAt.wanted {g : Option (Nat × Bool)} {env : Env} {h : HS} {o : POper} (hG : GuardAt g env) (ho : under g o = true) : wantedIn (stE env h).env o.guard = some true := by
  rw [(under_ok ho).1]
  cases g with
  | none => rfl
  | some p =>
    obtain ⟨t, w⟩ := p
    show (match dec (env t) with | .sc (.bool b) => some (b == w) | .tup [] => some false | _ => none) = some true
    rw [hG t w rfl]; simp only [dec]; simp
theorem putE_other (env : Env) (d : Option Nat) (v : XV) (i : Nat) (h : ∀ t, d = some t → i ≠ t) : putE env d v i = env i := by
  cases d with
  | none => rfl
  | some t =>
    show @Bool.rec (fun _ => XV) (env i) v (Nat.beq i t) = _
    rw [beq_ne (fun e => h t rfl e.symm)]
theorem dsts_cons (o : POper) (r : List POper) : dsts (o :: r) = (match o.dst with | some d => [d] | none => []) ++ dsts r := by
  show (match o.dst with | some d => d :: dsts r | none => dsts r) = _
  cases o.dst <;> rfl
theorem denPl_ok {u : Fn} (hu : CallOk gl P u) {b : Nat} {draw : Bool} {g : Option (Nat × Bool)} : ∀ {os : List POper} {env : Env} {h : HS} {k : Env → HS → Ans}, b + 4096 ≤ h.ub → os.all (under g) = true → GuardAt g env → denPl u b draw os env h k ≠ .no →
    ∃ env' h', NX b h h' ∧ denPl u b draw os env h k = k env' h' ∧ (∀ i, i ∉ dsts os → env' i = env i) ∧ ∀ K : St → Prop, K (stE env' h') → pwOps gl P b draw os (stE env h) K
  | [], env, h, k, _, _, _, _ => ⟨env, h, NX.refl, rfl, fun _ _ => rfl, fun _ hK => hK⟩
  | o :: os, env, h, k, hb, hall, hG, hn => by
    rw [List.all_cons, Bool.and_eq_true] at hall
    have hn' : denM u b draw o (evK env) h (fun v h' => denPl u b draw os (putE env o.dst v) h' k) ≠ .no := hn
    obtain ⟨v, h1, n1, e1, p1⟩ := denM_ok hu hb hn'
    rw [e1] at hn'
    obtain ⟨env2, h2, n2, e2, f2, p2⟩ := denPl_ok hu (os := os) (Nat.le_trans hb n1.ub) hall.2 (hG.put hall.1 v) hn'
    refine ⟨env2, h2, n1.trans n2, ?_, fun i hi => ?_, fun K hK => p1 _ ?_ (hG.wanted hall.1)⟩
    · show denM u b draw o (evK env) h (fun v h' => denPl u b draw os (putE env o.dst v) h' k) = _
      rw [e1, e2]
    · rw [dsts_cons, List.mem_append] at hi
      rw [f2 i (fun h => hi (.inr h)), putE_other env o.dst v i (fun t ht e => hi (.inl (by rw [ht, e]; exact List.mem_singleton_self _)))]
    · have := p2 K hK
      rw [put_dec env h h1] at this
      exact this
theorem miss_ok {b : Nat} {draw : Bool} {t : Nat} {w : Bool} : ∀ {os : List POper} {env : Env} {h : HS}, os.all (under (some (t, w))) = true → (env t = .b (!w) ∨ env t = .tup []) →
    (∀ i, i ∉ dsts os → missE os env i = env i) ∧ ∀ K : St → Prop, K (stE (missE os env) h) → pwOps gl P b draw os (stE env h) K
  | [], _, _, _, _ => ⟨fun _ _ => rfl, fun _ hK => hK⟩
  | o :: os, env, h, hall, hm => by
    rw [List.all_cons, Bool.and_eq_true] at hall
    have hu := under_ok hall.1
    have ht : putE env o.dst (.tup []) t = env t := putE_other env o.dst _ t (fun d hd e => hu.2 t w rfl (by rw [hd, e]))
    obtain ⟨f2, p2⟩ := miss_ok (os := os) (env := putE env o.dst (.tup [])) (h := h) (b := b) (draw := draw) hall.2 (by rw [ht]; exact hm)
    refine ⟨fun i hi => ?_, fun K hK => ?_⟩
    · rw [dsts_cons, List.mem_append] at hi
      show missE os (putE env o.dst (.tup [])) i = _
      rw [f2 i (fun h => hi (.inr h)), putE_other env o.dst _ i (fun d hd e => hi (.inl (by rw [hd, e]; exact List.mem_singleton_self _)))]
    · have hw : wantedIn (stE env h).env o.guard = some false := by
        rw [hu.1]
        show (match dec (env t) with | .sc (.bool b) => some (b == w) | .tup [] => some false | _ => none) = some false
        rcases hm with hm | hm
        · rw [hm]; simp only [dec]; cases w <;> rfl
        · rw [hm]; simp only [dec, decL]
      show pwOp gl P b draw o (stE env h) fun s' => pwOps gl P b draw os s' K
      unfold pwOp
      rw [hw]
      have := p2 K hK
      rw [put_dec env h h] at this
      have e : dec (.tup []) = .tup [] := by simp [dec, decL]
      rw [e] at this
      exact this
noncomputable def mg : List Nat → Env → Env → Env
  | [], _, e0 => e0
  | s :: l, e, e0 => mg l e (updX e0 s (e s))
theorem updX_get (e : Env) (s : Nat) (v : XV) (i : Nat) : updX e s v i = if i = s then v else e i := by
  show @Bool.rec (fun _ => XV) (e i) v (Nat.beq i s) = _
  by_cases h : i = s
  · subst h; rw [beq_self, if_pos rfl]
  · rw [beq_ne (fun x => h x.symm), if_neg h]
theorem mg_get : ∀ (l : List Nat) (e e0 : Env) (i : Nat), (e0 i = .undef ∨ e0 i = e i) → (mg l e e0 i = .undef ∨ mg l e e0 i = e i)
  | [], _, _, _, h => h
  | s :: l, e, e0, i, h => by
    refine mg_get l e _ i ?_
    rw [updX_get]
    split
    · rename_i h; subst h; exact .inr rfl
    · exact h
theorem mg_all : ∀ (l : List Nat) (e e0 : Env) (i : Nat), (i ∉ l → e0 i = e i) → mg l e e0 i = e i
  | [], _, _, _, h => h (by simp)
  | s :: l, e, e0, i, h => by
    refine mg_all l e _ i fun hi => ?_
    rw [updX_get]
    split
    · rename_i h; subst h; rfl
    · rename_i hne; exact h (by simp [hne, hi])
theorem app_lam : ∀ (l : List Nat) (F : Env → HS → Ans) (e e0 : Env) (h : HS), appE l (lamE l F e0) e h = F (mg l e e0) h
  | [], _, _, _, _ => rfl
  | s :: l, F, e, e0, h => app_lam l F e (updX e0 s (e s)) h
theorem app_bot : ∀ (l : List Nat) (e : Env) (h : HS), appE l (botE l) e h = .no
  | [], _, _ => rfl
  | _ :: l, e, h => app_bot l e h
theorem app_same {l : List Nat} {F : Env → HS → Ans} {e e0 : Env} {h : HS} (hs : ∀ i, i ∉ l → e i = e0 i) : appE l (lamE l F e0) e h = F e h := by
  rw [app_lam]
  congr 1
  funext i
  exact mg_all l e e0 i fun hi => (hs i hi).symm
theorem denRun_ok {u : Fn} (hu : CallOk gl P u) {b : Nat} {draw : Bool} {g : Option (Nat × Bool)} {os : List POper} {env : Env} {h : HS} {k : Env → HS → Ans} (hb : b + 4096 ≤ h.ub) (hn : denRun u b draw g os env h k ≠ .no) :
    ∃ env' h', NX b h h' ∧ denRun u b draw g os env h k = k env' h' ∧ ∀ K : St → Prop, K (stE env' h') → pwOps gl P b draw os (stE env h) K := by
  unfold denRun at hn ⊢
  cases hall : os.all (under g) with
  | false => rw [hall] at hn; exact absurd rfl hn
  | true =>
    rw [hall] at hn
    cases g with
    | none =>
      change denPl u b draw os env h k ≠ .no at hn
      show ∃ env' h', NX b h h' ∧ denPl u b draw os env h k = _ ∧ _
      obtain ⟨env', h', n1, e1, _, p1⟩ := denPl_ok hu hb hall (fun _ _ h => by cases h) hn
      exact ⟨env', h', n1, e1, p1⟩
    | some p =>
      obtain ⟨t, w⟩ := p
      change grdB (env t) w (denPl u b draw os env h fun env1 h1 => appE (dsts os) (lamE (dsts os) k env) env1 h1) (appE (dsts os) (lamE (dsts os) k env) (missE os env) h) ≠ .no at hn
      show ∃ env' h', NX b h h' ∧ grdB (env t) w (denPl u b draw os env h fun env1 h1 => appE (dsts os) (lamE (dsts os) k env) env1 h1) (appE (dsts os) (lamE (dsts os) k env) (missE os env) h) = _ ∧ _
      rcases grdB_ne hn with ⟨hx, e⟩ | ⟨hx, e⟩
      · rw [e] at hn ⊢
        obtain ⟨env', h', n1, e1, f1, p1⟩ := denPl_ok hu (k := fun env1 h1 => appE (dsts os) (lamE (dsts os) k env) env1 h1) hb hall (fun t' w' h => by cases h; exact hx) hn
        refine ⟨env', h', n1, ?_, p1⟩
        rw [e1, app_same f1]
      · rw [e]
        obtain ⟨f1, p1⟩ := miss_ok (gl := gl) (P := P) (b := b) (draw := draw) (h := h) hall hx
        exact ⟨missE os env, h, NX.refl, app_same f1, p1⟩
theorem pwOps_append {b : Nat} {draw : Bool} : ∀ (os os' : List POper) (s : St) (K : St → Prop), pwOps gl P b draw (os ++ os') s K = pwOps gl P b draw os s (fun s' => pwOps gl P b draw os' s' K)
  | [], _, _, _ => rfl
  | o :: os, os', s, K => by
    show pwOp gl P b draw o s (fun s' => pwOps gl P b draw (os ++ os') s' K) = pwOp gl P b draw o s (fun s' => pwOps gl P b draw os s' fun s' => pwOps gl P b draw os' s' K)
    congr 1
    funext s'
    exact pwOps_append os os' s' K
theorem denRs_ok {u : Fn} (hu : CallOk gl P u) {b : Nat} {draw : Bool} : ∀ {rs : List (Option (Nat × Bool) × List POper)} {env : Env} {h : HS} {k : Env → HS → Ans}, b + 4096 ≤ h.ub → denRs u b draw rs env h k ≠ .no →
    ∃ env' h', NX b h h' ∧ denRs u b draw rs env h k = k env' h' ∧ ∀ K : St → Prop, K (stE env' h') → pwOps gl P b draw (rs.flatMap (·.2)) (stE env h) K
  | [], env, h, k, _, _ => ⟨env, h, NX.refl, rfl, fun _ hK => hK⟩
  | (g, os) :: rs, env, h, k, hb, hn => by
    have hn' : denRun u b draw g os env h (fun env' h' => denRs u b draw rs env' h' k) ≠ .no := hn
    obtain ⟨env1, h1, n1, e1, p1⟩ := denRun_ok hu hb hn'
    rw [e1] at hn'
    obtain ⟨env2, h2, n2, e2, p2⟩ := denRs_ok hu (rs := rs) (Nat.le_trans hb n1.ub) hn'
    refine ⟨env2, h2, n1.trans n2, ?_, fun K hK => ?_⟩
    · show denRun u b draw g os env h (fun env' h' => denRs u b draw rs env' h' k) = _
      rw [e1, e2]
    · rw [List.flatMap_cons]
      rw [pwOps_append]
      exact p1 _ (p2 K hK)
theorem denOs_ok {u : Fn} (hu : CallOk gl P u) {b : Nat} {draw : Bool} {os : List POper} {env : Env} {h : HS} {k : Env → HS → Ans} (hb : b + 4096 ≤ h.ub) (hn : denOs u b draw os env h k ≠ .no) :
    ∃ env' h', NX b h h' ∧ denOs u b draw os env h k = k env' h' ∧ ∀ K : St → Prop, K (stE env' h') → pwOps gl P b draw os (stE env h) K := by
  have := denRs_ok hu (rs := runs os) hb hn
  rw [runs_flat] at this
  exact this
end
end
end Go.Hf
end
section
namespace Go.Hf
open Go.RowKit
section
variable [Tok]
theorem weak_mg {K : St → Prop} {l : List Nat} {e : Env} {h : HS} (hk : K (stE (mg l e noE) h)) : weak K (stE e h) := by
  refine ⟨fun i => dec (mg l e noE i), fun i => ?_, hk⟩
  rcases mg_get l e noE i (.inl rfl) with h | h
  · left; show dec _ = _; rw [h]; simp only [dec]
  · right; show dec _ = dec _; rw [h]
section
variable {gl : Gl} {P : Program}
def contX (kn : Env → HS → Ans) (ke : Nat → Env → HS → Ans) (kr : Env → HS → Ans) : PX → Env → HS → Ans
  | .normal => kn
  | .exit i => ke i
  | .ret => kr
def DenOk (gl : Gl) (P : Program) (b : Nat) (c : PC) (env : Env) (h : HS) (a : Ans) (kn : Env → HS → Ans) (ke : Nat → Env → HS → Ans) (kr : Env → HS → Ans) : Prop :=
  a ≠ .no → ∃ x env' h', NX b h h' ∧ a = contX kn ke kr x env' h' ∧ ∀ Q : PX → St → Prop, Q x (stE env' h') → pw gl P b c Q (stE env h)
theorem den_ok {u : Fn} (hu : CallOk gl P u) {b n : Nat} : ∀ (c : AC) (env : Env) (h : HS) (kn : Env → HS → Ans) (ke : Nat → Env → HS → Ans) (kr : Env → HS → Ans), b + 4096 ≤ h.ub →
    DenOk gl P b c.pc env h (den u b n c env h kn ke kr) kn ke kr := by
  intro c
  induction c with
  | skip => intro env h kn ke kr _ _; exact ⟨.normal, env, h, NX.refl, rfl, fun Q hQ => hQ⟩
  | region draw ops =>
    intro env h kn ke kr hb hn
    obtain ⟨env', h', n1, e1, p1⟩ := denOs_ok hu (os := ops) (k := kn) hb hn
    exact ⟨.normal, env', h', n1, e1, fun Q hQ => p1 _ hQ⟩
  | seq x y ihx ihy =>
    intro env h kn ke kr hb hn
    obtain ⟨x1, env1, h1, n1, e1, p1⟩ := ihx env h (fun env h => den u b n y env h kn ke kr) ke kr hb hn
    change den u b n x env h (fun env h => den u b n y env h kn ke kr) ke kr ≠ .no at hn
    cases x1 with
    | normal =>
      rw [e1] at hn
      obtain ⟨x2, env2, h2, n2, e2, p2⟩ := ihy env1 h1 kn ke kr (Nat.le_trans hb n1.ub) hn
      exact ⟨x2, env2, h2, n1.trans n2, e1.trans e2, fun Q hQ => p1 _ (weak_intro (p2 Q hQ))⟩
    | exit i => exact ⟨.exit i, env1, h1, n1, e1, fun Q hQ => p1 _ hQ⟩
    | ret => exact ⟨.ret, env1, h1, n1, e1, fun Q hQ => p1 _ hQ⟩
  | jn l x y ihx ihy =>
    intro env h kn ke kr hb hn
    change den u b n x env h (fun env h => appE l (lamE l (fun env h => den u b n y env h kn ke kr) noE) env h) ke kr ≠ .no at hn
    obtain ⟨x1, env1, h1, n1, e1, p1⟩ := ihx env h _ ke kr hb hn
    cases x1 with
    | normal =>
      rw [e1] at hn
      change appE l (lamE l (fun env h => den u b n y env h kn ke kr) noE) env1 h1 ≠ .no at hn
      rw [app_lam] at hn
      obtain ⟨x2, env2, h2, n2, e2, p2⟩ := ihy (mg l env1 noE) h1 kn ke kr (Nat.le_trans hb n1.ub) hn
      refine ⟨x2, env2, h2, n1.trans n2, ?_, fun Q hQ => p1 _ (weak_mg (p2 Q hQ))⟩
      refine Eq.trans e1 ?_
      show appE l (lamE l (fun env h => den u b n y env h kn ke kr) noE) env1 h1 = _
      rw [app_lam]; exact e2
    | exit i => exact ⟨.exit i, env1, h1, n1, e1, fun Q hQ => p1 _ hQ⟩
    | ret => exact ⟨.ret, env1, h1, n1, e1, fun Q hQ => p1 _ hQ⟩
  | cond c x y ihx ihy =>
    intro env h kn ke kr hb hn
    change onB (evK env c) (fun t => bo t (den u b n x env h kn ke kr) (den u b n y env h kn ke kr)) ≠ .no at hn
    obtain ⟨t, hc, e⟩ := onB_ne hn
    have hc' : evalIn (stE env h).env c = .sc (.bool t) := by
      rw [← evK_dec env h]; show dec (evK env c) = _; rw [hc]; simp only [dec]
    rw [e] at hn
    cases t with
    | true =>
      obtain ⟨x1, env1, h1, n1, e1, p1⟩ := ihx env h kn ke kr hb hn
      refine ⟨x1, env1, h1, n1, Eq.trans e e1, fun Q hQ => ?_⟩
      simp only [AC.pc, pw, hc']; exact p1 Q hQ
    | false =>
      obtain ⟨x1, env1, h1, n1, e1, p1⟩ := ihy env h kn ke kr hb hn
      refine ⟨x1, env1, h1, n1, Eq.trans e e1, fun Q hQ => ?_⟩
      simp only [AC.pc, pw, hc']; exact p1 Q hQ
  | block id x ih =>
    intro env h kn ke kr hb hn
    obtain ⟨x1, env1, h1, n1, e1, p1⟩ := ih env h kn (fun i => @Bool.rec (fun _ => Env → HS → Ans) (ke i) kn (Nat.beq i id)) kr hb hn
    cases x1 with
    | normal => exact ⟨.normal, env1, h1, n1, e1, fun Q hQ => p1 _ hQ⟩
    | ret => exact ⟨.ret, env1, h1, n1, e1, fun Q hQ => p1 _ hQ⟩
    | exit i =>
      by_cases hi : i = id
      · subst hi
        refine ⟨.normal, env1, h1, n1, ?_, fun Q hQ => p1 _ ?_⟩
        · refine Eq.trans e1 ?_
          show (@Bool.rec (fun _ => Env → HS → Ans) (ke i) kn (Nat.beq i i)) env1 h1 = _
          rw [beq_self]; rfl
        · simp only [inBlockX, if_true]; exact hQ
      · refine ⟨.exit i, env1, h1, n1, ?_, fun Q hQ => p1 _ ?_⟩
        · refine Eq.trans e1 ?_
          show (@Bool.rec (fun _ => Env → HS → Ans) (ke i) kn (Nat.beq i id)) env1 h1 = _
          rw [beq_ne (fun x => hi x.symm)]; rfl
        · simp only [inBlockX, if_neg hi]; exact hQ
  | loop l x ih =>
    intro env h kn ke kr hb hn
    have key : ∀ (m : Nat) (env : Env) (h : HS), b + 4096 ≤ h.ub → appE l (lp l m fun j => lamE l (fun env h => den u b n x env h (fun env h => appE l j env h) ke kr) noE) env h ≠ .no →
        ∃ x1 env' h', NX b h h' ∧ appE l (lp l m fun j => lamE l (fun env h => den u b n x env h (fun env h => appE l j env h) ke kr) noE) env h = contX kn ke kr x1 env' h' ∧
          ∀ Q : PX → St → Prop, Q x1 (stE env' h') → ∃ m, rounds (pw gl P b x.pc) Q m (stE env h) := by
      intro m
      induction m with
      | zero => intro env h _ hn; exact absurd (app_bot l env h) hn
      | succ m ihm =>
        intro env h hb hn
        change appE l (lamE l (fun env h => den u b n x env h (fun env h => appE l (lp l m fun j => lamE l (fun env h => den u b n x env h (fun env h => appE l j env h) ke kr) noE) env h) ke kr) noE) env h ≠ .no at hn
        show ∃ x1 env' h', NX b h h' ∧ appE l (lamE l (fun env h => den u b n x env h (fun env h => appE l (lp l m fun j => lamE l (fun env h => den u b n x env h (fun env h => appE l j env h) ke kr) noE) env h) ke kr) noE) env h = _ ∧ _
        rw [app_lam] at hn ⊢
        obtain ⟨x1, env1, h1, n1, e1, p1⟩ := ih (mg l env noE) h _ ke kr hb hn
        cases x1 with
        | normal =>
          rw [e1] at hn ⊢
          obtain ⟨x2, env2, h2, n2, e2, p2⟩ := ihm env1 h1 (Nat.le_trans hb n1.ub) hn
          refine ⟨x2, env2, h2, n1.trans n2, e2, fun Q hQ => ?_⟩
          obtain ⟨m', hm'⟩ := p2 Q hQ
          exact ⟨m' + 1, weak_mg (p1 (thenX (rounds (pw gl P b x.pc) Q m') Q) hm')⟩
        | exit i => exact ⟨.exit i, env1, h1, n1, e1, fun Q hQ => ⟨1, weak_mg (p1 (thenX (rounds (pw gl P b x.pc) Q 0) Q) hQ)⟩⟩
        | ret => exact ⟨.ret, env1, h1, n1, e1, fun Q hQ => ⟨1, weak_mg (p1 (thenX (rounds (pw gl P b x.pc) Q 0) Q) hQ)⟩⟩
    obtain ⟨x1, env1, h1, n1, e1, p1⟩ := key n env h hb hn
    exact ⟨x1, env1, h1, n1, e1, fun Q hQ => p1 Q hQ⟩
  | exit id => intro env h kn ke kr _ _; exact ⟨.exit id, env, h, NX.refl, rfl, fun Q hQ => hQ⟩
  | ret => intro env h kn ke kr _ _; exact ⟨.ret, env, h, NX.refl, rfl, fun Q hQ => hQ⟩
end
end
end Go.Hf
end

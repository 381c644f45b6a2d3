/- Fast values, part D: the operations over fast values. -/
import Derived.Test.YtlefgpakmgbgaaaGreatDoorFa
import Derived.Test.YtlefgpakmgbgaaaGreatDoorEk
set_option linter.unusedVariables false
set_option linter.unusedSimpArgs false
set_option linter.unusedSectionVars false
section
namespace Go.Hf
section
variable [Tok]
theorem decL_encC (l : List Value) : decL (l.map encC) = l.map PV.sc := by
  rw [decL_map, List.map_map]
  apply List.map_congr_left
  intro x _
  exact encC_ok x
abbrev UX := Option (XV × List (Nat × XObj))
def o1 (x : Option XV) : UX := match x with | some v => some (v, []) | none => none
def vPick (c a b : XV) : Option XV := match c with | .b true => some a | .b false => some b | _ => none
def fillPartsX (cs : List XV) : List (Nat × Nat × XV) → Option (List XV)
  | [] => some cs
  | (off, n, x) :: r =>
    match x.cells with
    | some new => bif Nat.beq new.length n && Nat.ble (Nat.add off n) cs.length then fillPartsX (putCellsX cs off new) r else none
    | none => none
def fillElemsX (ob : Nat → XObj) (sz : Nat) (es : List (List XV)) : List (Nat × XV) → Option (List (List XV))
  | [] => some es
  | (i, x) :: r =>
    match pureValX ob x with
    | some q => match q.cells with
      | some new => bif Nat.beq new.length sz && Nat.blt i es.length then fillElemsX ob sz (es.set i new) r else none
      | none => none
    | none => none
def vLoad (ob : Nat → XObj) (isAgg : Bool) (n : Nat) (a : XV) : Option XV :=
  match a with
  | .bptr k s off => match ob k with
    | .box s' cs => bif Nat.beq s s' then takeAggX isAgg n cs off else none
    | _ => none
  | .kptr k s i off => match ob k with
    | .bld s' _ _ es _ => bif Nat.beq s s' then (match es[i]? with | some cs => takeAggX isAgg n cs off | none => none) else none
    | _ => none
  | .eptr cs off => takeAggX isAgg n cs off
  | _ => none
def uStore (ob : Nat → XObj) (n : Nat) (a v : XV) : UX :=
  match a with
  | .bptr k s off => match ob k, v.cells with
    | .box s' cs, some new => bif Nat.beq s s' && Nat.beq new.length n && Nat.ble (Nat.add off n) cs.length then some (.undef, [(k, .box s (putCellsX cs off new))]) else none
    | _, _ => none
  | .kptr k s i off => match ob k, pureValX ob v with
    | .bld s' e sz es true, some q => match q.cells, es[i]? with
      | some new, some cs => bif Nat.beq s s' && Nat.beq new.length n && Nat.ble (Nat.add off n) cs.length && v.keys.isEmpty then some (.undef, [(k, .bld s e sz (es.set i (putCellsX cs off new)) true)]) else none
      | _, _ => none
    | _, _ => none
  | _ => none
def vNilchk : XV → Option XV
  | .bptr k s off => some (.bptr k s off)
  | .kptr k s i off => some (.kptr k s i off)
  | .eptr cs off => some (.eptr cs off)
  | _ => none
def vBin (op : BinOp) (x y : XV) : Option XV :=
  match x, y with
  | .i k a, .i k' b => bif sameK k k' then (match intB op k a b with | some v => some v | none => slow (sbin op) x y) else none
  | .s l n, .s l' n' => match op with
    | .eql => some (.b (eqS l n l' n'))
    | .neq => some (.b (!eqS l n l' n'))
    | .add => bif Nat.ble (Nat.add l l') 9223372036854775807 then some (.s (Nat.add l l') (Nat.add (Nat.mul n (Nat.pow 256 l')) (Nat.mod n' (Nat.pow 256 l')))) else none
    | _ => none
  | _, _ => none
theorem slow_ok {f : Value → Value → Option Value} {x y v : XV} (h : slow f x y = some v) : ∃ a b z, dec x = .sc a ∧ dec y = .sc b ∧ f a b = some z ∧ dec v = .sc z := by
  unfold slow at h
  split at h
  · rename_i a b ha hb
    rw [Option.bind_eq_some_iff] at h
    obtain ⟨z, h1, h2⟩ := h
    exact ⟨a, b, z, toV_ok ha, toV_ok hb, h1, encV_ok h2⟩
  · cases h
theorem vBin_ok {op : BinOp} {x y v : XV} (h : vBin op x y = some v) : ∃ a b z, dec x = .sc a ∧ dec y = .sc b ∧ sbin op a b = some z ∧ dec v = .sc z := by
  unfold vBin at h
  split at h
  · rename_i k a k' b
    cases hk : sameK k k' with
    | false => rw [hk] at h; simp at h
    | true =>
      rw [hk] at h
      have e := sameK_ok hk
      subst e
      simp only [cond_true] at h
      split at h
      · rename_i w hw
        cases h
        obtain ⟨z, h1, h2⟩ := intB_ok hw
        exact ⟨_, _, z, by simp [dec], by simp [dec], h1, h2⟩
      · exact slow_ok h
  · rename_i l n l' n'
    split at h
    · cases h; exact ⟨.string (bytesB l n), .string (bytesB l' n'), .bool ((bytesB l n).toList == (bytesB l' n').toList), by simp only [dec], by simp only [dec], by simp only [sbin], by simp only [dec, eqS_iff]⟩
    · cases h; exact ⟨.string (bytesB l n), .string (bytesB l' n'), .bool (!((bytesB l n).toList == (bytesB l' n').toList)), by simp only [dec], by simp only [dec], by simp only [sbin], by simp only [dec, eqS_iff]⟩
    · cases hc : Nat.ble (Nat.add l l') 9223372036854775807 with
      | false => rw [hc] at h; simp at h
      | true =>
        rw [hc] at h
        simp only [cond_true, Option.some.injEq] at h
        subst h
        have hle : l + l' ≤ 9223372036854775807 := Nat.le_of_ble_eq_true hc
        refine ⟨.string (bytesB l n), .string (bytesB l' n'), .string (bytesB l n ++ bytesB l' n'), by simp only [dec], by simp only [dec], ?_, ?_⟩
        · simp only [sbin, bytesB_size]
          rw [if_neg]
          show ¬ ((l + l' : Nat) : Int) > 9223372036854775807
          omega
        · simp only [dec, bytesB_append]
          rfl
    · cases h
  · cases h
def vBinb (neg : Bool) (x y : XV) : Option XV := match x, y with | .b a, .b b => some (.b (xor neg (a == b))) | _, _ => none
def vEqs (neg : Bool) (x y : XV) : Option XV := match x, y with
  | .agg [.s a n, .s b m], .agg [.s a' n', .s b' m'] => some (.b (xor neg (eqS a n a' n' && eqS b m b' m')))
  | _, _ => none
def vIsnil (neg : Bool) (x : XV) : Option XV := match x with
  | .nl => some (.b !neg)
  | .lst _ _ => some (.b neg)
  | .bld _ _ _ _ => some (.b neg)
  | _ => none
def vUn (op : UnOp) (x : XV) : Option XV := match x with
  | .b a => match op with | .not => some (.b !a) | _ => none
  | x => match toV x with | some a => (sun op a).bind encV | none => none
def vCint (k : IntKind) (x : XV) : Option XV := match x with
  | .i _ n => bif inK k n then some (.i k n) else encV (.int k (k.wrap (intOf n)))
  | _ => none
def vSh (op : BinOp) (x y : XV) : Option XV := slow (sshift op) x y
def vBits (op : BinOp) (x y : XV) : Option XV := slow (sbits op) x y
def boundX (dflt : Nat) (x : Option XV) : Option Nat := match x with
  | none => some dflt
  | some (.i _ n) => bif Nat.ble 18446744073709551616 n then some (Nat.sub n 18446744073709551616) else none
  | _ => none
def vSslice (x : XV) (lo hi : Option XV) : Option XV := match x with
  | .s l n => match boundX 0 lo, boundX l hi with
    | some a, some b => bif Nat.ble a b && Nat.ble b l then some (.s (Nat.sub b a) (Nat.mod (Nat.div n (Nat.pow 256 (Nat.sub l b))) (Nat.pow 256 (Nat.sub b a)))) else none
    | _, _ => none
  | _ => none
def vSlc (ob : Nat → XObj) (sz : Nat) (x : XV) (lo hi : Option XV) : Option XV := match x with
  | .lst sz' es => match boundX 0 lo, boundX es.length hi with
    | some l, some h => bif Nat.beq sz' sz && Nat.ble l h && Nat.ble h es.length then some (.lst sz (part es l (Nat.sub h l))) else none
    | _, _ => none
  | .bld k s off len => match boundX 0 lo, boundX len hi, ob k with
    | some l, some h, .bld s' _ sz' _ _ => bif Nat.beq s s' && Nat.beq sz' sz && Nat.ble l h && Nat.ble h len then some (.bld k s (Nat.add off l) (Nat.sub h l)) else none
    | _, _, _ => none
  | .nl => match boundX 0 lo, boundX 0 hi with
    | some 0, some 0 => some .nl
    | _, _ => none
  | _ => none
def vFaddr (o : Nat) (x : XV) : Option XV := match x with
  | .bptr k s off => some (.bptr k s (Nat.add off o))
  | .kptr k s i off => some (.kptr k s i (Nat.add off o))
  | .eptr cs off => some (.eptr cs (Nat.add off o))
  | _ => none
def vFld (isAgg : Bool) (off n : Nat) (x : XV) : Option XV := match x with
  | .agg cs => takeAggX isAgg n cs off
  | _ => none
def vIaddr (ob : Nat → XObj) (sz : Nat) (x i : XV) : Option XV := match x, i with
  | .lst sz' es, .i _ n => bif Nat.beq sz' sz && Nat.ble 18446744073709551616 n then (match es[Nat.sub n 18446744073709551616]? with | some cs => some (.eptr cs 0) | none => none) else none
  | .bld k s off len, .i _ n => match ob k with
    | .bld s' _ sz' _ _ => bif Nat.beq s s' && Nat.beq sz' sz && Nat.ble 18446744073709551616 n && Nat.blt (Nat.sub n 18446744073709551616) len then some (.kptr k s (Nat.add off (Nat.sub n 18446744073709551616)) 0) else none
    | _ => none
  | _, _ => none
def vSidx (x i : XV) : Option XV := match x, i with
  | .s l n, .i _ m => bif Nat.ble 18446744073709551616 m && Nat.blt (Nat.sub m 18446744073709551616) l then
      some (.i .u8 (Nat.add 18446744073709551616 (Nat.mod (Nat.div n (Nat.pow 256 (Nat.sub (Nat.sub l 1) (Nat.sub m 18446744073709551616)))) 256))) else none
  | _, _ => none
def vExt (x : XV) (i : Nat) : Option XV := match x with
  | .tup vs => vs[i]?
  | _ => none
def vLen (isStr : Bool) (x : XV) : Option XV := match isStr, x with
  | true, .s l _ => some (.i .i64 (Nat.add 18446744073709551616 l))
  | false, .nl => some (.i .i64 18446744073709551616)
  | false, .lst _ es => some (.i .i64 (Nat.add 18446744073709551616 es.length))
  | false, .bld _ _ _ len => some (.i .i64 (Nat.add 18446744073709551616 len))
  | _, _ => none
def uAppend (ob : Nat → XObj) (d e sz bytes : Nat) (s x : XV) (raw : Bool) : UX :=
  match s, elemsX ob sz x with
  | .nl, some ys =>
    bif Nat.ble (Nat.mul ys.length bytes) 1099511627776 && Nat.ble ys.length 1099511627776 then
      match ys with
      | [] => some (.nl, [])
      | _ => some (.bld d (Nat.add (ob d).stamp 1) 0 ys.length, [(d, .bld (Nat.add (ob d).stamp 1) e sz ys raw)])
    else none
  | .bld k st 0 len, some ys => match ob k with
    | .bld st' e' sz' es r =>
      bif Nat.beq st st' && Nat.beq e' e && Nat.beq sz' sz && (Nat.beq len es.length || (r && Nat.ble len es.length)) && Nat.ble (Nat.mul (Nat.add len ys.length) bytes) 1099511627776 && Nat.ble (Nat.add len ys.length) 1099511627776 then
        some (.bld k (Nat.add st 1) 0 (Nat.add len ys.length), [(k, .bld (Nat.add st 1) e sz (es.take len ++ ys) r)])
      else none
    | _ => none
  | _, _ => none
noncomputable def strElsF (l n : Nat) : List (List XV) :=
  @Nat.rec (fun _ => List (List XV)) [] (fun k ih => [.i .u8 (Nat.add 18446744073709551616 (Nat.mod (Nat.div n (Nat.pow 256 k)) 256))] :: ih) l
def vAaddr (n sz : Nat) (x i : XV) : Option XV := match x, i with
  | .bptr k s off, .i _ m => bif Nat.ble 18446744073709551616 m && Nat.ble (Nat.succ (Nat.sub m 18446744073709551616)) n then some (.bptr k s (Nat.add off (Nat.mul (Nat.sub m 18446744073709551616) sz))) else none
  | _, _ => none
def vMx (isMax : Bool) (x y : XV) : Option XV := match x, y with
  | .i k a, .i k' b => bif sameK k k' then some (.i k (bif isMax then (bif Nat.blt a b then b else a) else (bif Nat.blt b a then b else a))) else none
  | _, _ => none
def uMkslice (d e sz bytes : Nat) (stamp : Nat) (zero : List XV) (l c : XV) : UX := match l, c with
  | .i .i64 a, .i .i64 b =>
    bif Nat.ble 18446744073709551616 a && Nat.ble a b && Nat.ble (Nat.mul (Nat.sub b 18446744073709551616) bytes) 1099511627776 && Nat.ble (Nat.sub b 18446744073709551616) 1099511627776 then
      some (.bld d (Nat.add stamp 1) 0 (Nat.sub a 18446744073709551616), [(d, .bld (Nat.add stamp 1) e sz (List.replicate (Nat.sub a 18446744073709551616) zero) true)])
    else none
  | _, _ => none
def bytesOfX : List (List XV) → Option (List Nat)
  | [] => some []
  | [.i .u8 n] :: r => bif Nat.ble 18446744073709551616 n then (match bytesOfX r with | some l => some (Nat.sub n 18446744073709551616 :: l) | none => none) else none
  | _ => none
def vB2s (ob : Nat → XObj) (x : XV) : Option XV := match elemsX ob 1 x with
  | some es => match bytesOfX es with
    | some l => some (.s l.length (numOf (l.map UInt8.ofNat)))
    | none => none
  | none => none
def capOkX : XV → Bool
  | .bptr _ _ _ => true
  | .sc (.pointer none) => true
  | _ => false
def capsOkX (l : List XV) : Bool := l.all capOkX && l.any fun p => match p with | .bptr _ _ _ => true | _ => false
def vMkfun (f : Nat) (l : List XV) : Option XV := match l with
  | [] => some (.sc (.func (.func f) #[] #[]))
  | _ => bif capsOkX l then some (.clo f l) else none
def uMput (ob : Nat → XObj) (kd : Nat) (m k v : XV) : UX := match m with
  | .mref r s => match ob r, toV k, toV v with
    | .map s' es, some x, some y => bif Nat.beq s s' && keyV kd x && es.all (fun e => sameKind x e.1) && scalarV y then some (.undef, [(r, .map s (mapPut es x y))]) else none
    | _, _, _ => none
  | _ => none
def vMget (ob : Nat → XObj) (kd : Nat) (ok : Bool) (zero : Value) (m k : XV) : Option XV := match m with
  | .mref r s => match ob r, toV k with
    | .map s' es, some x => bif Nat.beq s s' && keyV kd x && es.all (fun e => sameKind x e.1) then
        (match mapGet es x with
        | some y => some (bif ok then .tup [encC y, .b true] else encC y)
        | none => some (bif ok then .tup [encC zero, .b false] else encC zero))
      else none
    | _, _ => none
  | _ => none
noncomputable def popX {α : Type} (ev : α → XV) (ob : Nat → XObj) (d : Nat) : ROpA α → UX
  | .mv x => some (ev x, [])
  | .pick c a b => o1 (vPick (ev c) (ev a) (ev b))
  | .alloc t zero => some (.bptr d (stT (ob d).stamp t) 0, [(d, .box (stT (ob d).stamp t) (zero.map encC))])
  | .box t x => match (ev x).cells with
    | some cs => some (.bptr d (stT (ob d).stamp t) 0, [(d, .box (stT (ob d).stamp t) cs)])
    | none => none
  | .build zero ps => match fillPartsX (zero.map encC) (ps.map fun q => (q.1, q.2.1, ev q.2.2)) with
    | some cs => some (.agg cs, [])
    | none => none
  | .bslice e sz zero len ps raw => match fillElemsX ob sz (List.replicate len (zero.map encC)) (ps.map fun q => (q.1, ev q.2)) with
    | some es => some (.bld d (Nat.add (ob d).stamp 1) 0 len, ps.flatMap (fun p => shareValX ob (ev p.2)) ++ [(d, .bld (Nat.add (ob d).stamp 1) e sz es raw)])
    | none => none
  | .load isAgg n a => o1 (vLoad ob isAgg n (ev a))
  | .store n a v => uStore ob n (ev a) (ev v)
  | .nilchk x => o1 (vNilchk (ev x))
  | .bin op x y => o1 (vBin op (ev x) (ev y))
  | .binb neg x y => o1 (vBinb neg (ev x) (ev y))
  | .eqs neg x y => o1 (vEqs neg (ev x) (ev y))
  | .isnil neg x => o1 (vIsnil neg (ev x))
  | .un op x => o1 (vUn op (ev x))
  | .cint k x => o1 (vCint k (ev x))
  | .b2s x => o1 (vB2s ob (ev x))
  | .mkslice e sz bytes zero l c => uMkslice d e sz bytes (ob d).stamp (zero.map encC) (ev l) (ev c)
  | .sslice x lo hi => o1 (vSslice (ev x) (lo.map ev) (hi.map ev))
  | .slc sz x lo hi => o1 (vSlc ob sz (ev x) (lo.map ev) (hi.map ev))
  | .faddr o x => o1 (vFaddr o (ev x))
  | .fld isAgg off n x => o1 (vFld isAgg off n (ev x))
  | .iaddr sz x i => o1 (vIaddr ob sz (ev x) (ev i))
  | .sidx x i => o1 (vSidx (ev x) (ev i))
  | .ext x i => o1 (vExt (ev x) i)
  | .len isStr x => o1 (vLen isStr (ev x))
  | .append e sz bytes s x raw => uAppend ob d e sz bytes (ev s) (ev x) raw
  | .apps e bytes s x raw => match ev x with
    | .s l n => uAppend ob d e 1 bytes (ev s) (.lst 1 (strElsF l n)) raw
    | _ => none
  | .mx isMax x y => o1 (vMx isMax (ev x) (ev y))
  | .aaddr n sz x i => o1 (vAaddr n sz (ev x) (ev i))
  | .sh op x y => o1 (vSh op (ev x) (ev y))
  | .bits op x y => o1 (vBits op (ev x) (ev y))
  | .mkfun f caps => o1 (vMkfun f (caps.map ev))
  | .mkmap => some (.mref d (Nat.add (ob d).stamp 1), [(d, .map (Nat.add (ob d).stamp 1) [])])
  | .mput kd m k v => uMput ob kd (ev m) (ev k) (ev v)
  | .mget kd ok zero m k => o1 (vMget ob kd ok zero (ev m) (ev k))
  | _ => none
end
end Go.Hf
end
section
namespace Go.Hf
section
variable [Tok]
theorem decO_box (s : Nat) (cs : List XV) : decO (.box s cs) = .box s (decL cs) := rfl
theorem decO_bld (s e sz : Nat) (es : List (List XV)) (raw : Bool) : decO (.bld s e sz es raw) = .bld s e sz (decLL es) raw := rfl
theorem decO_mp (s : Nat) (es : List (Value × Value)) : decO (.map s es) = .map s es := rfl
theorem o1_ok {x : Option XV} {v : XV} {us : List (Nat × XObj)} (h : o1 x = some (v, us)) : x = some v ∧ us = [] := by
  unfold o1 at h
  split at h
  · cases h; exact ⟨rfl, rfl⟩
  · cases h
theorem fillPartsX_ok : ∀ {ps : List (Nat × Nat × XV)} {cs cs' : List XV}, fillPartsX cs ps = some cs' → fillParts dec (decL cs) ps = some (decL cs')
  | [], cs, cs', h => by cases h; rfl
  | (off, n, x) :: r, cs, cs', h => by
    simp only [fillPartsX] at h
    split at h
    · rename_i new hnew
      cases hc : (Nat.beq new.length n && Nat.ble (Nat.add off n) cs.length) with
      | false => rw [hc] at h; simp at h
      | true =>
        rw [hc] at h
        simp only [cond_true] at h
        simp only [Bool.and_eq_true, Nat.beq_eq] at hc
        have h2 : off + n ≤ cs.length := Nat.le_of_ble_eq_true hc.2
        simp only [fillParts, cells_ok hnew, decL_length]
        rw [if_pos ⟨hc.1, h2⟩, putCellsX_ok]
        exact fillPartsX_ok h
    · cases h
theorem decLL_set (es : List (List XV)) (i : Nat) (new : List XV) : decLL (es.set i new) = (decLL es).set i (decL new) := by
  simp only [decLL_map, List.map_set]
theorem fillElemsX_ok {ob : Nat → XObj} {sz : Nat} : ∀ {ps : List (Nat × XV)} {es es' : List (List XV)}, fillElemsX ob sz es ps = some es' → fillElems dec (fun k => decO (ob k)) sz (decLL es) ps = some (decLL es')
  | [], es, es', h => by cases h; rfl
  | (i, x) :: r, es, es', h => by
    simp only [fillElemsX] at h
    split at h
    · rename_i q hq
      split at h
      · rename_i new hnew
        cases hc : (Nat.beq new.length sz && Nat.blt i es.length) with
        | false => rw [hc] at h; simp at h
        | true =>
          rw [hc] at h
          simp only [cond_true] at h
          simp only [Bool.and_eq_true, Nat.beq_eq] at hc
          have h2 : i < es.length := by have := hc.2; simpa [Nat.blt_eq] using this
          simp only [fillElems, pureValX_ok hq, Option.bind_some, cells_ok hnew, decL_length, decLL_length]
          rw [if_pos ⟨hc.1, h2⟩, ← decLL_set]
          exact fillElemsX_ok h
      · cases h
    · cases h
theorem getLL (es : List (List XV)) (i : Nat) : (decLL es)[i]? = (es[i]?).map decL := by simp [decLL_map]
theorem getL (es : List XV) (i : Nat) : (decL es)[i]? = (es[i]?).map dec := by simp [decL_map]
theorem boundX_ok {α : Type} {ev : α → XV} {dflt n : Nat} {x : Option α} (h : boundX dflt (x.map ev) = some n) : bound (fun x => dec (ev x)) dflt x = some n := by
  cases x with
  | none => cases h; rfl
  | some y =>
    simp only [Option.map_some, boundX] at h
    split at h
    · rename_i heq; cases heq
    · rename_i k m heq
      simp only [Option.some.injEq] at heq
      cases hc : Nat.ble 18446744073709551616 m with
      | false => rw [hc] at h; simp at h
      | true =>
        rw [hc] at h
        simp only [cond_true, Option.some.injEq] at h
        subst h
        have h2 := Nat.le_of_ble_eq_true hc
        have e1 : (0 : Int) ≤ intOf m := by unfold intOf; omega
        have e2 : (intOf m).toNat = m - 18446744073709551616 := by unfold intOf; omega
        simp only [bound, heq, dec]
        rw [if_pos e1, e2]
        rfl
    · cases h
theorem isNat {n : Nat} (h : 18446744073709551616 ≤ n) : (0 : Int) ≤ intOf n ∧ (intOf n).toNat = n - 18446744073709551616 := by
  unfold intOf
  omega
section
variable {α : Type} {ev : α → XV} {ob : Nat → XObj} {d : Nat} {v : XV} {us : List (Nat × XObj)}
theorem popX_load {isAgg : Bool} {n : Nat} {a : α} (h : vLoad ob isAgg n (ev a) = some v) : pop (fun x => dec (ev x)) (fun k => decO (ob k)) d (.load isAgg n a) = some (dec v, []) := by
  unfold vLoad at h
  simp only [pop]
  split at h
  · rename_i k s off he
    rw [he]
    simp only [dec]
    split at h
    · rename_i s' cs hob
      cases hc : Nat.beq s s' with
      | false => rw [hc] at h; simp at h
      | true =>
        rw [hc] at h
        simp only [cond_true] at h
        have e := Nat.eq_of_beq_eq_true hc
        simp only [hob, decO_box, decO_bld, decO_mp, e, if_true, takeAggX_ok h, Option.map_some]
    · cases h
  · rename_i k s i off he
    rw [he]
    simp only [dec]
    split at h
    · rename_i s' e sz es raw hob
      cases hc : Nat.beq s s' with
      | false => rw [hc] at h; simp at h
      | true =>
        rw [hc] at h
        simp only [cond_true] at h
        have e := Nat.eq_of_beq_eq_true hc
        split at h
        · rename_i cs hcs
          simp only [hob, decO_box, decO_bld, decO_mp, e, if_true, getLL, hcs, Option.map_some, Option.bind_some, takeAggX_ok h]
        · cases h
    · cases h
  · rename_i cs off he
    rw [he]
    simp only [dec, takeAggX_ok h, Option.map_some]
  · cases h
theorem popX_store {n : Nat} {a x : α} (h : uStore ob n (ev a) (ev x) = some (v, us)) : pop (fun x => dec (ev x)) (fun k => decO (ob k)) d (.store n a x) = some (dec v, us.map decU) := by
  unfold uStore at h
  simp only [pop]
  split at h
  · rename_i k s off he
    rw [he]
    simp only [dec]
    split at h
    · rename_i s' cs new hob hnew
      cases hc : (Nat.beq s s' && Nat.beq new.length n && Nat.ble (Nat.add off n) cs.length) with
      | false => rw [hc] at h; simp at h
      | true =>
        rw [hc] at h
        simp only [cond_true, Option.some.injEq, Prod.mk.injEq] at h
        obtain ⟨rfl, rfl⟩ := h
        simp only [Bool.and_eq_true, Nat.beq_eq] at hc
        have h2 : off + n ≤ cs.length := Nat.le_of_ble_eq_true hc.2
        simp only [hob, decO_box, decO_bld, decO_mp, cells_ok hnew, decL_length]
        rw [if_pos ⟨hc.1.1, hc.1.2, h2⟩, putCellsX_ok]
        simp [dec, decU, decO_box, decO_bld, decO_mp]
    · cases h
  · rename_i k s i off he
    rw [he]
    simp only [dec]
    split at h
    · rename_i s' e sz es q hob hq
      split at h
      · rename_i new cs hnew hcs
        cases hc : (Nat.beq s s' && Nat.beq new.length n && Nat.ble (Nat.add off n) cs.length && (ev x).keys.isEmpty) with
        | false => rw [hc] at h; simp at h
        | true =>
          rw [hc] at h
          simp only [cond_true, Option.some.injEq, Prod.mk.injEq] at h
          obtain ⟨rfl, rfl⟩ := h
          simp only [Bool.and_eq_true, Nat.beq_eq, List.isEmpty_iff] at hc
          have h2 : off + n ≤ cs.length := Nat.le_of_ble_eq_true hc.1.2
          simp only [hob, decO_box, decO_bld, decO_mp, pureValX_ok hq, Option.bind_some, cells_ok hnew, getLL, hcs, Option.map_some, decL_length, keys_dec]
          rw [if_pos ⟨hc.1.1.1, hc.1.1.2, h2, hc.2⟩, putCellsX_ok, ← decLL_set]
          simp [dec, decU, decO_box, decO_bld, decO_mp]
      · cases h
    · cases h
  · cases h
theorem popX_append {e sz bytes : Nat} {s x : α} {raw : Bool} (h : uAppend ob d e sz bytes (ev s) (ev x) raw = some (v, us)) : pop (fun x => dec (ev x)) (fun k => decO (ob k)) d (.append e sz bytes s x raw) = some (dec v, us.map decU) := by
  unfold uAppend at h
  simp only [pop]
  split at h
  · rename_i ys he hys
    rw [he]
    simp only [dec, nils, elemsX_ok hys, decLL_length]
    cases hc : (Nat.ble (Nat.mul ys.length bytes) 1099511627776 && Nat.ble ys.length 1099511627776) with
    | false => rw [hc] at h; simp at h
    | true =>
      rw [hc] at h
      simp only [cond_true] at h
      simp only [Bool.and_eq_true] at hc
      have h1 : ys.length * bytes ≤ 1099511627776 := Nat.le_of_ble_eq_true hc.1
      have h2 : ys.length ≤ 1099511627776 := Nat.le_of_ble_eq_true hc.2
      rw [if_pos ⟨h1, h2⟩]
      cases ys with
      | nil => cases h; simp [dec, nils]
      | cons y r =>
        simp only [Option.some.injEq, Prod.mk.injEq] at h
        obtain ⟨rfl, rfl⟩ := h
        simp [dec, decU, decO_box, decO_bld, decO_mp, stamp_dec]
  · rename_i k st len ys he hys
    rw [he]
    simp only [dec, elemsX_ok hys, decLL_length]
    split at h
    · rename_i st' e' sz' es r hob
      cases hc : (Nat.beq st st' && Nat.beq e' e && Nat.beq sz' sz && (Nat.beq len es.length || (r && Nat.ble len es.length)) && Nat.ble (Nat.mul (Nat.add len ys.length) bytes) 1099511627776 && Nat.ble (Nat.add len ys.length) 1099511627776) with
      | false => rw [hc] at h; simp at h
      | true =>
        rw [hc] at h
        simp only [cond_true, Option.some.injEq, Prod.mk.injEq] at h
        obtain ⟨rfl, rfl⟩ := h
        simp only [Bool.and_eq_true, Nat.beq_eq, Bool.or_eq_true] at hc
        obtain ⟨⟨⟨⟨⟨c1, c2⟩, c3⟩, c4⟩, c5⟩, c6⟩ := hc
        have h5 : (len + ys.length) * bytes ≤ 1099511627776 := Nat.le_of_ble_eq_true c5
        have h6 : len + ys.length ≤ 1099511627776 := Nat.le_of_ble_eq_true c6
        have h4 : len = es.length ∨ r = true ∧ len ≤ es.length := c4.imp id (fun h => ⟨h.1, Nat.le_of_ble_eq_true h.2⟩)
        simp only [hob, decO_box, decO_bld, decO_mp, decLL_length]
        rw [if_pos ⟨c1, c2, c3, h4, h5, h6⟩]
        simp [dec, decU, decO_box, decO_bld, decO_mp, decLL_map]
    · cases h
  · cases h
theorem strElsF_dec (l n : Nat) : decLL (strElsF l n) = strEls (bytesB l n) := by
  unfold strEls
  rw [bytesB_list]
  induction l with
  | zero => rfl
  | succ l ih =>
    show decLL ([.i .u8 (Nat.add 18446744073709551616 (Nat.mod (Nat.div n (Nat.pow 256 l)) 256))] :: strElsF l n) = _
    rw [decLL_map, List.map_cons, ← decLL_map, ih]
    simp only [bytesL, List.map_cons, decL, dec, intOf]
    congr 3
    have h1 : Nat.mod (Nat.div n (Nat.pow 256 l)) 256 = n / 256 ^ l % 256 := rfl
    have h2 : (UInt8.ofNat (n / 256 ^ l)).toNat = n / 256 ^ l % 256 := by simp
    rw [h1, h2]
    congr 1
    show ((18446744073709551616 + n / 256 ^ l % 256 : Nat) : Int) - 18446744073709551616 = _
    omega
theorem popX_apps {e bytes : Nat} {s x : α} {raw : Bool} {l n : Nat} (hx : ev x = .s l n) (h : uAppend ob d e 1 bytes (ev s) (.lst 1 (strElsF l n)) raw = some (v, us)) :
    pop (fun x => dec (ev x)) (fun k => decO (ob k)) d (.apps e bytes s x raw) = some (dec v, us.map decU) := by
  have h1 := popX_append (α := XV) (ev := fun x => x) (s := ev s) (x := .lst 1 (strElsF l n)) h
  rw [← h1]
  simp only [pop, hx, dec, elems, strElsF_dec, if_true]
  generalize dec (ev s) = p
  generalize bytesB l n = b
  have hl := strEls_length b
  split
  · rename_i b' h2
    cases h2
    simp only [hl]
  · rename_i k st len b' h2
    cases h2
    simp only [hl]
  · rename_i n1 n2
    split
    · rename_i ys h2; exact absurd rfl (n1 b rfl)
    · rename_i k st len ys h2; exact absurd rfl (n2 k st len b rfl)
    · rfl
theorem popX_ok {r : ROpA α} (h : popX ev ob d r = some (v, us)) : pop (fun x => dec (ev x)) (fun k => decO (ob k)) d r = some (dec v, us.map decU) := by
  cases r with
  | mv x => cases h; rfl
  | load isAgg n a => obtain ⟨h1, rfl⟩ := o1_ok h; exact popX_load h1
  | store n a x => exact popX_store h
  | append e sz bytes s x raw => exact popX_append h
  | apps e bytes s x raw =>
    simp only [popX] at h
    split at h
    · rename_i l n hx; exact popX_apps hx h
    · cases h
  | pick c a b =>
    obtain ⟨h1, rfl⟩ := o1_ok h
    unfold vPick at h1
    simp only [pop]
    split at h1
    · rename_i he; cases h1; simp only [he, dec]; rfl
    · rename_i he; cases h1; simp only [he, dec]; rfl
    · cases h1
  | alloc t zero =>
    simp only [popX, Option.some.injEq, Prod.mk.injEq] at h
    obtain ⟨rfl, rfl⟩ := h
    simp [pop, dec, decU, decO_box, decO_bld, decO_mp, stamp_dec, decL_encC]
  | box t x =>
    simp only [popX] at h
    split at h
    · rename_i cs hcs
      cases h
      simp [pop, cells_ok hcs, dec, decU, decO_box, decO_bld, decO_mp, stamp_dec]
    · cases h
  | build zero ps =>
    simp only [popX] at h
    split at h
    · rename_i cs hcs
      cases h
      have := fillPartsX_ok hcs
      rw [decL_encC, fillParts_map] at this
      simp [pop, this, dec]
    · cases h
  | bslice e sz zero len ps raw =>
    simp only [popX] at h
    split at h
    · rename_i es hes
      cases h
      have := fillElemsX_ok hes
      rw [fillElems_map, decLL_map, List.map_replicate, decL_encC] at this
      simp only [pop, this, Option.map_some, dec, stamp_dec, List.map_append, List.map_flatMap, List.map_cons, List.map_nil, decU, decO_box, decO_bld, decO_mp]
      congr 3
      · congr 1
        funext q
        exact shareValX_ok ob (ev q.2)
    · cases h
  | nilchk x =>
    obtain ⟨h1, rfl⟩ := o1_ok h
    unfold vNilchk at h1
    simp only [pop]
    split at h1 <;> first | (rename_i he; cases h1; simp only [he, dec]; rfl) | cases h1
  | bin op x y =>
    obtain ⟨h1, rfl⟩ := o1_ok h
    obtain ⟨a, b, z, e1, e2, e3, e4⟩ := vBin_ok h1
    simp [pop, e1, e2, e3, e4]
  | aaddr n sz x i =>
    obtain ⟨h1, rfl⟩ := o1_ok h
    unfold vAaddr at h1
    simp only [pop]
    split at h1
    · rename_i k s off kk m hx hi
      cases hc : (Nat.ble 18446744073709551616 m && Nat.ble (Nat.succ (Nat.sub m 18446744073709551616)) n) with
      | false => rw [hc] at h1; cases h1
      | true =>
        rw [hc] at h1
        simp only [cond_true, Option.some.injEq] at h1
        subst h1
        simp only [Bool.and_eq_true] at hc
        have c1 : 18446744073709551616 ≤ m := Nat.le_of_ble_eq_true hc.1
        have c2 : m - 18446744073709551616 + 1 ≤ n := Nat.le_of_ble_eq_true hc.2
        obtain ⟨e1, e2⟩ := isNat c1
        simp only [hx, hi, dec]
        rw [if_pos ⟨e1, by unfold intOf; omega⟩, e2]
        rfl
    · cases h1
  | sh op x y =>
    obtain ⟨h1, rfl⟩ := o1_ok h
    obtain ⟨a, b, z, e1, e2, e3, e4⟩ := slow_ok h1
    simp [pop, e1, e2, e3, e4]
  | bits op x y =>
    obtain ⟨h1, rfl⟩ := o1_ok h
    obtain ⟨a, b, z, e1, e2, e3, e4⟩ := slow_ok h1
    simp [pop, e1, e2, e3, e4]
  | binb neg x y =>
    obtain ⟨h1, rfl⟩ := o1_ok h
    unfold vBinb at h1
    simp only [pop]
    split at h1
    · rename_i a b ha hb; cases h1; simp only [ha, hb, dec]; rfl
    · cases h1
  | eqs neg x y =>
    obtain ⟨h1, rfl⟩ := o1_ok h
    unfold vEqs at h1
    simp only [pop]
    split at h1
    · rename_i a n b m a' n' b' m' ha hb; cases h1; simp only [ha, hb, dec, decL, eqS_iff]; rfl
    · cases h1
  | isnil neg x =>
    obtain ⟨h1, rfl⟩ := o1_ok h
    unfold vIsnil at h1
    simp only [pop]
    split at h1 <;> first | (rename_i he; cases h1; simp only [he, dec, nils]; rfl) | cases h1
  | ext x i =>
    obtain ⟨h1, rfl⟩ := o1_ok h
    unfold vExt at h1
    simp only [pop]
    split at h1
    · rename_i vs he; simp only [he, dec, getL, h1, Option.map_some]; rfl
    · cases h1
  | fld isAgg off n x =>
    obtain ⟨h1, rfl⟩ := o1_ok h
    unfold vFld at h1
    simp only [pop]
    split at h1
    · rename_i cs he; simp only [he, dec, takeAggX_ok h1, Option.map_some]; rfl
    · cases h1
  | faddr o x =>
    obtain ⟨h1, rfl⟩ := o1_ok h
    unfold vFaddr at h1
    simp only [pop]
    split at h1 <;> first | (rename_i he; cases h1; simp only [he, dec]; rfl) | cases h1
  | len isStr x =>
    obtain ⟨h1, rfl⟩ := o1_ok h
    unfold vLen at h1
    simp only [pop]
    split at h1
    · rename_i l n he; cases h1; simp only [he, dec, bytesB_size, intOf]; congr 4; simp only [Nat.add_eq]; omega
    · rename_i he; cases h1; simp only [he, dec, nils, intOf]; rfl
    · rename_i sz es he; cases h1; simp only [he, dec, decLL_length, intOf]; congr 4; simp only [Nat.add_eq]; omega
    · rename_i k s off len he; cases h1; simp only [he, dec, intOf]; congr 4; simp only [Nat.add_eq]; omega
    · cases h1
  | un op x =>
    obtain ⟨h1, rfl⟩ := o1_ok h
    unfold vUn at h1
    simp only [pop]
    split at h1
    · rename_i a he
      split at h1
      · cases h1; simp only [he, dec, sun]; rfl
      · cases h1
    · split at h1
      · rename_i a ha
        rw [Option.bind_eq_some_iff] at h1
        obtain ⟨z, e1, e2⟩ := h1
        simp [toV_ok ha, e1, encV_ok e2]
      · cases h1
  | cint k x =>
    obtain ⟨h1, rfl⟩ := o1_ok h
    unfold vCint at h1
    simp only [pop]
    split at h1
    · rename_i k' n he
      cases hc : inK k n with
      | true =>
        rw [hc] at h1
        cases h1
        simp only [he, dec, inK_wrap hc]; rfl
      | false =>
        rw [hc] at h1
        simp only [cond_false] at h1
        simp only [he, dec, encV_ok h1]; rfl
    · cases h1
  | b2s x =>
    obtain ⟨h1, rfl⟩ := o1_ok h
    unfold vB2s at h1
    simp only [pop]
    split at h1
    · rename_i es hes
      split at h1
      · rename_i l hl
        cases h1
        have key : ∀ (es : List (List XV)) (l : List Nat), bytesOfX es = some l → bytesOf (decLL es) = some (l.map UInt8.ofNat) := by
          intro es
          induction es with
          | nil => intro l h; cases h; simp [decLL, bytesOf]
          | cons e r ih =>
            intro l h
            unfold bytesOfX at h
            split at h
            · rename_i heq; cases heq
            · rename_i n r' heq
              cases heq
              cases hc : Nat.ble 18446744073709551616 n with
              | false => rw [hc] at h; simp at h
              | true =>
                rw [hc] at h
                simp only [cond_true] at h
                split at h
                · rename_i l' hl'
                  cases h
                  have h2 := isNat (Nat.le_of_ble_eq_true hc)
                  simp only [decLL, decL, dec, bytesOf, ih l' hl', Option.map_some, List.map_cons, h2.2]
                  rfl
                · cases h
            · cases h
        simp only [elemsX_ok hes, Option.bind_some, key es l hl, Option.map_some, dec, bytesB, List.map_nil]
        have : l.length = (l.map UInt8.ofNat).length := by simp
        rw [this, bytesL_num]
      · cases h1
    · cases h1
  | mx isMax x y =>
    obtain ⟨h1, rfl⟩ := o1_ok h
    unfold vMx at h1
    simp only [pop]
    split at h1
    · rename_i k a k' b ha hb
      cases hc : sameK k k' with
      | false => rw [hc] at h1; simp at h1
      | true =>
        rw [hc] at h1
        have e := sameK_ok hc
        subst e
        simp only [cond_true, Option.some.injEq] at h1
        subst h1
        simp only [ha, hb, dec, if_true]
        have blt : ∀ a b : Nat, Nat.blt a b = decide (a < b) := fun a b => by rw [Bool.eq_iff_iff]; simp [Nat.blt_eq]
        simp only [blt, List.map_nil]
        congr 4
        cases isMax
        · simp only [cond_false, Bool.false_eq_true, if_false]
          by_cases hh : b < a
          · rw [if_pos (by unfold intOf; omega)]; simp [hh]
          · rw [if_neg (by unfold intOf; omega)]; simp [hh]
        · simp only [cond_true, if_true]
          by_cases hh : a < b
          · rw [if_pos (by unfold intOf; omega)]; simp [hh]
          · rw [if_neg (by unfold intOf; omega)]; simp [hh]
    · cases h1
  | mkfun f caps =>
    obtain ⟨h1, rfl⟩ := o1_ok h
    unfold vMkfun at h1
    simp only [pop]
    split at h1
    · rename_i he
      cases h1
      have : caps.length = 0 := by simpa using congrArg List.length he
      rw [if_pos this]
      simp [dec]
    · rename_i hne
      cases hc : capsOkX (caps.map ev) with
      | false => rw [hc] at h1; simp at h1
      | true =>
        rw [hc] at h1
        simp only [cond_true, Option.some.injEq] at h1
        subst h1
        have hl : ¬ caps.length = 0 := by
          intro e
          exact hne (by rw [List.length_eq_zero_iff.1 e]; rfl)
        have hk : capsOk (caps.map fun x => dec (ev x)) = true := by
          simp only [capsOkX, Bool.and_eq_true, List.all_eq_true, List.any_eq_true, List.mem_map] at hc
          simp only [capsOk, Bool.and_eq_true, List.all_eq_true, List.any_eq_true, List.mem_map]
          refine ⟨?_, ?_⟩
          · rintro p ⟨x, hx, rfl⟩
            have := hc.1 (ev x) ⟨x, hx, rfl⟩
            cases hv : ev x with
            | sc w =>
              rw [hv] at this
              unfold capOkX at this
              split at this
              · rename_i heq; cases heq
              · rename_i heq; cases heq; simp [dec, capOk]
              · cases this
            | bptr => simp [dec, capOk]
            | _ => rw [hv] at this; simp [capOkX] at this
          · obtain ⟨p, ⟨x, hx, rfl⟩, h3⟩ := hc.2
            refine ⟨_, ⟨x, hx, rfl⟩, ?_⟩
            cases hv : ev x with
            | bptr => simp [dec]
            | _ => rw [hv] at h3; simp at h3
        rw [if_neg hl, if_pos hk]
        simp only [dec, decL_map, List.map_map, List.map_nil]
        rfl
  | mkmap =>
    simp only [popX, Option.some.injEq, Prod.mk.injEq] at h
    obtain ⟨rfl, rfl⟩ := h
    simp [pop, dec, decU, decO_mp, stamp_dec]
  | mput kd m k x =>
    simp only [popX] at h
    unfold uMput at h
    simp only [pop]
    split at h
    · rename_i r s he
      split at h
      · rename_i s' es a b hob ha hb
        cases hc : (Nat.beq s s' && keyV kd a && es.all (fun e => sameKind a e.1) && scalarV b) with
        | false => rw [hc] at h; simp at h
        | true =>
          rw [hc] at h
          simp only [cond_true, Option.some.injEq, Prod.mk.injEq] at h
          obtain ⟨rfl, rfl⟩ := h
          simp only [Bool.and_eq_true, Nat.beq_eq] at hc
          simp only [he, dec, toV_ok ha, toV_ok hb, hob, decO_mp]
          rw [if_pos ⟨hc.1.1.1, hc.1.1.2, hc.1.2, hc.2⟩]
          simp [dec, decU, decO_mp]
      · cases h
    · cases h
  | mget kd ok zero m k =>
    obtain ⟨h1, rfl⟩ := o1_ok h
    unfold vMget at h1
    simp only [pop]
    split at h1
    · rename_i r s he
      split at h1
      · rename_i s' es a hob ha
        cases hc : (Nat.beq s s' && keyV kd a && es.all (fun e => sameKind a e.1)) with
        | false => rw [hc] at h1; simp at h1
        | true =>
          rw [hc] at h1
          simp only [cond_true] at h1
          simp only [Bool.and_eq_true, Nat.beq_eq] at hc
          simp only [he, dec, toV_ok ha, hob, decO_mp]
          rw [if_pos ⟨hc.1.1, hc.1.2, hc.2⟩]
          split at h1
          · rename_i y hy
            cases h1
            rw [hy]
            cases ok <;> simp [dec, decL, encC_ok]
          · rename_i hy
            cases h1
            rw [hy]
            cases ok <;> simp [dec, decL, encC_ok]
      · cases h1
    · cases h1
  | sslice x lo hi =>
    obtain ⟨h1, rfl⟩ := o1_ok h
    unfold vSslice at h1
    simp only [pop]
    split at h1
    · rename_i l n he
      split at h1
      · rename_i a b ha hb
        cases hc : (Nat.ble a b && Nat.ble b l) with
        | false => rw [hc] at h1; simp at h1
        | true =>
          rw [hc] at h1
          simp only [cond_true, Option.some.injEq] at h1
          subst h1
          simp only [Bool.and_eq_true] at hc
          have h2 := Nat.le_of_ble_eq_true hc.1
          have h3 := Nat.le_of_ble_eq_true hc.2
          simp only [he, dec, boundX_ok ha, bytesB_size, boundX_ok hb]
          rw [if_pos ⟨h2, h3⟩, bytesB_extract l n a b h2 h3, ← bytesB_mod]
          rfl
      · cases h1
    · cases h1
  | slc sz x lo hi =>
    obtain ⟨h1, rfl⟩ := o1_ok h
    unfold vSlc at h1
    simp only [pop]
    split at h1
    · rename_i sz' es he
      split at h1
      · rename_i a b ha hb
        cases hc : (Nat.beq sz' sz && Nat.ble a b && Nat.ble b es.length) with
        | false => rw [hc] at h1; simp at h1
        | true =>
          rw [hc] at h1
          simp only [cond_true, Option.some.injEq] at h1
          subst h1
          simp only [Bool.and_eq_true, Nat.beq_eq] at hc
          have h2 := Nat.le_of_ble_eq_true hc.1.2
          have h3 := Nat.le_of_ble_eq_true hc.2
          simp only [he, dec, boundX_ok ha, decLL_length, boundX_ok hb]
          rw [if_pos ⟨hc.1.1, h2, h3⟩, part_eq, decLL_part]
          rfl
      · cases h1
    · rename_i k s off len he
      split at h1
      · rename_i a b s' e sz' es raw ha hb hob
        cases hc : (Nat.beq s s' && Nat.beq sz' sz && Nat.ble a b && Nat.ble b len) with
        | false => rw [hc] at h1; simp at h1
        | true =>
          rw [hc] at h1
          simp only [cond_true, Option.some.injEq] at h1
          subst h1
          simp only [Bool.and_eq_true, Nat.beq_eq] at hc
          have h2 := Nat.le_of_ble_eq_true hc.1.2
          have h3 := Nat.le_of_ble_eq_true hc.2
          simp only [he, dec, boundX_ok ha, boundX_ok hb, hob, decO_bld]
          rw [if_pos ⟨hc.1.1.1, hc.1.1.2, h2, h3⟩]
          rfl
      · cases h1
    · rename_i he
      split at h1
      · rename_i ha hb
        cases h1
        simp only [he, dec, nils, boundX_ok ha, boundX_ok hb]
        rfl
      · cases h1
    · cases h1
  | iaddr sz x i =>
    obtain ⟨h1, rfl⟩ := o1_ok h
    unfold vIaddr at h1
    simp only [pop]
    split at h1
    · rename_i sz' es k n he hi
      cases hc : (Nat.beq sz' sz && Nat.ble 18446744073709551616 n) with
      | false => rw [hc] at h1; simp at h1
      | true =>
        rw [hc] at h1
        simp only [cond_true] at h1
        simp only [Bool.and_eq_true, Nat.beq_eq] at hc
        have h2 := isNat (Nat.le_of_ble_eq_true hc.2)
        split at h1
        · rename_i cs hcs
          cases h1
          have hcs' : es[n - 18446744073709551616]? = some cs := hcs
          simp only [he, hi, dec, h2.2, getLL, hcs', Option.map_some]
          rw [if_pos ⟨hc.1, h2.1⟩]
          rfl
        · cases h1
    · rename_i k s off len kk n he hi
      split at h1
      · rename_i s' e sz' es raw hob
        cases hc : (Nat.beq s s' && Nat.beq sz' sz && Nat.ble 18446744073709551616 n && Nat.blt (Nat.sub n 18446744073709551616) len) with
        | false => rw [hc] at h1; simp at h1
        | true =>
          rw [hc] at h1
          simp only [cond_true, Option.some.injEq] at h1
          subst h1
          simp only [Bool.and_eq_true, Nat.beq_eq] at hc
          have h2 := isNat (Nat.le_of_ble_eq_true hc.1.2)
          have h3 : n - 18446744073709551616 < len := by have := hc.2; simpa [Nat.blt_eq] using this
          have h4 : intOf n < (len : Int) := by have := h2.1; have := h2.2; omega
          simp only [he, hi, dec, hob, decO_bld]
          rw [if_pos ⟨hc.1.1.1, hc.1.1.2, h2.1, h4⟩, h2.2]
          rfl
      · cases h1
    · cases h1
  | sidx x i =>
    obtain ⟨h1, rfl⟩ := o1_ok h
    unfold vSidx at h1
    simp only [pop]
    split at h1
    · rename_i l n k m he hi
      cases hc : (Nat.ble 18446744073709551616 m && Nat.blt (Nat.sub m 18446744073709551616) l) with
      | false => rw [hc] at h1; simp at h1
      | true =>
        rw [hc] at h1
        simp only [cond_true, Option.some.injEq] at h1
        subst h1
        simp only [Bool.and_eq_true] at hc
        have h2 := isNat (Nat.le_of_ble_eq_true hc.1)
        have h3 : m - 18446744073709551616 < l := by have := hc.2; simpa [Nat.blt_eq] using this
        simp only [he, hi, dec, bytesB_list]
        rw [if_pos h2.1, h2.2, bytesL_get _ _ _ h3]
        simp only [Option.map_some, List.map_nil]
        congr 4
        rw [UInt8.toNat_ofNat']
        simp only [intOf, Nat.add_eq]
        show ((n / 256 ^ (l - 1 - (m - 18446744073709551616)) % 256 : Nat) : Int) = ((18446744073709551616 + n / 256 ^ (l - 1 - (m - 18446744073709551616)) % 256 : Nat) : Int) - 18446744073709551616
        omega
    · cases h1
  | mkslice e sz bytes zero l c =>
    simp only [popX] at h
    unfold uMkslice at h
    simp only [pop]
    split at h
    · rename_i a b ha hb
      cases hc : (Nat.ble 18446744073709551616 a && Nat.ble a b && Nat.ble (Nat.mul (Nat.sub b 18446744073709551616) bytes) 1099511627776 && Nat.ble (Nat.sub b 18446744073709551616) 1099511627776) with
      | false => rw [hc] at h; simp at h
      | true =>
        rw [hc] at h
        simp only [cond_true, Option.some.injEq, Prod.mk.injEq] at h
        obtain ⟨rfl, rfl⟩ := h
        simp only [Bool.and_eq_true] at hc
        have h1 := Nat.le_of_ble_eq_true hc.1.1.1
        have h2 := Nat.le_of_ble_eq_true hc.1.1.2
        have h3 : (b - 18446744073709551616) * bytes ≤ 1099511627776 := Nat.le_of_ble_eq_true hc.1.2
        have h4 : b - 18446744073709551616 ≤ 1099511627776 := Nat.le_of_ble_eq_true hc.2
        have e1 := isNat h1
        have e2 := isNat (Nat.le_trans h1 h2)
        have e3 : intOf b = ((b - 18446744073709551616 : Nat) : Int) := by have := e2.1; have := e2.2; omega
        have e4 : intOf a ≤ intOf b := by unfold intOf; omega
        have e5 : intOf b * (bytes : Int) ≤ 1099511627776 := by
          rw [e3, ← Int.natCast_mul]
          generalize (b - 18446744073709551616) * bytes = z at h3
          omega
        have e6 : intOf b ≤ 1099511627776 := by
          rw [e3]
          generalize b - 18446744073709551616 = z at h4
          omega
        simp only [ha, hb, dec]
        rw [if_pos ⟨e1.1, e4, e5, e6⟩, e1.2]
        simp only [List.map_cons, List.map_nil, decU, decO_bld, stamp_dec, decLL_map, List.map_replicate, decL_encC, dec]
        rfl
    · cases h
  | _ => cases h
end
end
end Go.Hf
end

/- Drawing: the trees, and that they are followed. -/
import Derived.Test.YtlefgpakmgbgaaaGreatDoorDa
set_option linter.unusedVariables false
set_option linter.unusedSimpArgs false
set_option linter.unusedSectionVars false
section
set_option maxRecDepth 1000000
namespace Go.Hf
open Go.Proofs Go.RowKit
def i6 (n : Nat) : XV := .i .i64 (Nat.add 18446744073709551616 n)
def wk : XV := .tok 61
def nx (n : Nat) (k : Nat → Dr) : Dr := .ask 23 [i6 n] (.ints n) k
def obj (d : Nat) (k : Dr) : Dr := .ask 27 [i6 d] (.one (.a 7)) fun _ => k
def va (k : Dr) : Dr := .ask 25 [] (.one (.a 11)) fun _ => k
def te (d : Nat) (k : Dr) : Dr := .ask 37 [wk, i6 d] (.one (.a 11)) fun _ => k
def li (d : Nat) (k : Dr) : Dr := .ask 24 [wk, i6 d] (.one (.a 11)) fun _ => k
noncomputable def rep (n : Nat) (f : Dr → Dr) (k : Dr) : Dr := @Nat.rec (fun _ => Dr) k (fun _ x => f x) n
def o0 (k : Nat) : Dr := bif Nat.beq k 2 || Nat.beq k 3 then nx 7 fun _ => .done else bif Nat.beq k 6 || Nat.beq k 7 then nx 3 fun _ => .done else .done
def t25 : Dr := nx 3 fun _ => .done
def t270 : Dr := nx 14 fun k => bif Nat.ble 10 k then o0 (Nat.sub k 8) else o0 k
noncomputable def t271 : Dr := nx 14 fun k => bif Nat.ble k 9 then o0 k else bif Nat.ble k 12 then nx 4 fun n => rep n (obj 0) .done else obj 0 (obj 0 .done)
def t370 : Dr := nx 12 fun k => bif Nat.blt (Nat.mod k 4) 3 then va .done else obj 1 .done
noncomputable def t37 (d : Nat) : Dr := nx 12 fun k => bif Nat.blt k 3 then va .done else bif Nat.beq k 3 then obj 1 .done else nx 4 fun a => bif Nat.blt a 3 then nx 25 fun h => rep (arH.getD h 0) (te d) .done else nx 8 fun o => rep (arO.getD o 0) (te d) .done
def t24 (d : Nat) : Dr := te (Nat.succ d) (nx 8 fun k => bif Nat.beq k 2 || Nat.beq k 4 then te d .done else bif Nat.beq k 3 then va .done else bif Nat.beq k 5 then va (te d .done) else .done)
noncomputable def t7 (d : Nat) : Dr := nx 4 fun k => rep k (fun r => li d (nx 6 fun s => bif Nat.beq s 0 || Nat.beq s 2 then va r else bif Nat.beq s 1 then va (obj 0 r) else r)) .done
noncomputable def t9 : Dr := .ask 7 [wk, i6 3, i6 2] (.lst 10293 48 12288) fun _ => nx 4 fun n => rep n (fun r => te 1 (nx 5 fun s => bif Nat.beq s 2 then va r else bif Nat.beq s 3 then va (va r) else r)) .done
def A11 : Sp := .one (.a 11)
def k25 : Nat × List XV × Sp := (25, [], A11)
def k27 (d : Nat) : Nat × List XV × Sp := (27, [i6 d], .one (.a 7))
def k37 (d : Nat) : Nat × List XV × Sp := (37, [wk, i6 d], A11)
def k24 (d : Nat) : Nat × List XV × Sp := (24, [wk, i6 d], A11)
def L1 : Kn := [k25]
def L2 : Kn := k27 0 :: L1
def L3 : Kn := k27 1 :: L2
def L4 : Kn := k37 0 :: L3
def L5 : Kn := k37 1 :: L4
def L6 : Kn := k37 2 :: L5
theorem c25 : chk (kn []) (leafB 15 65565 b25 TB 1000 gAr [] 4096 A11) t25 [] = true := by kernel_rfl
theorem c270 : chk (kn L1) (leafB 15 65565 b27 TB 1000 gAr [i6 0] 4096 (.one (.a 7))) t270 [] = true := by kernel_rfl
theorem c271 : chk (kn L2) (leafB 15 65565 b27 TB 1000 gAr [i6 1] 4096 (.one (.a 7))) t271 [] = true := by kernel_rfl
theorem c370 : chk (kn L3) (leafB 15 65565 b37 TB 1000 gAr [wk, i6 0] 4096 A11) t370 [] = true := by kernel_rfl
theorem c371 : chk (kn L4) (leafB 15 65565 b37 TB 1000 gAr [wk, i6 1] 4096 A11) (t37 0) [] = true := by kernel_rfl
theorem c372 : chk (kn L5) (leafB 15 65565 b37 TB 1000 gAr [wk, i6 2] 4096 A11) (t37 1) [] = true := by kernel_rfl
theorem c241 : chk (kn L6) (leafB 15 65565 b24 TB 1000 gAr [wk, i6 1] 4096 A11) (t24 0) [] = true := by kernel_rfl
def L7 : Kn := k24 1 :: L6
theorem c242 : chk (kn L7) (leafB 15 65565 b24 TB 1000 gAr [wk, i6 2] 4096 A11) (t24 1) [] = true := by kernel_rfl
def L8 : Kn := k24 2 :: L7
end Go.Hf
end
section
set_option maxRecDepth 1000000
namespace Go.Hf
open Go.Proofs Go.RowKit
def k7 (d : Nat) : Nat × List XV × Sp := (7, [wk, i6 3, i6 d], .lst 10293 48 12288)
def L9 : Kn := k7 1 :: L8
def L10 : Kn := k7 2 :: L9
def k9 : Nat × List XV × Sp := (9, [wk], .one .t)
theorem c71 : chk (kn L8) (leafB 15 65565 b7 TB 1000 gAr [wk, i6 3, i6 1] 8192 (.lst 10293 48 12288)) (t7 1) [] = true := by kernel_rfl
theorem c72 : chk (kn L9) (leafB 15 65565 b7 TB 1000 gAr [wk, i6 3, i6 2] 8192 (.lst 10293 48 12288)) (t7 2) [] = true := by kernel_rfl
theorem c9 : chk (kn L10) (leafB 15 65565 b9 TB 1000 gAr [wk] 4096 (.one .t)) t9 [] = true := by kernel_rfl
section
variable {BX : XV} {cs : List Nat}
theorem drawAll (hB : Codes BX cs) (hc : ∀ c ∈ cs, c < 256) (hz : cs.length ≤ 100) (hfB : flat (@dec tok0 BX) = true) : DrawK BX cs.length (k9 :: L10) := by
  have h0 : DrawK BX cs.length [] := fun k h => by cases h
  have h1 : DrawK BX cs.length L1 := stage hB hc hz hfB h0 (fun {_} => Ck0.ok25) rfl rfl c25
  have h2 : DrawK BX cs.length L2 := stage hB hc hz hfB h1 (fun {_} => Ck0.ok27) rfl rfl c270
  have h3 : DrawK BX cs.length L3 := stage hB hc hz hfB h2 (fun {_} => Ck0.ok27) rfl rfl c271
  have h4 : DrawK BX cs.length L4 := stage hB hc hz hfB h3 (fun {_} => Ck0.ok37) rfl rfl c370
  have h5 : DrawK BX cs.length L5 := stage hB hc hz hfB h4 (fun {_} => Ck0.ok37) rfl rfl c371
  have h6 : DrawK BX cs.length L6 := stage hB hc hz hfB h5 (fun {_} => Ck0.ok37) rfl rfl c372
  have h7 : DrawK BX cs.length L7 := stage hB hc hz hfB h6 (fun {_} => Ck0.ok24) rfl rfl c241
  have h8 : DrawK BX cs.length L8 := stage hB hc hz hfB h7 (fun {_} => Ck0.ok24) rfl rfl c242
  have h9 : DrawK BX cs.length L9 := stage hB hc hz hfB h8 (fun {_} => Ck0.ok7) rfl rfl c71
  have h10 : DrawK BX cs.length L10 := stage hB hc hz hfB h9 (fun {_} => Ck0.ok7) rfl rfl c72
  exact stage hB hc hz hfB h10 (fun {_} => Ck0.ok9) rfl rfl c9
end
end Go.Hf
end

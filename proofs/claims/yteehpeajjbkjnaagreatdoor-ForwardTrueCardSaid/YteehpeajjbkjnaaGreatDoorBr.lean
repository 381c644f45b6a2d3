import Derived.Test.YteehpeajjbkjnaaGreatDoorRows
import Derived.LaidByTextLater
import Derived.SevenTiedAt
set_option linter.all false
namespace Go.Proofs.YteehpeajjbkjnaaGreatDoor
open Go
def CZ:List (String×DataW Unit):=Rows.forwardTrueRow.laid.take 4++(Rows.forwardTrueRow.laid.drop 5).take 4
def gL(i:Nat):String:=(Rows.forwardTrueRow.laid.map (·.1)).getD i ""
def abI:List LaidKind:=[.data,.data,.data,.data,.data,.listed,.sentinel,.sentinel]
theorem MO:varsId Tryz.prog=677:=by kernel_rfl
theorem awX:Tryz.prog.worded (varsWordLater true)=true:=by kernel_rfl
theorem awY:Tryz.prog.worded (varsWordLater !true)=false:=by kernel_rfl
theorem awZ:Tryz.prog.worded rootWordLater=true:=by kernel_rfl
theorem aw0:CZ.map (λx=>Tryz.prog.kindOfLater x.1)=abI.map some:=by kernel_rfl
theorem aw1:(Tryz.prog.funcNamed "gosem.cut.vars").isSome=true:=by kernel_rfl
theorem aw2:varsNamedLaterB Tryz.prog 677 CZ=true:=by kernel_rfl
theorem aw3:∀os a,varsDone Tryz.prog 400 677 os a=true:=λ_ _=>by kernel_rfl
theorem aw4:∀os a,(DataW.laidRun Tryz.prog (varsWorld Tryz.prog 400 677 os a).memory 8 (CZ.map (·.1))).map (·.1)=some CZ:=λ_ _=>by kernel_rfl
theorem aw5:∀os a,(DataW.laidRun Tryz.prog (varsWorld Tryz.prog 400 677 os a).memory 8 (CZ.map (·.1))).map (λx=>decide x.2.Nodup&&laidRowsB Tryz.prog (varsWorld Tryz.prog 400 677 os a).memory x.2)=some true:=λ_ _=>by kernel_rfl
theorem awW:Tryz.prog.laidByTextLater CZ abI true:=
 Program.laidByTextLater_by_run 400 8 awX awY awZ aw0 aw1 (by rw[MO];exact aw2) (by rw[MO];exact aw3) (by rw[MO];exact aw4) (by rw[MO];exact aw5) (by kernel_rfl)
theorem at6:Tryz.pinned.checked.prog.pinnedFits (gL 4)=true:=by kernel_rfl
theorem at4:Tryz.pinned.checked.prog.pinnedFits (gL 9)=true:=by kernel_rfl
theorem at2:Tryz.pinned.checked.prog.pinnedFits (gL 10)=true:=by kernel_rfl
theorem at5:Tryz.pinned.checked.prog.pinnedFits (gL 11)=true:=by kernel_rfl
theorem at3:Tryz.pinned.checked.prog.pinnedFits (gL 12)=true:=by kernel_rfl
theorem at1:Tryz.pinned.checked.prog.pinnedFits (gL 13)=true:=by kernel_rfl
theorem arU:Tryz.pinned.checked.prog.headLifts.contains "ownunsafe" =false:=by kernel_rfl
theorem anu:Tryz.pinned.checked.prog.listedFits Rows.forwardTrueRow.laid=true:=by unfold Program.listedFits;rw[arU];kernel_rfl
theorem anE:Rows.forwardTrueRow.laidByTextAt .later Tryz.pinned [.data,.data,.data,.data,.pinned,.data,.listed,.sentinel,.sentinel,.pinned,.pinned,.pinned,.pinned,.pinned] true:=
 OpenClaim.laidByTextAt_pinned rfl rfl awW rfl rfl rfl rfl (λy b a=>by simp only[Rows.forwardTrueRow,List.zip_cons_cons,List.zip_nil_right,List.mem_cons,List.mem_nil_iff,or_false]at b;rcases b with rfl|rfl|rfl|rfl|rfl|rfl|rfl|rfl|rfl|rfl|rfl|rfl|rfl|rfl;cases a;cases a;cases a;cases a;exact⟨at6,by kernel_rfl⟩;cases a;cases a;cases a;cases a;exact⟨at4,by kernel_rfl⟩;exact⟨at2,by kernel_rfl⟩;exact⟨at5,by kernel_rfl⟩;exact⟨at3,by kernel_rfl⟩;exact⟨at1,by kernel_rfl⟩) anu
end Go.Proofs.YteehpeajjbkjnaaGreatDoor

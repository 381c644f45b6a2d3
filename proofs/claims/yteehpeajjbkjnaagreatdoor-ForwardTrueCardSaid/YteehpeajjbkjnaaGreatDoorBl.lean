import Derived.Test.YteehpeajjbkjnaaGreatDoorBk
set_option maxRecDepth 1000000
set_option linter.all false
namespace Go.Hf
open Go Go.Proofs Go.Proofs.YteehpeajjbkjnaaGreatDoor
theorem avn:(Rows.forwardTrueRow.unfollowed==Tryz.prog.unfollowed 3)=true:=by
 have h:Tryz.prog.unfollowed 3=true:=by unfold Program.unfollowed;rw[Gf,nC];exact⟨84,by decide,by kernel_rfl⟩
 rw[h];rfl
theorem avm:(Rows.forwardTrueRow.recurses==Tryz.prog.recurses 3)=true:=by
 have h:Tryz.prog.unfollowed 3=true:=by unfold Program.unfollowed;rw[Gf,nC];exact⟨84,by decide,by kernel_rfl⟩
 unfold Program.recurses;rw[h];rfl
theorem avk:(Rows.forwardTrueRow.inPlace==Tryz.prog.inPlace 3)=true:=by unfold Program.inPlace;rw[Gf];kernel_rfl
end Go.Hf

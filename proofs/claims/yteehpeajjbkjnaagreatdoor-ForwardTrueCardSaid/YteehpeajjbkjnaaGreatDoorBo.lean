import Derived.Test.YteehpeajjbkjnaaGreatDoorBl
import Derived.Test.YteehpeajjbkjnaaGreatDoorBm
import Derived.Test.YteehpeajjbkjnaaGreatDoorBn
import Derived.ProofKit
import Derived.Stop.Joined
set_option linter.all false
namespace Go.Proofs.YteehpeajjbkjnaaGreatDoor
open Go Go.Hf
set_option maxRecDepth 100000
theorem avg:Rows.forwardTrueRow.wf (OpenSpec.ofChange Rows.forwardTrueSpec)=true:=by kernel_rfl
theorem au2:mapsRowed Tryz.prog=true:=by kernel_rfl
theorem au9:Tryz.f3.params.all (Tryz.prog.readableRec ·)=true:=by kernel_rfl
theorem au6:namedTie Tryz.prog Rows.forwardTrueRow.named Rows.forwardTrueSpec.vars=true:=by kernel_rfl
theorem avd:(Tryz.prog.stops==[])=true:=by kernel_rfl
theorem avc:(Tryz.prog.stopKnobs==[])=true:=by kernel_rfl
theorem au1:(Rows.forwardTrueRow.maps==(Tryz.f3.params.toList++Rows.forwardTrueSpec.plain.varTypes Tryz.prog).any (Tryz.prog.mapsRec ·))=true:=by kernel_rfl
theorem auV:(Rows.forwardTrueRow.ifaces==(Tryz.f3.params.toList++Rows.forwardTrueSpec.plain.varTypes Tryz.prog).any (Tryz.prog.ifacesRec ·))=true:=by kernel_rfl
theorem au5:(Rows.forwardTrueRow.mapsOut==Tryz.prog.mapsAmong Tryz.f3.resultTypes.toList)=true:=by kernel_rfl
theorem au0:(Rows.forwardTrueRow.loops==(Tryz.f3.params.toList++Rows.forwardTrueSpec.plain.varTypes Tryz.prog).any (Tryz.prog.loopsFrom ·))=true:=by kernel_rfl
theorem avh:(Rows.forwardTrueRow.wideKeys==(Tryz.f3.params.toList++Rows.forwardTrueSpec.plain.varTypes Tryz.prog++Tryz.f3.resultTypes.toList).any (Tryz.prog.wideKeysFrom ·))=true:=by kernel_rfl
theorem ava:Tryz.f3.resultTypes.all (λt=>Tryz.prog.readableRec t&&decide (t<Tryz.prog.types.size))=true:=by kernel_rfl
theorem auW:(Rows.forwardTrueRow.ifacesOut==Tryz.f3.resultTypes.toList.any (Tryz.prog.ifacesRec ·))=true:=by kernel_rfl
theorem auY:(Rows.forwardTrueRow.loopsOut==Tryz.f3.resultTypes.toList.any (Tryz.prog.loopsFrom ·))=true:=by kernel_rfl
theorem au8:(Rows.forwardTrueRow.plainKeys==Tryz.prog.plainKeys)=true:=by kernel_rfl
theorem avb:Tryz.prog.stopsHeard=true:=by kernel_rfl
theorem au3:Tryz.prog.mayEnter=true:=by kernel_rfl
theorem auZ:(Rows.forwardTrueRow.lifted==Tryz.prog.liftsFinal)=true:=by kernel_rfl
theorem au4:(Tryz.prog.make==some Rows.forwardTrueRow.make)=true:=by kernel_rfl
theorem auX:(Rows.forwardTrueRow.kinds==(if Rows.forwardTrueRow.domain.isEmpty then[] else Tryz.f3.params.toList.map λt=>match Tryz.prog.underlying t with|some (.int k)=>some k|_=>none))=true:=by kernel_rfl
theorem au7:(Rows.forwardTrueRow.pinned==Rows.forwardTrueRow.pinnedBy)=true:=by kernel_rfl
theorem ave:(Rows.forwardTrueRow.veiled==(Tryz.f3.params.toList++Rows.forwardTrueSpec.plain.varTypes Tryz.prog++Tryz.f3.resultTypes.toList).any (Tryz.prog.veiledRec ·))=true:=by kernel_rfl
theorem avf:Rows.forwardTrueRow.veiledFits Tryz.prog Tryz.f3.params.toList (Tryz.f3.params.toList++Rows.forwardTrueSpec.plain.varTypes Tryz.prog++Tryz.f3.resultTypes.toList)=true:=by kernel_rfl
theorem avj:joinedFacts Tryz.prog 3 Tryz.f3 Rows.forwardTrueSpec Rows.forwardTrueRow=true:=by
 unfold joinedFacts;simp only[cC]
 repeat' apply And.intro
 all_goals first
  |with_reducible exact avg
  |with_reducible exact au2
  |with_reducible exact au9
  |with_reducible exact au6
  |with_reducible exact avd
  |with_reducible exact avc
  |with_reducible exact au1
  |with_reducible exact auV
  |with_reducible exact au5
  |with_reducible exact au0
  |with_reducible exact avh
  |with_reducible exact ava
  |with_reducible exact auW
  |with_reducible exact auY
  |with_reducible exact au8
  |with_reducible exact avb
  |with_reducible exact au3
  |with_reducible exact auZ
  |with_reducible exact au4
  |with_reducible exact auX
  |with_reducible exact au7
  |with_reducible exact ave
  |with_reducible exact avf
  |with_reducible exact avl
  |with_reducible exact avk
  |with_reducible exact avn
  |with_reducible exact avm
  |with_reducible exact avo
  |rfl
end Go.Proofs.YteehpeajjbkjnaaGreatDoor

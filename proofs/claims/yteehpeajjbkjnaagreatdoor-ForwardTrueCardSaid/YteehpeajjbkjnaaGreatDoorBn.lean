import Derived.Test.YteehpeajjbkjnaaGreatDoorBi
import Derived.Test.YteehpeajjbkjnaaGreatDoorRows
import Derived.Stop.Joined
set_option maxRecDepth 100000
set_option linter.all false
namespace Go.Hf
open Go Go.Proofs Go.Proofs.YteehpeajjbkjnaaGreatDoor
theorem aqV:((List.range' 0 50).all (rowFine Tryz.prog))=true:=by kernel_rfl
theorem aq4:((List.range' 50 50).all (rowFine Tryz.prog))=true:=by kernel_rfl
theorem aqW:((List.range' 100 50).all (rowFine Tryz.prog))=true:=by kernel_rfl
theorem aqX:((List.range' 150 50).all (rowFine Tryz.prog))=true:=by kernel_rfl
theorem aqY:((List.range' 200 50).all (rowFine Tryz.prog))=true:=by kernel_rfl
theorem aqZ:((List.range' 250 50).all (rowFine Tryz.prog))=true:=by kernel_rfl
theorem aq0:((List.range' 300 50).all (rowFine Tryz.prog))=true:=by kernel_rfl
theorem aq1:((List.range' 350 50).all (rowFine Tryz.prog))=true:=by kernel_rfl
theorem aq2:((List.range' 400 50).all (rowFine Tryz.prog))=true:=by kernel_rfl
theorem aq3:((List.range' 450 50).all (rowFine Tryz.prog))=true:=by kernel_rfl
theorem aq5:((List.range' 500 50).all (rowFine Tryz.prog))=true:=by kernel_rfl
theorem aq6:((List.range' 550 41).all (rowFine Tryz.prog))=true:=by kernel_rfl
theorem tw(a m n:Nat)(p:Nat->Bool)(b:(List.range' a m).all p=true)(c:(List.range' (a+m) n).all p=true):(List.range' a (m+n)).all p=true:=by rw[<-List.range'_append_1,List.all_append,b,c];rfl
theorem arb:Tryz.prog.types.size=591:=by kernel_rfl
theorem aq7:(List.range Tryz.prog.types.size).all (rowFine Tryz.prog)=true:=by rw[arb,List.range_eq_range'];exact(tw 0 50 541 _ aqV (tw 50 50 491 _ aq4 (tw 100 50 441 _ aqW (tw 150 50 391 _ aqX (tw 200 50 341 _ aqY (tw 250 50 291 _ aqZ (tw 300 50 241 _ aq0 (tw 350 50 191 _ aq1 (tw 400 50 141 _ aq2 (tw 450 50 91 _ aq3 (tw 500 50 41 _ aq5 aq6)))))))))))
theorem aq8:Tryz.prog.globals.all (λg=>decide (g.type<Tryz.prog.types.size))=true:=by kernel_rfl
theorem aq9:Tryz.prog.funcs.all (λf=>f.params.all λt=>decide (t<Tryz.prog.types.size))=true:=by kernel_rfl
theorem avl:laidOutB Tryz.prog=true:=by unfold laidOutB;rw[aq7,aq8,aq9];rfl
end Go.Hf

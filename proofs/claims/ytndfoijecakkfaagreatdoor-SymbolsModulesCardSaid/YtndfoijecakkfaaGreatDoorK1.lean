/- RowSmK1 -/
import Derived.Test.YtndfoijecakkfaaGreatDoorCards
import Derived.JoinedOf
import Derived.KernelRfl
import Derived.ProofKit
set_option linter.all false
set_option maxRecDepth 100000

section
namespace Go.Proofs.YtndfoijecakkfaaGreatDoor
open Go Go.ChangeShapes Go.WideShapes Go.ChangeAt Go.RowKit
theorem vV:(Rows.symbolsModulesRow.wf (OpenSpec.ofChange Rows.symbolsModulesSpec))=true:=by kernel_rfl
theorem vW:(laidOutB Tryz.prog)=true:=by kernel_rfl
theorem vX:(mapsRowed Tryz.prog)=true:=by kernel_rfl
theorem vY:(Tryz.f3.params.all ( Tryz.prog.readableRec ·))=true:=by kernel_rfl
theorem vZ:(namedTie Tryz.prog Rows.symbolsModulesRow.named Rows.symbolsModulesSpec.vars)=true:=by kernel_rfl
theorem v6:((Rows.symbolsModulesRow.stops==[]))=true:=by kernel_rfl
theorem v7:(( Tryz.prog.stops==[]))=true:=by kernel_rfl
theorem v8:((Rows.symbolsModulesRow.knobs==[]))=true:=by kernel_rfl
theorem v_:(( Tryz.prog.stopKnobs==[]))=true:=by kernel_rfl
theorem xq:((Rows.symbolsModulesRow.inPlace== Tryz.prog.inPlace 3))=true:=by kernel_rfl
theorem sY:((Rows.symbolsModulesRow.unfollowed== Tryz.prog.unfollowed 3))=true:=by kernel_rfl
theorem sZ:((Rows.symbolsModulesRow.recurses== Tryz.prog.recurses 3))=true:=by kernel_rfl
theorem s_:((Rows.symbolsModulesRow.named== Tryz.prog.varsNamed 3))=true:=by kernel_rfl
theorem tb:((Rows.symbolsModulesRow.maps==(Tryz.f3.params.toList++Rows.symbolsModulesSpec.plain.varTypes Tryz.prog).any ( Tryz.prog.mapsRec ·)))=true:=by kernel_rfl
end Go.Proofs.YtndfoijecakkfaaGreatDoor
end

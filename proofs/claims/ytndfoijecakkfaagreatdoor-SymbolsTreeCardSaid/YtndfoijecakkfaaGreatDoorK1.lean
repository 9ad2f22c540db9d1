/- RowStK1 -/
import Derived.Test.YtndfoijecakkfaaGreatDoorCards
import Derived.JoinedOf
import Derived.KernelRfl
import Derived.ProofKit
set_option linter.all false
set_option maxRecDepth 100000

section
namespace Go.Proofs.YtndfoijecakkfaaGreatDoor
open Go Go.ChangeShapes Go.WideShapes Go.ChangeAt Go.RowKit
theorem tH:(Rows.symbolsTreeRow.wf (OpenSpec.ofChange Rows.symbolsTreeSpec))=true:=by kernel_rfl
theorem vU:(laidOutB Tryz.prog)=true:=by kernel_rfl
theorem vV:(mapsRowed Tryz.prog)=true:=by kernel_rfl
theorem vW:(Tryz.f5.params.all ( Tryz.prog.readableRec ·))=true:=by kernel_rfl
theorem vX:(namedTie Tryz.prog Rows.symbolsTreeRow.named Rows.symbolsTreeSpec.vars)=true:=by kernel_rfl
theorem vY:((Rows.symbolsTreeRow.stops==[]))=true:=by kernel_rfl
theorem vZ:(( Tryz.prog.stops==[]))=true:=by kernel_rfl
theorem v6:((Rows.symbolsTreeRow.knobs==[]))=true:=by kernel_rfl
theorem v7:(( Tryz.prog.stopKnobs==[]))=true:=by kernel_rfl
theorem v8:((Rows.symbolsTreeRow.inPlace== Tryz.prog.inPlace 5))=true:=by kernel_rfl
theorem rJ:((Rows.symbolsTreeRow.unfollowed== Tryz.prog.unfollowed 5))=true:=by kernel_rfl
theorem r_:((Rows.symbolsTreeRow.recurses== Tryz.prog.recurses 5))=true:=by kernel_rfl
theorem sW:((Rows.symbolsTreeRow.named== Tryz.prog.varsNamed 5))=true:=by kernel_rfl
theorem sX:((Rows.symbolsTreeRow.maps==(Tryz.f5.params.toList++Rows.symbolsTreeSpec.plain.varTypes Tryz.prog).any ( Tryz.prog.mapsRec ·)))=true:=by kernel_rfl
end Go.Proofs.YtndfoijecakkfaaGreatDoor
end

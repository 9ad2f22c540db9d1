/- RowSfK1 -/
import Derived.Test.YtndfoijecakkfaaGreatDoorCards
import Derived.JoinedOf
import Derived.KernelRfl
import Derived.ProofKit
set_option linter.all false
set_option maxRecDepth 100000

section
namespace Go.Proofs.YtndfoijecakkfaaGreatDoor
open Go Go.ChangeShapes Go.WideShapes Go.ChangeAt Go.RowKit
theorem vU:(Rows.symbolsFindRow.wf (OpenSpec.ofChange Rows.symbolsFindSpec))=true:=by kernel_rfl
theorem vV:(laidOutB Tryz.prog)=true:=by kernel_rfl
theorem vW:(mapsRowed Tryz.prog)=true:=by kernel_rfl
theorem vX:(Tryz.f4.params.all ( Tryz.prog.readableRec ·))=true:=by kernel_rfl
theorem vY:(namedTie Tryz.prog Rows.symbolsFindRow.named Rows.symbolsFindSpec.vars)=true:=by kernel_rfl
theorem vZ:((Rows.symbolsFindRow.stops==[]))=true:=by kernel_rfl
theorem v6:(( Tryz.prog.stops==[]))=true:=by kernel_rfl
theorem v7:((Rows.symbolsFindRow.knobs==[]))=true:=by kernel_rfl
theorem v8:(( Tryz.prog.stopKnobs==[]))=true:=by kernel_rfl
theorem v_:((Rows.symbolsFindRow.inPlace== Tryz.prog.inPlace 4))=true:=by kernel_rfl
theorem sW:((Rows.symbolsFindRow.unfollowed== Tryz.prog.unfollowed 4))=true:=by kernel_rfl
theorem sX:((Rows.symbolsFindRow.recurses== Tryz.prog.recurses 4))=true:=by kernel_rfl
theorem sY:((Rows.symbolsFindRow.named== Tryz.prog.varsNamed 4))=true:=by kernel_rfl
theorem sZ:((Rows.symbolsFindRow.maps==(Tryz.f4.params.toList++Rows.symbolsFindSpec.plain.varTypes Tryz.prog).any ( Tryz.prog.mapsRec ·)))=true:=by kernel_rfl
end Go.Proofs.YtndfoijecakkfaaGreatDoor
end

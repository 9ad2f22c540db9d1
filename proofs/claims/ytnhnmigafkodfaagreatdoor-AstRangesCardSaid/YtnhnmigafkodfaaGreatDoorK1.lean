/- RowRgK1 -/
import Derived.Test.YtnhnmigafkodfaaGreatDoorCards
import Derived.JoinedOf
import Derived.KernelRfl
import Derived.ProofKit
set_option linter.all false
set_option maxRecDepth 100000

section
namespace Go.Proofs.YtnhnmigafkodfaaGreatDoor
open Go Go.ChangeShapes Go.WideShapes Go.ChangeAt Go.RowKit
theorem astRanges_k0:(Rows.astRangesRow.wf (OpenSpec.ofChange Rows.astRangesSpec))=true:=by kernel_rfl
theorem astRanges_k1:(laidOutB Tryz.prog)=true:=by kernel_rfl
theorem astRanges_k2:(mapsRowed Tryz.prog)=true:=by kernel_rfl
theorem astRanges_k3:(Tryz.f7.params.all ( Tryz.prog.readableRec ·))=true:=by kernel_rfl
theorem astRanges_k4:(namedTie Tryz.prog Rows.astRangesRow.named Rows.astRangesSpec.vars)=true:=by kernel_rfl
theorem astRanges_k5:((Rows.astRangesRow.stops==[]))=true:=by kernel_rfl
theorem astRanges_k6:(( Tryz.prog.stops==[]))=true:=by kernel_rfl
theorem astRanges_k7:((Rows.astRangesRow.knobs==[]))=true:=by kernel_rfl
theorem astRanges_k8:(( Tryz.prog.stopKnobs==[]))=true:=by kernel_rfl
theorem astRanges_k9:((Rows.astRangesRow.inPlace== Tryz.prog.inPlace 7))=true:=by kernel_rfl
theorem astRanges_k10:((Rows.astRangesRow.unfollowed== Tryz.prog.unfollowed 7))=true:=by kernel_rfl
theorem astRanges_k11:((Rows.astRangesRow.recurses== Tryz.prog.recurses 7))=true:=by kernel_rfl
theorem astRanges_k12:((Rows.astRangesRow.named== Tryz.prog.varsNamed 7))=true:=by kernel_rfl
theorem astRanges_k13:((Rows.astRangesRow.maps==(Tryz.f7.params.toList++Rows.astRangesSpec.plain.varTypes Tryz.prog).any ( Tryz.prog.mapsRec ·)))=true:=by kernel_rfl
end Go.Proofs.YtnhnmigafkodfaaGreatDoor
end

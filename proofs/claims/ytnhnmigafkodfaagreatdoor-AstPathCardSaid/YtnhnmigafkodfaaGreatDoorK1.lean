/- RowPaK1 -/
import Derived.Test.YtnhnmigafkodfaaGreatDoorCards
import Derived.JoinedOf
import Derived.KernelRfl
import Derived.ProofKit
set_option linter.all false
set_option maxRecDepth 100000

section
namespace Go.Proofs.YtnhnmigafkodfaaGreatDoor
open Go Go.ChangeShapes Go.WideShapes Go.ChangeAt Go.RowKit
theorem astPath_k0:(Rows.astPathRow.wf (OpenSpec.ofChange Rows.astPathSpec))=true:=by kernel_rfl
theorem astPath_k1:(laidOutB Tryz.prog)=true:=by kernel_rfl
theorem astPath_k2:(mapsRowed Tryz.prog)=true:=by kernel_rfl
theorem astPath_k3:(Tryz.f11.params.all ( Tryz.prog.readableRec ·))=true:=by kernel_rfl
theorem astPath_k4:(namedTie Tryz.prog Rows.astPathRow.named Rows.astPathSpec.vars)=true:=by kernel_rfl
theorem astPath_k5:((Rows.astPathRow.stops==[]))=true:=by kernel_rfl
theorem astPath_k6:(( Tryz.prog.stops==[]))=true:=by kernel_rfl
theorem astPath_k7:((Rows.astPathRow.knobs==[]))=true:=by kernel_rfl
theorem astPath_k8:(( Tryz.prog.stopKnobs==[]))=true:=by kernel_rfl
theorem astPath_k9:((Rows.astPathRow.inPlace== Tryz.prog.inPlace 11))=true:=by kernel_rfl
theorem astPath_k10:((Rows.astPathRow.unfollowed== Tryz.prog.unfollowed 11))=true:=by kernel_rfl
theorem astPath_k11:((Rows.astPathRow.recurses== Tryz.prog.recurses 11))=true:=by kernel_rfl
theorem astPath_k12:((Rows.astPathRow.named== Tryz.prog.varsNamed 11))=true:=by kernel_rfl
theorem astPath_k13:((Rows.astPathRow.maps==(Tryz.f11.params.toList++Rows.astPathSpec.plain.varTypes Tryz.prog).any ( Tryz.prog.mapsRec ·)))=true:=by kernel_rfl
end Go.Proofs.YtnhnmigafkodfaaGreatDoor
end

/- RowSpK1 -/
import Derived.Test.YtnhnmigafkodfaaGreatDoorCards
import Derived.JoinedOf
import Derived.KernelRfl
import Derived.ProofKit
set_option linter.all false
set_option maxRecDepth 100000

section
namespace Go.Proofs.YtnhnmigafkodfaaGreatDoor
open Go Go.ChangeShapes Go.WideShapes Go.ChangeAt Go.RowKit
theorem astStrip_k0:(Rows.astStripRow.wf (OpenSpec.ofChange Rows.astStripSpec))=true:=by kernel_rfl
theorem astStrip_k1:(laidOutB Tryz.prog)=true:=by kernel_rfl
theorem astStrip_k2:(mapsRowed Tryz.prog)=true:=by kernel_rfl
theorem astStrip_k3:(Tryz.f10.params.all ( Tryz.prog.readableRec ·))=true:=by kernel_rfl
theorem astStrip_k4:(namedTie Tryz.prog Rows.astStripRow.named Rows.astStripSpec.vars)=true:=by kernel_rfl
theorem astStrip_k5:((Rows.astStripRow.stops==[]))=true:=by kernel_rfl
theorem astStrip_k6:(( Tryz.prog.stops==[]))=true:=by kernel_rfl
theorem astStrip_k7:((Rows.astStripRow.knobs==[]))=true:=by kernel_rfl
theorem astStrip_k8:(( Tryz.prog.stopKnobs==[]))=true:=by kernel_rfl
theorem astStrip_k9:((Rows.astStripRow.inPlace== Tryz.prog.inPlace 10))=true:=by kernel_rfl
theorem astStrip_k10:((Rows.astStripRow.unfollowed== Tryz.prog.unfollowed 10))=true:=by kernel_rfl
theorem astStrip_k11:((Rows.astStripRow.recurses== Tryz.prog.recurses 10))=true:=by kernel_rfl
theorem astStrip_k12:((Rows.astStripRow.named== Tryz.prog.varsNamed 10))=true:=by kernel_rfl
theorem astStrip_k13:((Rows.astStripRow.maps==(Tryz.f10.params.toList++Rows.astStripSpec.plain.varTypes Tryz.prog).any ( Tryz.prog.mapsRec ·)))=true:=by kernel_rfl
end Go.Proofs.YtnhnmigafkodfaaGreatDoor
end

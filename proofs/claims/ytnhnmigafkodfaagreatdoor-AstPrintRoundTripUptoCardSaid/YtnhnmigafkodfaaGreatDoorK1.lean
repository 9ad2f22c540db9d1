/- RowPpK1 -/
import Derived.Test.YtnhnmigafkodfaaGreatDoorCards
import Derived.JoinedOf
import Derived.KernelRfl
import Derived.ProofKit
set_option linter.all false
set_option maxRecDepth 100000

section
namespace Go.Proofs.YtnhnmigafkodfaaGreatDoor
open Go Go.ChangeShapes Go.WideShapes Go.ChangeAt Go.RowKit
theorem astPrintRoundTripUpto_k0:(Rows.astPrintRoundTripUptoRow.wf (OpenSpec.ofChange Rows.astPrintRoundTripSpec))=true:=by kernel_rfl
theorem astPrintRoundTripUpto_k1:(laidOutB Tryz.prog)=true:=by kernel_rfl
theorem astPrintRoundTripUpto_k2:(mapsRowed Tryz.prog)=true:=by kernel_rfl
theorem astPrintRoundTripUpto_k3:(Tryz.f9.params.all ( Tryz.prog.readableRec ·))=true:=by kernel_rfl
theorem astPrintRoundTripUpto_k4:(namedTie Tryz.prog Rows.astPrintRoundTripUptoRow.named Rows.astPrintRoundTripSpec.vars)=true:=by kernel_rfl
theorem astPrintRoundTripUpto_k5:((Rows.astPrintRoundTripUptoRow.stops==[]))=true:=by kernel_rfl
theorem astPrintRoundTripUpto_k6:(( Tryz.prog.stops==[]))=true:=by kernel_rfl
theorem astPrintRoundTripUpto_k7:((Rows.astPrintRoundTripUptoRow.knobs==[]))=true:=by kernel_rfl
theorem astPrintRoundTripUpto_k8:(( Tryz.prog.stopKnobs==[]))=true:=by kernel_rfl
theorem astPrintRoundTripUpto_k9:((Rows.astPrintRoundTripUptoRow.inPlace== Tryz.prog.inPlace 9))=true:=by kernel_rfl
theorem astPrintRoundTripUpto_k10:((Rows.astPrintRoundTripUptoRow.unfollowed== Tryz.prog.unfollowed 9))=true:=by kernel_rfl
theorem astPrintRoundTripUpto_k11:((Rows.astPrintRoundTripUptoRow.recurses== Tryz.prog.recurses 9))=true:=by kernel_rfl
theorem astPrintRoundTripUpto_k12:((Rows.astPrintRoundTripUptoRow.named== Tryz.prog.varsNamed 9))=true:=by kernel_rfl
theorem astPrintRoundTripUpto_k13:((Rows.astPrintRoundTripUptoRow.maps==(Tryz.f9.params.toList++Rows.astPrintRoundTripSpec.plain.varTypes Tryz.prog).any ( Tryz.prog.mapsRec ·)))=true:=by kernel_rfl
end Go.Proofs.YtnhnmigafkodfaaGreatDoor
end

/- RowGrK1 -/
import Derived.Test.YtkikcleofaeigaaGreatDoorCards
import Derived.JoinedOf
import Derived.KernelRfl
import Derived.ProofKit
set_option linter.all false

section
set_option maxRecDepth 100000
namespace Go.Proofs.YtkikcleofaeigaaGreatDoor
open Go Go.ChangeShapes Go.WideShapes Go.ChangeAt Go.RowKit
theorem greentreeRoundTrip_k0 : (Rows.greentreeRoundTripRow.wf (OpenSpec.ofChange Rows.greentreeRoundTripSpec)) = true := by kernel_rfl
theorem greentreeRoundTrip_k1 : (laidOutB Tryz.prog) = true := by kernel_rfl
theorem greentreeRoundTrip_k2 : (mapsRowed Tryz.prog) = true := by kernel_rfl
theorem greentreeRoundTrip_k3 : (Tryz.f4.params.all ( Tryz.prog.readableRec ·)) = true := by kernel_rfl
theorem greentreeRoundTrip_k4 : (namedTie Tryz.prog Rows.greentreeRoundTripRow.named Rows.greentreeRoundTripSpec.vars) = true := by kernel_rfl
theorem greentreeRoundTrip_k5 : ((Rows.greentreeRoundTripRow.stops == [])) = true := by kernel_rfl
theorem greentreeRoundTrip_k6 : (( Tryz.prog.stops == [])) = true := by kernel_rfl
theorem greentreeRoundTrip_k7 : ((Rows.greentreeRoundTripRow.knobs == [])) = true := by kernel_rfl
theorem greentreeRoundTrip_k8 : (( Tryz.prog.stopKnobs == [])) = true := by kernel_rfl
theorem greentreeRoundTrip_k9 : ((Rows.greentreeRoundTripRow.inPlace ==  Tryz.prog.inPlace 4)) = true := by kernel_rfl
theorem greentreeRoundTrip_k10 : ((Rows.greentreeRoundTripRow.unfollowed ==  Tryz.prog.unfollowed 4)) = true := by kernel_rfl
theorem greentreeRoundTrip_k11 : ((Rows.greentreeRoundTripRow.recurses ==  Tryz.prog.recurses 4)) = true := by kernel_rfl
theorem greentreeRoundTrip_k12 : ((Rows.greentreeRoundTripRow.named ==  Tryz.prog.varsNamed 4)) = true := by kernel_rfl
theorem greentreeRoundTrip_k13 : ((Rows.greentreeRoundTripRow.maps == (Tryz.f4.params.toList ++ Rows.greentreeRoundTripSpec.plain.varTypes Tryz.prog).any ( Tryz.prog.mapsRec ·))) = true := by kernel_rfl
end Go.Proofs.YtkikcleofaeigaaGreatDoor
end

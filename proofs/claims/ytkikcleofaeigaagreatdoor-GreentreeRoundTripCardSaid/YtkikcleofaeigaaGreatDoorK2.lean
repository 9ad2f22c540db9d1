/- RowGrK2 -/
import Derived.Test.YtkikcleofaeigaaGreatDoorCards
import Derived.JoinedOf
import Derived.KernelRfl
import Derived.ProofKit
set_option linter.all false

section
set_option maxRecDepth 100000
namespace Go.Proofs.YtkikcleofaeigaaGreatDoor
open Go Go.ChangeShapes Go.WideShapes Go.ChangeAt Go.RowKit
theorem greentreeRoundTrip_k14 : ((Rows.greentreeRoundTripRow.ifaces == (Tryz.f4.params.toList ++ Rows.greentreeRoundTripSpec.plain.varTypes Tryz.prog).any ( Tryz.prog.ifacesRec ·))) = true := by kernel_rfl
theorem greentreeRoundTrip_k15 : ((Rows.greentreeRoundTripRow.mapsOut ==  Tryz.prog.mapsAmong Tryz.f4.resultTypes.toList)) = true := by kernel_rfl
theorem greentreeRoundTrip_k16 : ((Rows.greentreeRoundTripRow.loops == (Tryz.f4.params.toList ++ Rows.greentreeRoundTripSpec.plain.varTypes Tryz.prog).any ( Tryz.prog.loopsFrom ·))) = true := by kernel_rfl
theorem greentreeRoundTrip_k17 : ((Rows.greentreeRoundTripRow.wideKeys == (Tryz.f4.params.toList ++ Rows.greentreeRoundTripSpec.plain.varTypes Tryz.prog ++ Tryz.f4.resultTypes.toList).any ( Tryz.prog.wideKeysFrom ·))) = true := by kernel_rfl
theorem greentreeRoundTrip_k18 : (Rows.greentreeRoundTripSpec.vars.all ( Tryz.prog.varReadable ·)) = true := by kernel_rfl
theorem greentreeRoundTrip_k19 : (Tryz.f4.resultTypes.all (fun t =>  Tryz.prog.readableRec t && decide (t <  Tryz.prog.types.size))) = true := by kernel_rfl
theorem greentreeRoundTrip_k20 : ((Rows.greentreeRoundTripRow.ifacesOut == Tryz.f4.resultTypes.toList.any ( Tryz.prog.ifacesRec ·))) = true := by kernel_rfl
theorem greentreeRoundTrip_k21 : ((Rows.greentreeRoundTripRow.loopsOut == Tryz.f4.resultTypes.toList.any ( Tryz.prog.loopsFrom ·))) = true := by kernel_rfl
theorem greentreeRoundTrip_k22 : ((Rows.greentreeRoundTripRow.plainKeys ==  Tryz.prog.plainKeys)) = true := by kernel_rfl
theorem greentreeRoundTrip_k23 : (Rows.greentreeRoundTripRow.shortTexts.isNone) = true := by kernel_rfl
theorem greentreeRoundTrip_k24 : (Tryz.prog.stopsHeard) = true := by kernel_rfl
theorem greentreeRoundTrip_k25 : (Tryz.prog.mayEnter) = true := by kernel_rfl
theorem greentreeRoundTrip_k26 : ((Rows.greentreeRoundTripRow.lifted ==  Tryz.prog.liftsFinal)) = true := by kernel_rfl
theorem greentreeRoundTrip_k27 : (( Tryz.prog.make == some Rows.greentreeRoundTripRow.make)) = true := by kernel_rfl
theorem greentreeRoundTrip_k28 : ((Rows.greentreeRoundTripRow.kinds == (if Rows.greentreeRoundTripRow.domain.isEmpty then [] else Tryz.f4.params.toList.map fun t => match  Tryz.prog.underlying t with | some (.int k) => some k | _ => none))) = true := by kernel_rfl
theorem greentreeRoundTrip_k29 : ((Rows.greentreeRoundTripRow.pinned == Rows.greentreeRoundTripRow.pinnedBy)) = true := by kernel_rfl
theorem greentreeRoundTrip_k30 : ((Rows.greentreeRoundTripRow.veiled == (Tryz.f4.params.toList ++ Rows.greentreeRoundTripSpec.plain.varTypes Tryz.prog ++ Tryz.f4.resultTypes.toList).any ( Tryz.prog.veiledRec ·))) = true := by kernel_rfl
theorem greentreeRoundTrip_k31 : (Rows.greentreeRoundTripRow.veiledFits Tryz.prog Tryz.f4.params.toList (Tryz.f4.params.toList ++ Rows.greentreeRoundTripSpec.plain.varTypes Tryz.prog ++ Tryz.f4.resultTypes.toList)) = true := by kernel_rfl
theorem greentreeRoundTrip_wf : Rows.greentreeRoundTripRow.wfByText (OpenSpec.ofChange Rows.greentreeRoundTripSpec) = true := by kernel_rfl
theorem greentreeRoundTrip_main : Tryz.prog.mainIs = some (true, "c8f19d327cee1bbafca08ac9df62e5928c0894db283297587b4fa0fb96790cb4".toList) := by kernel_rfl
theorem greentreeRoundTrip_fn : Tryz.prog.funcNamed "glossator/glossatorkeep1.GreentreeRoundTrip" = some 4 := by kernel_rfl
theorem greentreeRoundTrip_goes : false = Rows.greentreeRoundTripRow.goesBy Tryz.prog := by kernel_rfl
theorem greentreeRoundTrip_stand : ([9].all fun u => !Tryz.prog.wantsStandIn u) = true := by kernel_rfl
theorem greentreeRoundTrip_looks : true = Tryz.prog.looks [] := by kernel_rfl
end Go.Proofs.YtkikcleofaeigaaGreatDoor
end

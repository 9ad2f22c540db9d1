/- RowTeK2 -/
import Derived.Test.YtpfffbhhommecaaGreatDoorCards
import Derived.JoinedOf
import Derived.KernelRfl
import Derived.ProofKit
set_option linter.all false

section
set_option maxRecDepth 100000
namespace Go.Proofs.YtpfffbhhommecaaGreatDoor
open Go Go.ChangeShapes Go.WideShapes Go.ChangeAt Go.RowKit
theorem topEdited_k14 : ((Rows.topEditedRow.ifaces == (Tryz.f3.params.toList ++ Rows.topEditedSpec.plain.varTypes Tryz.prog).any ( Tryz.prog.ifacesRec ·))) = true := by kernel_rfl
theorem topEdited_k15 : ((Rows.topEditedRow.mapsOut ==  Tryz.prog.mapsAmong Tryz.f3.resultTypes.toList)) = true := by kernel_rfl
theorem topEdited_k16 : ((Rows.topEditedRow.loops == (Tryz.f3.params.toList ++ Rows.topEditedSpec.plain.varTypes Tryz.prog).any ( Tryz.prog.loopsFrom ·))) = true := by kernel_rfl
theorem topEdited_k17 : ((Rows.topEditedRow.wideKeys == (Tryz.f3.params.toList ++ Rows.topEditedSpec.plain.varTypes Tryz.prog ++ Tryz.f3.resultTypes.toList).any ( Tryz.prog.wideKeysFrom ·))) = true := by kernel_rfl
theorem topEdited_k18 : (Rows.topEditedSpec.vars.all ( Tryz.prog.varReadable ·)) = true := by kernel_rfl
theorem topEdited_k19 : (Tryz.f3.resultTypes.all (fun t =>  Tryz.prog.readableRec t && decide (t <  Tryz.prog.types.size))) = true := by kernel_rfl
theorem topEdited_k20 : ((Rows.topEditedRow.ifacesOut == Tryz.f3.resultTypes.toList.any ( Tryz.prog.ifacesRec ·))) = true := by kernel_rfl
theorem topEdited_k21 : ((Rows.topEditedRow.loopsOut == Tryz.f3.resultTypes.toList.any ( Tryz.prog.loopsFrom ·))) = true := by kernel_rfl
theorem topEdited_k22 : ((Rows.topEditedRow.plainKeys ==  Tryz.prog.plainKeys)) = true := by kernel_rfl
theorem topEdited_k23 : (Rows.topEditedRow.shortTexts.isNone) = true := by kernel_rfl
theorem topEdited_k24 : (Tryz.prog.stopsHeard) = true := by kernel_rfl
theorem topEdited_k25 : (Tryz.prog.mayEnter) = true := by kernel_rfl
theorem topEdited_k26 : ((Rows.topEditedRow.lifted ==  Tryz.prog.liftsFinal)) = true := by kernel_rfl
theorem topEdited_k27 : (( Tryz.prog.make == some Rows.topEditedRow.make)) = true := by kernel_rfl
theorem topEdited_k28 : ((Rows.topEditedRow.kinds == (if Rows.topEditedRow.domain.isEmpty then [] else Tryz.f3.params.toList.map fun t => match  Tryz.prog.underlying t with | some (.int k) => some k | _ => none))) = true := by kernel_rfl
theorem topEdited_k29 : ((Rows.topEditedRow.pinned == Rows.topEditedRow.pinnedBy)) = true := by kernel_rfl
theorem topEdited_k30 : ((Rows.topEditedRow.veiled == (Tryz.f3.params.toList ++ Rows.topEditedSpec.plain.varTypes Tryz.prog ++ Tryz.f3.resultTypes.toList).any ( Tryz.prog.veiledRec ·))) = true := by kernel_rfl
theorem topEdited_k31 : (Rows.topEditedRow.veiledFits Tryz.prog Tryz.f3.params.toList (Tryz.f3.params.toList ++ Rows.topEditedSpec.plain.varTypes Tryz.prog ++ Tryz.f3.resultTypes.toList)) = true := by kernel_rfl
theorem topEdited_wf : Rows.topEditedRow.wfByText (OpenSpec.ofChange Rows.topEditedSpec) = true := by kernel_rfl
theorem topEdited_main : Tryz.prog.mainIs = some (true, "729a8ad344ef6c4278a65bb82510be7e011468e0cf499205aa97fd91cf172cb1".toList) := by kernel_rfl
theorem topEdited_fn : Tryz.prog.funcNamed "glossator/glossatortop.TopEdited" = some 3 := by kernel_rfl
theorem topEdited_goes : false = Rows.topEditedRow.goesBy Tryz.prog := by kernel_rfl
theorem topEdited_stand : ([9, 22, 22].all fun u => !Tryz.prog.wantsStandIn u) = true := by kernel_rfl
theorem topEdited_looks : true = Tryz.prog.looks [] := by kernel_rfl
end Go.Proofs.YtpfffbhhommecaaGreatDoor
end

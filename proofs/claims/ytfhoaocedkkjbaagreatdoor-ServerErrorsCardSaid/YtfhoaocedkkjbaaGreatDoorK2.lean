/- RowSrK2 -/
import Derived.Test.YtfhoaocedkkjbaaGreatDoorCards
import Derived.JoinedOf
import Derived.KernelRfl
import Derived.ProofKit
set_option linter.all false

section
set_option maxRecDepth 100000
namespace Go.Proofs.YtfhoaocedkkjbaaGreatDoor
open Go Go.ChangeShapes Go.WideShapes Go.ChangeAt Go.RowKit
theorem serverErrors_k14 : ((Rows.serverErrorsRow.ifaces == (Tryz.f8.params.toList ++ Rows.serverErrorsSpec.plain.varTypes Tryz.prog).any ( Tryz.prog.ifacesRec ·))) = true := by kernel_rfl
theorem serverErrors_k15 : ((Rows.serverErrorsRow.mapsOut ==  Tryz.prog.mapsAmong Tryz.f8.resultTypes.toList)) = true := by kernel_rfl
theorem serverErrors_k16 : ((Rows.serverErrorsRow.loops == (Tryz.f8.params.toList ++ Rows.serverErrorsSpec.plain.varTypes Tryz.prog).any ( Tryz.prog.loopsFrom ·))) = true := by kernel_rfl
theorem serverErrors_k17 : ((Rows.serverErrorsRow.wideKeys == (Tryz.f8.params.toList ++ Rows.serverErrorsSpec.plain.varTypes Tryz.prog ++ Tryz.f8.resultTypes.toList).any ( Tryz.prog.wideKeysFrom ·))) = true := by kernel_rfl
theorem serverErrors_k18 : (Rows.serverErrorsSpec.vars.all ( Tryz.prog.varReadable ·)) = true := by kernel_rfl
theorem serverErrors_k19 : (Tryz.f8.resultTypes.all (fun t =>  Tryz.prog.readableRec t && decide (t <  Tryz.prog.types.size))) = true := by kernel_rfl
theorem serverErrors_k20 : ((Rows.serverErrorsRow.ifacesOut == Tryz.f8.resultTypes.toList.any ( Tryz.prog.ifacesRec ·))) = true := by kernel_rfl
theorem serverErrors_k21 : ((Rows.serverErrorsRow.loopsOut == Tryz.f8.resultTypes.toList.any ( Tryz.prog.loopsFrom ·))) = true := by kernel_rfl
theorem serverErrors_k22 : ((Rows.serverErrorsRow.plainKeys ==  Tryz.prog.plainKeys)) = true := by kernel_rfl
theorem serverErrors_k23 : (Rows.serverErrorsRow.shortTexts.isNone) = true := by kernel_rfl
theorem serverErrors_k24 : (Tryz.prog.stopsHeard) = true := by kernel_rfl
theorem serverErrors_k25 : (Tryz.prog.mayEnter) = true := by kernel_rfl
theorem serverErrors_k26 : ((Rows.serverErrorsRow.lifted ==  Tryz.prog.liftsFinal)) = true := by kernel_rfl
theorem serverErrors_k27 : (( Tryz.prog.make == some Rows.serverErrorsRow.make)) = true := by kernel_rfl
theorem serverErrors_k28 : ((Rows.serverErrorsRow.kinds == (if Rows.serverErrorsRow.domain.isEmpty then [] else Tryz.f8.params.toList.map fun t => match  Tryz.prog.underlying t with | some (.int k) => some k | _ => none))) = true := by kernel_rfl
theorem serverErrors_k29 : ((Rows.serverErrorsRow.pinned == Rows.serverErrorsRow.pinnedBy)) = true := by kernel_rfl
theorem serverErrors_k30 : ((Rows.serverErrorsRow.veiled == (Tryz.f8.params.toList ++ Rows.serverErrorsSpec.plain.varTypes Tryz.prog ++ Tryz.f8.resultTypes.toList).any ( Tryz.prog.veiledRec ·))) = true := by kernel_rfl
theorem serverErrors_k31 : (Rows.serverErrorsRow.veiledFits Tryz.prog Tryz.f8.params.toList (Tryz.f8.params.toList ++ Rows.serverErrorsSpec.plain.varTypes Tryz.prog ++ Tryz.f8.resultTypes.toList)) = true := by kernel_rfl
theorem serverErrors_wf : Rows.serverErrorsRow.wfByText (OpenSpec.ofChange Rows.serverErrorsSpec) = true := by kernel_rfl
theorem serverErrors_main : Tryz.prog.mainIs = some (true, "729a8ad344ef6c4278a65bb82510be7e011468e0cf499205aa97fd91cf172cb1".toList) := by kernel_rfl
theorem serverErrors_fn : Tryz.prog.funcNamed "glossator/glossatorkeep1.ServerErrors" = some 8 := by kernel_rfl
theorem serverErrors_goes : false = Rows.serverErrorsRow.goesBy Tryz.prog := by kernel_rfl
theorem serverErrors_stand : ([50, 35].all fun u => !Tryz.prog.wantsStandIn u) = true := by kernel_rfl
theorem serverErrors_looks : true = Tryz.prog.looks [] := by kernel_rfl
end Go.Proofs.YtfhoaocedkkjbaaGreatDoor
end

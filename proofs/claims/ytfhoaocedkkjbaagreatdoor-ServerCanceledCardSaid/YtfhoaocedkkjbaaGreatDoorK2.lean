/- RowScK2 -/
import Derived.Test.YtfhoaocedkkjbaaGreatDoorCards
import Derived.JoinedOf
import Derived.KernelRfl
import Derived.ProofKit
set_option linter.all false

section
set_option maxRecDepth 100000
namespace Go.Proofs.YtfhoaocedkkjbaaGreatDoor
open Go Go.ChangeShapes Go.WideShapes Go.ChangeAt Go.RowKit
theorem serverCanceled_k14 : ((Rows.serverCanceledRow.ifaces == (Tryz.f6.params.toList ++ Rows.serverCanceledSpec.plain.varTypes Tryz.prog).any ( Tryz.prog.ifacesRec ·))) = true := by kernel_rfl
theorem serverCanceled_k15 : ((Rows.serverCanceledRow.mapsOut ==  Tryz.prog.mapsAmong Tryz.f6.resultTypes.toList)) = true := by kernel_rfl
theorem serverCanceled_k16 : ((Rows.serverCanceledRow.loops == (Tryz.f6.params.toList ++ Rows.serverCanceledSpec.plain.varTypes Tryz.prog).any ( Tryz.prog.loopsFrom ·))) = true := by kernel_rfl
theorem serverCanceled_k17 : ((Rows.serverCanceledRow.wideKeys == (Tryz.f6.params.toList ++ Rows.serverCanceledSpec.plain.varTypes Tryz.prog ++ Tryz.f6.resultTypes.toList).any ( Tryz.prog.wideKeysFrom ·))) = true := by kernel_rfl
theorem serverCanceled_k18 : (Rows.serverCanceledSpec.vars.all ( Tryz.prog.varReadable ·)) = true := by kernel_rfl
theorem serverCanceled_k19 : (Tryz.f6.resultTypes.all (fun t =>  Tryz.prog.readableRec t && decide (t <  Tryz.prog.types.size))) = true := by kernel_rfl
theorem serverCanceled_k20 : ((Rows.serverCanceledRow.ifacesOut == Tryz.f6.resultTypes.toList.any ( Tryz.prog.ifacesRec ·))) = true := by kernel_rfl
theorem serverCanceled_k21 : ((Rows.serverCanceledRow.loopsOut == Tryz.f6.resultTypes.toList.any ( Tryz.prog.loopsFrom ·))) = true := by kernel_rfl
theorem serverCanceled_k22 : ((Rows.serverCanceledRow.plainKeys ==  Tryz.prog.plainKeys)) = true := by kernel_rfl
theorem serverCanceled_k23 : (Rows.serverCanceledRow.shortTexts.isNone) = true := by kernel_rfl
theorem serverCanceled_k24 : (Tryz.prog.stopsHeard) = true := by kernel_rfl
theorem serverCanceled_k25 : (Tryz.prog.mayEnter) = true := by kernel_rfl
theorem serverCanceled_k26 : ((Rows.serverCanceledRow.lifted ==  Tryz.prog.liftsFinal)) = true := by kernel_rfl
theorem serverCanceled_k27 : (( Tryz.prog.make == some Rows.serverCanceledRow.make)) = true := by kernel_rfl
theorem serverCanceled_k28 : ((Rows.serverCanceledRow.kinds == (if Rows.serverCanceledRow.domain.isEmpty then [] else Tryz.f6.params.toList.map fun t => match  Tryz.prog.underlying t with | some (.int k) => some k | _ => none))) = true := by kernel_rfl
theorem serverCanceled_k29 : ((Rows.serverCanceledRow.pinned == Rows.serverCanceledRow.pinnedBy)) = true := by kernel_rfl
theorem serverCanceled_k30 : ((Rows.serverCanceledRow.veiled == (Tryz.f6.params.toList ++ Rows.serverCanceledSpec.plain.varTypes Tryz.prog ++ Tryz.f6.resultTypes.toList).any ( Tryz.prog.veiledRec ·))) = true := by kernel_rfl
theorem serverCanceled_k31 : (Rows.serverCanceledRow.veiledFits Tryz.prog Tryz.f6.params.toList (Tryz.f6.params.toList ++ Rows.serverCanceledSpec.plain.varTypes Tryz.prog ++ Tryz.f6.resultTypes.toList)) = true := by kernel_rfl
theorem serverCanceled_wf : Rows.serverCanceledRow.wfByText (OpenSpec.ofChange Rows.serverCanceledSpec) = true := by kernel_rfl
theorem serverCanceled_main : Tryz.prog.mainIs = some (true, "729a8ad344ef6c4278a65bb82510be7e011468e0cf499205aa97fd91cf172cb1".toList) := by kernel_rfl
theorem serverCanceled_fn : Tryz.prog.funcNamed "glossator/glossatorkeep1.ServerCanceled" = some 6 := by kernel_rfl
theorem serverCanceled_goes : false = Rows.serverCanceledRow.goesBy Tryz.prog := by kernel_rfl
theorem serverCanceled_stand : ([50, 3].all fun u => !Tryz.prog.wantsStandIn u) = true := by kernel_rfl
theorem serverCanceled_looks : true = Tryz.prog.looks [] := by kernel_rfl
end Go.Proofs.YtfhoaocedkkjbaaGreatDoor
end

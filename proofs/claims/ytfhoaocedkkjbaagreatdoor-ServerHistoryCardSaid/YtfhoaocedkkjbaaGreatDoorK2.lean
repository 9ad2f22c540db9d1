/- RowShK2 -/
import Derived.Test.YtfhoaocedkkjbaaGreatDoorCards
import Derived.JoinedOf
import Derived.KernelRfl
import Derived.ProofKit
set_option linter.all false

section
set_option maxRecDepth 100000
namespace Go.Proofs.YtfhoaocedkkjbaaGreatDoor
open Go Go.ChangeShapes Go.WideShapes Go.ChangeAt Go.RowKit
theorem serverHistory_k14 : ((Rows.serverHistoryRow.ifaces == (Tryz.f7.params.toList ++ Rows.serverHistorySpec.plain.varTypes Tryz.prog).any ( Tryz.prog.ifacesRec ·))) = true := by kernel_rfl
theorem serverHistory_k15 : ((Rows.serverHistoryRow.mapsOut ==  Tryz.prog.mapsAmong Tryz.f7.resultTypes.toList)) = true := by kernel_rfl
theorem serverHistory_k16 : ((Rows.serverHistoryRow.loops == (Tryz.f7.params.toList ++ Rows.serverHistorySpec.plain.varTypes Tryz.prog).any ( Tryz.prog.loopsFrom ·))) = true := by kernel_rfl
theorem serverHistory_k17 : ((Rows.serverHistoryRow.wideKeys == (Tryz.f7.params.toList ++ Rows.serverHistorySpec.plain.varTypes Tryz.prog ++ Tryz.f7.resultTypes.toList).any ( Tryz.prog.wideKeysFrom ·))) = true := by kernel_rfl
theorem serverHistory_k18 : (Rows.serverHistorySpec.vars.all ( Tryz.prog.varReadable ·)) = true := by kernel_rfl
theorem serverHistory_k19 : (Tryz.f7.resultTypes.all (fun t =>  Tryz.prog.readableRec t && decide (t <  Tryz.prog.types.size))) = true := by kernel_rfl
theorem serverHistory_k20 : ((Rows.serverHistoryRow.ifacesOut == Tryz.f7.resultTypes.toList.any ( Tryz.prog.ifacesRec ·))) = true := by kernel_rfl
theorem serverHistory_k21 : ((Rows.serverHistoryRow.loopsOut == Tryz.f7.resultTypes.toList.any ( Tryz.prog.loopsFrom ·))) = true := by kernel_rfl
theorem serverHistory_k22 : ((Rows.serverHistoryRow.plainKeys ==  Tryz.prog.plainKeys)) = true := by kernel_rfl
theorem serverHistory_k23 : (Rows.serverHistoryRow.shortTexts.isNone) = true := by kernel_rfl
theorem serverHistory_k24 : (Tryz.prog.stopsHeard) = true := by kernel_rfl
theorem serverHistory_k25 : (Tryz.prog.mayEnter) = true := by kernel_rfl
theorem serverHistory_k26 : ((Rows.serverHistoryRow.lifted ==  Tryz.prog.liftsFinal)) = true := by kernel_rfl
theorem serverHistory_k27 : (( Tryz.prog.make == some Rows.serverHistoryRow.make)) = true := by kernel_rfl
theorem serverHistory_k28 : ((Rows.serverHistoryRow.kinds == (if Rows.serverHistoryRow.domain.isEmpty then [] else Tryz.f7.params.toList.map fun t => match  Tryz.prog.underlying t with | some (.int k) => some k | _ => none))) = true := by kernel_rfl
theorem serverHistory_k29 : ((Rows.serverHistoryRow.pinned == Rows.serverHistoryRow.pinnedBy)) = true := by kernel_rfl
theorem serverHistory_k30 : ((Rows.serverHistoryRow.veiled == (Tryz.f7.params.toList ++ Rows.serverHistorySpec.plain.varTypes Tryz.prog ++ Tryz.f7.resultTypes.toList).any ( Tryz.prog.veiledRec ·))) = true := by kernel_rfl
theorem serverHistory_k31 : (Rows.serverHistoryRow.veiledFits Tryz.prog Tryz.f7.params.toList (Tryz.f7.params.toList ++ Rows.serverHistorySpec.plain.varTypes Tryz.prog ++ Tryz.f7.resultTypes.toList)) = true := by kernel_rfl
theorem serverHistory_wf : Rows.serverHistoryRow.wfByText (OpenSpec.ofChange Rows.serverHistorySpec) = true := by kernel_rfl
theorem serverHistory_main : Tryz.prog.mainIs = some (true, "729a8ad344ef6c4278a65bb82510be7e011468e0cf499205aa97fd91cf172cb1".toList) := by kernel_rfl
theorem serverHistory_fn : Tryz.prog.funcNamed "glossator/glossatorkeep1.ServerHistory" = some 7 := by kernel_rfl
theorem serverHistory_goes : false = Rows.serverHistoryRow.goesBy Tryz.prog := by kernel_rfl
theorem serverHistory_stand : ([50, 33].all fun u => !Tryz.prog.wantsStandIn u) = true := by kernel_rfl
theorem serverHistory_looks : true = Tryz.prog.looks [] := by kernel_rfl
end Go.Proofs.YtfhoaocedkkjbaaGreatDoor
end

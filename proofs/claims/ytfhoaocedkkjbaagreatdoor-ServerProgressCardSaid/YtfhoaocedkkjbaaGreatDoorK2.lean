/- RowSpK2 -/
import Derived.Test.YtfhoaocedkkjbaaGreatDoorCards
import Derived.JoinedOf
import Derived.KernelRfl
import Derived.ProofKit
set_option linter.all false

section
set_option maxRecDepth 100000
namespace Go.Proofs.YtfhoaocedkkjbaaGreatDoor
open Go Go.ChangeShapes Go.WideShapes Go.ChangeAt Go.RowKit
theorem serverProgress_k14 : ((Rows.serverProgressRow.ifaces == (Tryz.f5.params.toList ++ Rows.serverProgressSpec.plain.varTypes Tryz.prog).any ( Tryz.prog.ifacesRec ·))) = true := by kernel_rfl
theorem serverProgress_k15 : ((Rows.serverProgressRow.mapsOut ==  Tryz.prog.mapsAmong Tryz.f5.resultTypes.toList)) = true := by kernel_rfl
theorem serverProgress_k16 : ((Rows.serverProgressRow.loops == (Tryz.f5.params.toList ++ Rows.serverProgressSpec.plain.varTypes Tryz.prog).any ( Tryz.prog.loopsFrom ·))) = true := by kernel_rfl
theorem serverProgress_k17 : ((Rows.serverProgressRow.wideKeys == (Tryz.f5.params.toList ++ Rows.serverProgressSpec.plain.varTypes Tryz.prog ++ Tryz.f5.resultTypes.toList).any ( Tryz.prog.wideKeysFrom ·))) = true := by kernel_rfl
theorem serverProgress_k18 : (Rows.serverProgressSpec.vars.all ( Tryz.prog.varReadable ·)) = true := by kernel_rfl
theorem serverProgress_k19 : (Tryz.f5.resultTypes.all (fun t =>  Tryz.prog.readableRec t && decide (t <  Tryz.prog.types.size))) = true := by kernel_rfl
theorem serverProgress_k20 : ((Rows.serverProgressRow.ifacesOut == Tryz.f5.resultTypes.toList.any ( Tryz.prog.ifacesRec ·))) = true := by kernel_rfl
theorem serverProgress_k21 : ((Rows.serverProgressRow.loopsOut == Tryz.f5.resultTypes.toList.any ( Tryz.prog.loopsFrom ·))) = true := by kernel_rfl
theorem serverProgress_k22 : ((Rows.serverProgressRow.plainKeys ==  Tryz.prog.plainKeys)) = true := by kernel_rfl
theorem serverProgress_k23 : (Rows.serverProgressRow.shortTexts.isNone) = true := by kernel_rfl
theorem serverProgress_k24 : (Tryz.prog.stopsHeard) = true := by kernel_rfl
theorem serverProgress_k25 : (Tryz.prog.mayEnter) = true := by kernel_rfl
theorem serverProgress_k26 : ((Rows.serverProgressRow.lifted ==  Tryz.prog.liftsFinal)) = true := by kernel_rfl
theorem serverProgress_k27 : (( Tryz.prog.make == some Rows.serverProgressRow.make)) = true := by kernel_rfl
theorem serverProgress_k28 : ((Rows.serverProgressRow.kinds == (if Rows.serverProgressRow.domain.isEmpty then [] else Tryz.f5.params.toList.map fun t => match  Tryz.prog.underlying t with | some (.int k) => some k | _ => none))) = true := by kernel_rfl
theorem serverProgress_k29 : ((Rows.serverProgressRow.pinned == Rows.serverProgressRow.pinnedBy)) = true := by kernel_rfl
theorem serverProgress_k30 : ((Rows.serverProgressRow.veiled == (Tryz.f5.params.toList ++ Rows.serverProgressSpec.plain.varTypes Tryz.prog ++ Tryz.f5.resultTypes.toList).any ( Tryz.prog.veiledRec ·))) = true := by kernel_rfl
theorem serverProgress_k31 : (Rows.serverProgressRow.veiledFits Tryz.prog Tryz.f5.params.toList (Tryz.f5.params.toList ++ Rows.serverProgressSpec.plain.varTypes Tryz.prog ++ Tryz.f5.resultTypes.toList)) = true := by kernel_rfl
theorem serverProgress_wf : Rows.serverProgressRow.wfByText (OpenSpec.ofChange Rows.serverProgressSpec) = true := by kernel_rfl
theorem serverProgress_main : Tryz.prog.mainIs = some (true, "729a8ad344ef6c4278a65bb82510be7e011468e0cf499205aa97fd91cf172cb1".toList) := by kernel_rfl
theorem serverProgress_fn : Tryz.prog.funcNamed "glossator/glossatorkeep1.ServerProgress" = some 5 := by kernel_rfl
theorem serverProgress_goes : false = Rows.serverProgressRow.goesBy Tryz.prog := by kernel_rfl
theorem serverProgress_stand : ([50].all fun u => !Tryz.prog.wantsStandIn u) = true := by kernel_rfl
theorem serverProgress_looks : true = Tryz.prog.looks [] := by kernel_rfl
end Go.Proofs.YtfhoaocedkkjbaaGreatDoor
end

/- RowSxK2 -/
import Derived.Test.YtfhoaocedkkjbaaGreatDoorCards
import Derived.JoinedOf
import Derived.KernelRfl
import Derived.ProofKit
set_option linter.all false

section
set_option maxRecDepth 100000
namespace Go.Proofs.YtfhoaocedkkjbaaGreatDoor
open Go Go.ChangeShapes Go.WideShapes Go.ChangeAt Go.RowKit
theorem serverEvictions_k14 : ((Rows.serverEvictionsRow.ifaces == (Tryz.f4.params.toList ++ Rows.serverEvictionsSpec.plain.varTypes Tryz.prog).any ( Tryz.prog.ifacesRec ·))) = true := by kernel_rfl
theorem serverEvictions_k15 : ((Rows.serverEvictionsRow.mapsOut ==  Tryz.prog.mapsAmong Tryz.f4.resultTypes.toList)) = true := by kernel_rfl
theorem serverEvictions_k16 : ((Rows.serverEvictionsRow.loops == (Tryz.f4.params.toList ++ Rows.serverEvictionsSpec.plain.varTypes Tryz.prog).any ( Tryz.prog.loopsFrom ·))) = true := by kernel_rfl
theorem serverEvictions_k17 : ((Rows.serverEvictionsRow.wideKeys == (Tryz.f4.params.toList ++ Rows.serverEvictionsSpec.plain.varTypes Tryz.prog ++ Tryz.f4.resultTypes.toList).any ( Tryz.prog.wideKeysFrom ·))) = true := by kernel_rfl
theorem serverEvictions_k18 : (Rows.serverEvictionsSpec.vars.all ( Tryz.prog.varReadable ·)) = true := by kernel_rfl
theorem serverEvictions_k19 : (Tryz.f4.resultTypes.all (fun t =>  Tryz.prog.readableRec t && decide (t <  Tryz.prog.types.size))) = true := by kernel_rfl
theorem serverEvictions_k20 : ((Rows.serverEvictionsRow.ifacesOut == Tryz.f4.resultTypes.toList.any ( Tryz.prog.ifacesRec ·))) = true := by kernel_rfl
theorem serverEvictions_k21 : ((Rows.serverEvictionsRow.loopsOut == Tryz.f4.resultTypes.toList.any ( Tryz.prog.loopsFrom ·))) = true := by kernel_rfl
theorem serverEvictions_k22 : ((Rows.serverEvictionsRow.plainKeys ==  Tryz.prog.plainKeys)) = true := by kernel_rfl
theorem serverEvictions_k23 : (Rows.serverEvictionsRow.shortTexts.isNone) = true := by kernel_rfl
theorem serverEvictions_k24 : (Tryz.prog.stopsHeard) = true := by kernel_rfl
theorem serverEvictions_k25 : (Tryz.prog.mayEnter) = true := by kernel_rfl
theorem serverEvictions_k26 : ((Rows.serverEvictionsRow.lifted ==  Tryz.prog.liftsFinal)) = true := by kernel_rfl
theorem serverEvictions_k27 : (( Tryz.prog.make == some Rows.serverEvictionsRow.make)) = true := by kernel_rfl
theorem serverEvictions_k28 : ((Rows.serverEvictionsRow.kinds == (if Rows.serverEvictionsRow.domain.isEmpty then [] else Tryz.f4.params.toList.map fun t => match  Tryz.prog.underlying t with | some (.int k) => some k | _ => none))) = true := by kernel_rfl
theorem serverEvictions_k29 : ((Rows.serverEvictionsRow.pinned == Rows.serverEvictionsRow.pinnedBy)) = true := by kernel_rfl
theorem serverEvictions_k30 : ((Rows.serverEvictionsRow.veiled == (Tryz.f4.params.toList ++ Rows.serverEvictionsSpec.plain.varTypes Tryz.prog ++ Tryz.f4.resultTypes.toList).any ( Tryz.prog.veiledRec ·))) = true := by kernel_rfl
theorem serverEvictions_k31 : (Rows.serverEvictionsRow.veiledFits Tryz.prog Tryz.f4.params.toList (Tryz.f4.params.toList ++ Rows.serverEvictionsSpec.plain.varTypes Tryz.prog ++ Tryz.f4.resultTypes.toList)) = true := by kernel_rfl
theorem serverEvictions_wf : Rows.serverEvictionsRow.wfByText (OpenSpec.ofChange Rows.serverEvictionsSpec) = true := by kernel_rfl
theorem serverEvictions_main : Tryz.prog.mainIs = some (true, "729a8ad344ef6c4278a65bb82510be7e011468e0cf499205aa97fd91cf172cb1".toList) := by kernel_rfl
theorem serverEvictions_fn : Tryz.prog.funcNamed "glossator/glossatorkeep1.ServerEvictions" = some 4 := by kernel_rfl
theorem serverEvictions_goes : false = Rows.serverEvictionsRow.goesBy Tryz.prog := by kernel_rfl
theorem serverEvictions_stand : ([50].all fun u => !Tryz.prog.wantsStandIn u) = true := by kernel_rfl
theorem serverEvictions_looks : true = Tryz.prog.looks [] := by kernel_rfl
end Go.Proofs.YtfhoaocedkkjbaaGreatDoor
end

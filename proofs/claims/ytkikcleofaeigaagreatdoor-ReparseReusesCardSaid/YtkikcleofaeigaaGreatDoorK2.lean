/- RowPuK2 -/
import Derived.Test.YtkikcleofaeigaaGreatDoorCards
import Derived.JoinedOf
import Derived.KernelRfl
import Derived.ProofKit
set_option linter.all false

section
set_option maxRecDepth 100000
namespace Go.Proofs.YtkikcleofaeigaaGreatDoor
open Go Go.ChangeShapes Go.WideShapes Go.ChangeAt Go.RowKit
theorem reparseReuses_k14 : ((Rows.reparseReusesRow.ifaces == (Tryz.f8.params.toList ++ Rows.reparseReusesSpec.plain.varTypes Tryz.prog).any ( Tryz.prog.ifacesRec ·))) = true := by kernel_rfl
theorem reparseReuses_k15 : ((Rows.reparseReusesRow.mapsOut ==  Tryz.prog.mapsAmong Tryz.f8.resultTypes.toList)) = true := by kernel_rfl
theorem reparseReuses_k16 : ((Rows.reparseReusesRow.loops == (Tryz.f8.params.toList ++ Rows.reparseReusesSpec.plain.varTypes Tryz.prog).any ( Tryz.prog.loopsFrom ·))) = true := by kernel_rfl
theorem reparseReuses_k17 : ((Rows.reparseReusesRow.wideKeys == (Tryz.f8.params.toList ++ Rows.reparseReusesSpec.plain.varTypes Tryz.prog ++ Tryz.f8.resultTypes.toList).any ( Tryz.prog.wideKeysFrom ·))) = true := by kernel_rfl
theorem reparseReuses_k18 : (Rows.reparseReusesSpec.vars.all ( Tryz.prog.varReadable ·)) = true := by kernel_rfl
theorem reparseReuses_k19 : (Tryz.f8.resultTypes.all (fun t =>  Tryz.prog.readableRec t && decide (t <  Tryz.prog.types.size))) = true := by kernel_rfl
theorem reparseReuses_k20 : ((Rows.reparseReusesRow.ifacesOut == Tryz.f8.resultTypes.toList.any ( Tryz.prog.ifacesRec ·))) = true := by kernel_rfl
theorem reparseReuses_k21 : ((Rows.reparseReusesRow.loopsOut == Tryz.f8.resultTypes.toList.any ( Tryz.prog.loopsFrom ·))) = true := by kernel_rfl
theorem reparseReuses_k22 : ((Rows.reparseReusesRow.plainKeys ==  Tryz.prog.plainKeys)) = true := by kernel_rfl
theorem reparseReuses_k23 : (Rows.reparseReusesRow.shortTexts.isNone) = true := by kernel_rfl
theorem reparseReuses_k24 : (Tryz.prog.stopsHeard) = true := by kernel_rfl
theorem reparseReuses_k25 : (Tryz.prog.mayEnter) = true := by kernel_rfl
theorem reparseReuses_k26 : ((Rows.reparseReusesRow.lifted ==  Tryz.prog.liftsFinal)) = true := by kernel_rfl
theorem reparseReuses_k27 : (( Tryz.prog.make == some Rows.reparseReusesRow.make)) = true := by kernel_rfl
theorem reparseReuses_k28 : ((Rows.reparseReusesRow.kinds == (if Rows.reparseReusesRow.domain.isEmpty then [] else Tryz.f8.params.toList.map fun t => match  Tryz.prog.underlying t with | some (.int k) => some k | _ => none))) = true := by kernel_rfl
theorem reparseReuses_k29 : ((Rows.reparseReusesRow.pinned == Rows.reparseReusesRow.pinnedBy)) = true := by kernel_rfl
theorem reparseReuses_k30 : ((Rows.reparseReusesRow.veiled == (Tryz.f8.params.toList ++ Rows.reparseReusesSpec.plain.varTypes Tryz.prog ++ Tryz.f8.resultTypes.toList).any ( Tryz.prog.veiledRec ·))) = true := by kernel_rfl
theorem reparseReuses_k31 : (Rows.reparseReusesRow.veiledFits Tryz.prog Tryz.f8.params.toList (Tryz.f8.params.toList ++ Rows.reparseReusesSpec.plain.varTypes Tryz.prog ++ Tryz.f8.resultTypes.toList)) = true := by kernel_rfl
theorem reparseReuses_wf : Rows.reparseReusesRow.wfByText (OpenSpec.ofChange Rows.reparseReusesSpec) = true := by kernel_rfl
theorem reparseReuses_main : Tryz.prog.mainIs = some (true, "c8f19d327cee1bbafca08ac9df62e5928c0894db283297587b4fa0fb96790cb4".toList) := by kernel_rfl
theorem reparseReuses_fn : Tryz.prog.funcNamed "glossator/glossatorkeep1.ReparseReuses" = some 8 := by kernel_rfl
theorem reparseReuses_goes : false = Rows.reparseReusesRow.goesBy Tryz.prog := by kernel_rfl
theorem reparseReuses_stand : ([9, 67].all fun u => !Tryz.prog.wantsStandIn u) = true := by kernel_rfl
theorem reparseReuses_looks : true = Tryz.prog.looks [] := by kernel_rfl
end Go.Proofs.YtkikcleofaeigaaGreatDoor
end

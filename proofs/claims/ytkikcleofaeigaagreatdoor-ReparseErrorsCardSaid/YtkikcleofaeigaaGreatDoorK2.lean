/- RowPeK2 -/
import Derived.Test.YtkikcleofaeigaaGreatDoorCards
import Derived.JoinedOf
import Derived.KernelRfl
import Derived.ProofKit
set_option linter.all false

section
set_option maxRecDepth 100000
namespace Go.Proofs.YtkikcleofaeigaaGreatDoor
open Go Go.ChangeShapes Go.WideShapes Go.ChangeAt Go.RowKit
theorem reparseErrors_k14 : ((Rows.reparseErrorsRow.ifaces == (Tryz.f9.params.toList ++ Rows.reparseErrorsSpec.plain.varTypes Tryz.prog).any ( Tryz.prog.ifacesRec ·))) = true := by kernel_rfl
theorem reparseErrors_k15 : ((Rows.reparseErrorsRow.mapsOut ==  Tryz.prog.mapsAmong Tryz.f9.resultTypes.toList)) = true := by kernel_rfl
theorem reparseErrors_k16 : ((Rows.reparseErrorsRow.loops == (Tryz.f9.params.toList ++ Rows.reparseErrorsSpec.plain.varTypes Tryz.prog).any ( Tryz.prog.loopsFrom ·))) = true := by kernel_rfl
theorem reparseErrors_k17 : ((Rows.reparseErrorsRow.wideKeys == (Tryz.f9.params.toList ++ Rows.reparseErrorsSpec.plain.varTypes Tryz.prog ++ Tryz.f9.resultTypes.toList).any ( Tryz.prog.wideKeysFrom ·))) = true := by kernel_rfl
theorem reparseErrors_k18 : (Rows.reparseErrorsSpec.vars.all ( Tryz.prog.varReadable ·)) = true := by kernel_rfl
theorem reparseErrors_k19 : (Tryz.f9.resultTypes.all (fun t =>  Tryz.prog.readableRec t && decide (t <  Tryz.prog.types.size))) = true := by kernel_rfl
theorem reparseErrors_k20 : ((Rows.reparseErrorsRow.ifacesOut == Tryz.f9.resultTypes.toList.any ( Tryz.prog.ifacesRec ·))) = true := by kernel_rfl
theorem reparseErrors_k21 : ((Rows.reparseErrorsRow.loopsOut == Tryz.f9.resultTypes.toList.any ( Tryz.prog.loopsFrom ·))) = true := by kernel_rfl
theorem reparseErrors_k22 : ((Rows.reparseErrorsRow.plainKeys ==  Tryz.prog.plainKeys)) = true := by kernel_rfl
theorem reparseErrors_k23 : (Rows.reparseErrorsRow.shortTexts.isNone) = true := by kernel_rfl
theorem reparseErrors_k24 : (Tryz.prog.stopsHeard) = true := by kernel_rfl
theorem reparseErrors_k25 : (Tryz.prog.mayEnter) = true := by kernel_rfl
theorem reparseErrors_k26 : ((Rows.reparseErrorsRow.lifted ==  Tryz.prog.liftsFinal)) = true := by kernel_rfl
theorem reparseErrors_k27 : (( Tryz.prog.make == some Rows.reparseErrorsRow.make)) = true := by kernel_rfl
theorem reparseErrors_k28 : ((Rows.reparseErrorsRow.kinds == (if Rows.reparseErrorsRow.domain.isEmpty then [] else Tryz.f9.params.toList.map fun t => match  Tryz.prog.underlying t with | some (.int k) => some k | _ => none))) = true := by kernel_rfl
theorem reparseErrors_k29 : ((Rows.reparseErrorsRow.pinned == Rows.reparseErrorsRow.pinnedBy)) = true := by kernel_rfl
theorem reparseErrors_k30 : ((Rows.reparseErrorsRow.veiled == (Tryz.f9.params.toList ++ Rows.reparseErrorsSpec.plain.varTypes Tryz.prog ++ Tryz.f9.resultTypes.toList).any ( Tryz.prog.veiledRec ·))) = true := by kernel_rfl
theorem reparseErrors_k31 : (Rows.reparseErrorsRow.veiledFits Tryz.prog Tryz.f9.params.toList (Tryz.f9.params.toList ++ Rows.reparseErrorsSpec.plain.varTypes Tryz.prog ++ Tryz.f9.resultTypes.toList)) = true := by kernel_rfl
theorem reparseErrors_wf : Rows.reparseErrorsRow.wfByText (OpenSpec.ofChange Rows.reparseErrorsSpec) = true := by kernel_rfl
theorem reparseErrors_main : Tryz.prog.mainIs = some (true, "c8f19d327cee1bbafca08ac9df62e5928c0894db283297587b4fa0fb96790cb4".toList) := by kernel_rfl
theorem reparseErrors_fn : Tryz.prog.funcNamed "glossator/glossatorkeep1.ReparseErrors" = some 9 := by kernel_rfl
theorem reparseErrors_goes : false = Rows.reparseErrorsRow.goesBy Tryz.prog := by kernel_rfl
theorem reparseErrors_stand : ([9, 9, 67].all fun u => !Tryz.prog.wantsStandIn u) = true := by kernel_rfl
theorem reparseErrors_looks : true = Tryz.prog.looks [] := by kernel_rfl
end Go.Proofs.YtkikcleofaeigaaGreatDoor
end

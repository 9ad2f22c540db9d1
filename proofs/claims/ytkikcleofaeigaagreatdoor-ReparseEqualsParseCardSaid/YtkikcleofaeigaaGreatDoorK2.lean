/- RowPqK2 -/
import Derived.Test.YtkikcleofaeigaaGreatDoorCards
import Derived.JoinedOf
import Derived.KernelRfl
import Derived.ProofKit
set_option linter.all false

section
set_option maxRecDepth 100000
namespace Go.Proofs.YtkikcleofaeigaaGreatDoor
open Go Go.ChangeShapes Go.WideShapes Go.ChangeAt Go.RowKit
theorem reparseEqualsParse_k14 : ((Rows.reparseEqualsParseRow.ifaces == (Tryz.f7.params.toList ++ Rows.reparseEqualsParseSpec.plain.varTypes Tryz.prog).any ( Tryz.prog.ifacesRec ·))) = true := by kernel_rfl
theorem reparseEqualsParse_k15 : ((Rows.reparseEqualsParseRow.mapsOut ==  Tryz.prog.mapsAmong Tryz.f7.resultTypes.toList)) = true := by kernel_rfl
theorem reparseEqualsParse_k16 : ((Rows.reparseEqualsParseRow.loops == (Tryz.f7.params.toList ++ Rows.reparseEqualsParseSpec.plain.varTypes Tryz.prog).any ( Tryz.prog.loopsFrom ·))) = true := by kernel_rfl
theorem reparseEqualsParse_k17 : ((Rows.reparseEqualsParseRow.wideKeys == (Tryz.f7.params.toList ++ Rows.reparseEqualsParseSpec.plain.varTypes Tryz.prog ++ Tryz.f7.resultTypes.toList).any ( Tryz.prog.wideKeysFrom ·))) = true := by kernel_rfl
theorem reparseEqualsParse_k18 : (Rows.reparseEqualsParseSpec.vars.all ( Tryz.prog.varReadable ·)) = true := by kernel_rfl
theorem reparseEqualsParse_k19 : (Tryz.f7.resultTypes.all (fun t =>  Tryz.prog.readableRec t && decide (t <  Tryz.prog.types.size))) = true := by kernel_rfl
theorem reparseEqualsParse_k20 : ((Rows.reparseEqualsParseRow.ifacesOut == Tryz.f7.resultTypes.toList.any ( Tryz.prog.ifacesRec ·))) = true := by kernel_rfl
theorem reparseEqualsParse_k21 : ((Rows.reparseEqualsParseRow.loopsOut == Tryz.f7.resultTypes.toList.any ( Tryz.prog.loopsFrom ·))) = true := by kernel_rfl
theorem reparseEqualsParse_k22 : ((Rows.reparseEqualsParseRow.plainKeys ==  Tryz.prog.plainKeys)) = true := by kernel_rfl
theorem reparseEqualsParse_k23 : (Rows.reparseEqualsParseRow.shortTexts.isNone) = true := by kernel_rfl
theorem reparseEqualsParse_k24 : (Tryz.prog.stopsHeard) = true := by kernel_rfl
theorem reparseEqualsParse_k25 : (Tryz.prog.mayEnter) = true := by kernel_rfl
theorem reparseEqualsParse_k26 : ((Rows.reparseEqualsParseRow.lifted ==  Tryz.prog.liftsFinal)) = true := by kernel_rfl
theorem reparseEqualsParse_k27 : (( Tryz.prog.make == some Rows.reparseEqualsParseRow.make)) = true := by kernel_rfl
theorem reparseEqualsParse_k28 : ((Rows.reparseEqualsParseRow.kinds == (if Rows.reparseEqualsParseRow.domain.isEmpty then [] else Tryz.f7.params.toList.map fun t => match  Tryz.prog.underlying t with | some (.int k) => some k | _ => none))) = true := by kernel_rfl
theorem reparseEqualsParse_k29 : ((Rows.reparseEqualsParseRow.pinned == Rows.reparseEqualsParseRow.pinnedBy)) = true := by kernel_rfl
theorem reparseEqualsParse_k30 : ((Rows.reparseEqualsParseRow.veiled == (Tryz.f7.params.toList ++ Rows.reparseEqualsParseSpec.plain.varTypes Tryz.prog ++ Tryz.f7.resultTypes.toList).any ( Tryz.prog.veiledRec ·))) = true := by kernel_rfl
theorem reparseEqualsParse_k31 : (Rows.reparseEqualsParseRow.veiledFits Tryz.prog Tryz.f7.params.toList (Tryz.f7.params.toList ++ Rows.reparseEqualsParseSpec.plain.varTypes Tryz.prog ++ Tryz.f7.resultTypes.toList)) = true := by kernel_rfl
theorem reparseEqualsParse_wf : Rows.reparseEqualsParseRow.wfByText (OpenSpec.ofChange Rows.reparseEqualsParseSpec) = true := by kernel_rfl
theorem reparseEqualsParse_main : Tryz.prog.mainIs = some (true, "c8f19d327cee1bbafca08ac9df62e5928c0894db283297587b4fa0fb96790cb4".toList) := by kernel_rfl
theorem reparseEqualsParse_fn : Tryz.prog.funcNamed "glossator/glossatorkeep1.ReparseEqualsParse" = some 7 := by kernel_rfl
theorem reparseEqualsParse_goes : false = Rows.reparseEqualsParseRow.goesBy Tryz.prog := by kernel_rfl
theorem reparseEqualsParse_stand : ([9, 22].all fun u => !Tryz.prog.wantsStandIn u) = true := by kernel_rfl
theorem reparseEqualsParse_looks : true = Tryz.prog.looks [] := by kernel_rfl
end Go.Proofs.YtkikcleofaeigaaGreatDoor
end

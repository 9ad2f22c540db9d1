/- RowLoK2 -/
import Derived.Test.YtkikcleofaeigaaGreatDoorCards
import Derived.JoinedOf
import Derived.KernelRfl
import Derived.ProofKit

section
/- What the row of ParserLossless asks of the program's text: evaluated in the kernel. -/
set_option linter.all false
set_option maxRecDepth 100000
namespace Go.Proofs.YtkikcleofaeigaaGreatDoor
open Go Go.ChangeShapes Go.WideShapes Go.ChangeAt Go.RowKit
theorem parserLossless_k14 : ((Rows.parserLosslessRow.ifaces == (Tryz.f10.params.toList ++ Rows.parserLosslessSpec.plain.varTypes Tryz.prog).any ( Tryz.prog.ifacesRec ·))) = true := by kernel_rfl
theorem parserLossless_k15 : ((Rows.parserLosslessRow.mapsOut ==  Tryz.prog.mapsAmong Tryz.f10.resultTypes.toList)) = true := by kernel_rfl
theorem parserLossless_k16 : ((Rows.parserLosslessRow.loops == (Tryz.f10.params.toList ++ Rows.parserLosslessSpec.plain.varTypes Tryz.prog).any ( Tryz.prog.loopsFrom ·))) = true := by kernel_rfl
theorem parserLossless_k17 : ((Rows.parserLosslessRow.wideKeys == (Tryz.f10.params.toList ++ Rows.parserLosslessSpec.plain.varTypes Tryz.prog ++ Tryz.f10.resultTypes.toList).any ( Tryz.prog.wideKeysFrom ·))) = true := by kernel_rfl
theorem parserLossless_k18 : (Rows.parserLosslessSpec.vars.all ( Tryz.prog.varReadable ·)) = true := by kernel_rfl
theorem parserLossless_k19 : (Tryz.f10.resultTypes.all (fun t =>  Tryz.prog.readableRec t && decide (t <  Tryz.prog.types.size))) = true := by kernel_rfl
theorem parserLossless_k20 : ((Rows.parserLosslessRow.ifacesOut == Tryz.f10.resultTypes.toList.any ( Tryz.prog.ifacesRec ·))) = true := by kernel_rfl
theorem parserLossless_k21 : ((Rows.parserLosslessRow.loopsOut == Tryz.f10.resultTypes.toList.any ( Tryz.prog.loopsFrom ·))) = true := by kernel_rfl
theorem parserLossless_k22 : ((Rows.parserLosslessRow.plainKeys ==  Tryz.prog.plainKeys)) = true := by kernel_rfl
theorem parserLossless_k23 : (Rows.parserLosslessRow.shortTexts.isNone) = true := by kernel_rfl
theorem parserLossless_k24 : (Tryz.prog.stopsHeard) = true := by kernel_rfl
theorem parserLossless_k25 : (Tryz.prog.mayEnter) = true := by kernel_rfl
theorem parserLossless_k26 : ((Rows.parserLosslessRow.lifted ==  Tryz.prog.liftsFinal)) = true := by kernel_rfl
theorem parserLossless_k27 : (( Tryz.prog.make == some Rows.parserLosslessRow.make)) = true := by kernel_rfl
theorem parserLossless_k28 : ((Rows.parserLosslessRow.kinds == (if Rows.parserLosslessRow.domain.isEmpty then [] else Tryz.f10.params.toList.map fun t => match  Tryz.prog.underlying t with | some (.int k) => some k | _ => none))) = true := by kernel_rfl
theorem parserLossless_k29 : ((Rows.parserLosslessRow.pinned == Rows.parserLosslessRow.pinnedBy)) = true := by kernel_rfl
theorem parserLossless_k30 : ((Rows.parserLosslessRow.veiled == (Tryz.f10.params.toList ++ Rows.parserLosslessSpec.plain.varTypes Tryz.prog ++ Tryz.f10.resultTypes.toList).any ( Tryz.prog.veiledRec ·))) = true := by kernel_rfl
theorem parserLossless_k31 : (Rows.parserLosslessRow.veiledFits Tryz.prog Tryz.f10.params.toList (Tryz.f10.params.toList ++ Rows.parserLosslessSpec.plain.varTypes Tryz.prog ++ Tryz.f10.resultTypes.toList)) = true := by kernel_rfl
theorem parserLossless_wf : Rows.parserLosslessRow.wfByText (OpenSpec.ofChange Rows.parserLosslessSpec) = true := by kernel_rfl
theorem parserLossless_main : Tryz.prog.mainIs = some (true, "c8f19d327cee1bbafca08ac9df62e5928c0894db283297587b4fa0fb96790cb4".toList) := by kernel_rfl
theorem parserLossless_fn : Tryz.prog.funcNamed "glossator/glossatorkeep1.ParserLossless" = some 10 := by kernel_rfl
theorem parserLossless_goes : false = Rows.parserLosslessRow.goesBy Tryz.prog := by kernel_rfl
theorem parserLossless_stand : ([9].all fun u => !Tryz.prog.wantsStandIn u) = true := by kernel_rfl
theorem parserLossless_looks : true = Tryz.prog.looks [] := by kernel_rfl
end Go.Proofs.YtkikcleofaeigaaGreatDoor
end

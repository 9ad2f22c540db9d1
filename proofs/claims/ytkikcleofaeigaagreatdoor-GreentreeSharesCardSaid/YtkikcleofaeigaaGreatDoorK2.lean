/- RowGsK2 -/
import Derived.Test.YtkikcleofaeigaaGreatDoorCards
import Derived.JoinedOf
import Derived.KernelRfl
import Derived.ProofKit
set_option linter.all false

section
set_option maxRecDepth 100000
namespace Go.Proofs.YtkikcleofaeigaaGreatDoor
open Go Go.ChangeShapes Go.WideShapes Go.ChangeAt Go.RowKit
theorem greentreeShares_k14 : ((Rows.greentreeSharesRow.ifaces == (Tryz.f6.params.toList ++ Rows.greentreeSharesSpec.plain.varTypes Tryz.prog).any ( Tryz.prog.ifacesRec ·))) = true := by kernel_rfl
theorem greentreeShares_k15 : ((Rows.greentreeSharesRow.mapsOut ==  Tryz.prog.mapsAmong Tryz.f6.resultTypes.toList)) = true := by kernel_rfl
theorem greentreeShares_k16 : ((Rows.greentreeSharesRow.loops == (Tryz.f6.params.toList ++ Rows.greentreeSharesSpec.plain.varTypes Tryz.prog).any ( Tryz.prog.loopsFrom ·))) = true := by kernel_rfl
theorem greentreeShares_k17 : ((Rows.greentreeSharesRow.wideKeys == (Tryz.f6.params.toList ++ Rows.greentreeSharesSpec.plain.varTypes Tryz.prog ++ Tryz.f6.resultTypes.toList).any ( Tryz.prog.wideKeysFrom ·))) = true := by kernel_rfl
theorem greentreeShares_k18 : (Rows.greentreeSharesSpec.vars.all ( Tryz.prog.varReadable ·)) = true := by kernel_rfl
theorem greentreeShares_k19 : (Tryz.f6.resultTypes.all (fun t =>  Tryz.prog.readableRec t && decide (t <  Tryz.prog.types.size))) = true := by kernel_rfl
theorem greentreeShares_k20 : ((Rows.greentreeSharesRow.ifacesOut == Tryz.f6.resultTypes.toList.any ( Tryz.prog.ifacesRec ·))) = true := by kernel_rfl
theorem greentreeShares_k21 : ((Rows.greentreeSharesRow.loopsOut == Tryz.f6.resultTypes.toList.any ( Tryz.prog.loopsFrom ·))) = true := by kernel_rfl
theorem greentreeShares_k22 : ((Rows.greentreeSharesRow.plainKeys ==  Tryz.prog.plainKeys)) = true := by kernel_rfl
theorem greentreeShares_k23 : (Rows.greentreeSharesRow.shortTexts.isNone) = true := by kernel_rfl
theorem greentreeShares_k24 : (Tryz.prog.stopsHeard) = true := by kernel_rfl
theorem greentreeShares_k25 : (Tryz.prog.mayEnter) = true := by kernel_rfl
theorem greentreeShares_k26 : ((Rows.greentreeSharesRow.lifted ==  Tryz.prog.liftsFinal)) = true := by kernel_rfl
theorem greentreeShares_k27 : (( Tryz.prog.make == some Rows.greentreeSharesRow.make)) = true := by kernel_rfl
theorem greentreeShares_k28 : ((Rows.greentreeSharesRow.kinds == (if Rows.greentreeSharesRow.domain.isEmpty then [] else Tryz.f6.params.toList.map fun t => match  Tryz.prog.underlying t with | some (.int k) => some k | _ => none))) = true := by kernel_rfl
theorem greentreeShares_k29 : ((Rows.greentreeSharesRow.pinned == Rows.greentreeSharesRow.pinnedBy)) = true := by kernel_rfl
theorem greentreeShares_k30 : ((Rows.greentreeSharesRow.veiled == (Tryz.f6.params.toList ++ Rows.greentreeSharesSpec.plain.varTypes Tryz.prog ++ Tryz.f6.resultTypes.toList).any ( Tryz.prog.veiledRec ·))) = true := by kernel_rfl
theorem greentreeShares_k31 : (Rows.greentreeSharesRow.veiledFits Tryz.prog Tryz.f6.params.toList (Tryz.f6.params.toList ++ Rows.greentreeSharesSpec.plain.varTypes Tryz.prog ++ Tryz.f6.resultTypes.toList)) = true := by kernel_rfl
theorem greentreeShares_wf : Rows.greentreeSharesRow.wfByText (OpenSpec.ofChange Rows.greentreeSharesSpec) = true := by kernel_rfl
theorem greentreeShares_main : Tryz.prog.mainIs = some (true, "c8f19d327cee1bbafca08ac9df62e5928c0894db283297587b4fa0fb96790cb4".toList) := by kernel_rfl
theorem greentreeShares_fn : Tryz.prog.funcNamed "glossator/glossatorkeep1.GreentreeShares" = some 6 := by kernel_rfl
theorem greentreeShares_goes : false = Rows.greentreeSharesRow.goesBy Tryz.prog := by kernel_rfl
theorem greentreeShares_stand : ([9, 67].all fun u => !Tryz.prog.wantsStandIn u) = true := by kernel_rfl
theorem greentreeShares_looks : true = Tryz.prog.looks [] := by kernel_rfl
end Go.Proofs.YtkikcleofaeigaaGreatDoor
end

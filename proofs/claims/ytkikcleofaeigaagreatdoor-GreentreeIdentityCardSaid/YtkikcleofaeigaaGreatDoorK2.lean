/- RowGiK2 -/
import Derived.Test.YtkikcleofaeigaaGreatDoorCards
import Derived.JoinedOf
import Derived.KernelRfl
import Derived.ProofKit
set_option linter.all false

section
set_option maxRecDepth 100000
namespace Go.Proofs.YtkikcleofaeigaaGreatDoor
open Go Go.ChangeShapes Go.WideShapes Go.ChangeAt Go.RowKit
theorem greentreeIdentity_k14 : ((Rows.greentreeIdentityRow.ifaces == (Tryz.f5.params.toList ++ Rows.greentreeIdentitySpec.plain.varTypes Tryz.prog).any ( Tryz.prog.ifacesRec ·))) = true := by kernel_rfl
theorem greentreeIdentity_k15 : ((Rows.greentreeIdentityRow.mapsOut ==  Tryz.prog.mapsAmong Tryz.f5.resultTypes.toList)) = true := by kernel_rfl
theorem greentreeIdentity_k16 : ((Rows.greentreeIdentityRow.loops == (Tryz.f5.params.toList ++ Rows.greentreeIdentitySpec.plain.varTypes Tryz.prog).any ( Tryz.prog.loopsFrom ·))) = true := by kernel_rfl
theorem greentreeIdentity_k17 : ((Rows.greentreeIdentityRow.wideKeys == (Tryz.f5.params.toList ++ Rows.greentreeIdentitySpec.plain.varTypes Tryz.prog ++ Tryz.f5.resultTypes.toList).any ( Tryz.prog.wideKeysFrom ·))) = true := by kernel_rfl
theorem greentreeIdentity_k18 : (Rows.greentreeIdentitySpec.vars.all ( Tryz.prog.varReadable ·)) = true := by kernel_rfl
theorem greentreeIdentity_k19 : (Tryz.f5.resultTypes.all (fun t =>  Tryz.prog.readableRec t && decide (t <  Tryz.prog.types.size))) = true := by kernel_rfl
theorem greentreeIdentity_k20 : ((Rows.greentreeIdentityRow.ifacesOut == Tryz.f5.resultTypes.toList.any ( Tryz.prog.ifacesRec ·))) = true := by kernel_rfl
theorem greentreeIdentity_k21 : ((Rows.greentreeIdentityRow.loopsOut == Tryz.f5.resultTypes.toList.any ( Tryz.prog.loopsFrom ·))) = true := by kernel_rfl
theorem greentreeIdentity_k22 : ((Rows.greentreeIdentityRow.plainKeys ==  Tryz.prog.plainKeys)) = true := by kernel_rfl
theorem greentreeIdentity_k23 : (Rows.greentreeIdentityRow.shortTexts.isNone) = true := by kernel_rfl
theorem greentreeIdentity_k24 : (Tryz.prog.stopsHeard) = true := by kernel_rfl
theorem greentreeIdentity_k25 : (Tryz.prog.mayEnter) = true := by kernel_rfl
theorem greentreeIdentity_k26 : ((Rows.greentreeIdentityRow.lifted ==  Tryz.prog.liftsFinal)) = true := by kernel_rfl
theorem greentreeIdentity_k27 : (( Tryz.prog.make == some Rows.greentreeIdentityRow.make)) = true := by kernel_rfl
theorem greentreeIdentity_k28 : ((Rows.greentreeIdentityRow.kinds == (if Rows.greentreeIdentityRow.domain.isEmpty then [] else Tryz.f5.params.toList.map fun t => match  Tryz.prog.underlying t with | some (.int k) => some k | _ => none))) = true := by kernel_rfl
theorem greentreeIdentity_k29 : ((Rows.greentreeIdentityRow.pinned == Rows.greentreeIdentityRow.pinnedBy)) = true := by kernel_rfl
theorem greentreeIdentity_k30 : ((Rows.greentreeIdentityRow.veiled == (Tryz.f5.params.toList ++ Rows.greentreeIdentitySpec.plain.varTypes Tryz.prog ++ Tryz.f5.resultTypes.toList).any ( Tryz.prog.veiledRec ·))) = true := by kernel_rfl
theorem greentreeIdentity_k31 : (Rows.greentreeIdentityRow.veiledFits Tryz.prog Tryz.f5.params.toList (Tryz.f5.params.toList ++ Rows.greentreeIdentitySpec.plain.varTypes Tryz.prog ++ Tryz.f5.resultTypes.toList)) = true := by kernel_rfl
theorem greentreeIdentity_wf : Rows.greentreeIdentityRow.wfByText (OpenSpec.ofChange Rows.greentreeIdentitySpec) = true := by kernel_rfl
theorem greentreeIdentity_main : Tryz.prog.mainIs = some (true, "c8f19d327cee1bbafca08ac9df62e5928c0894db283297587b4fa0fb96790cb4".toList) := by kernel_rfl
theorem greentreeIdentity_fn : Tryz.prog.funcNamed "glossator/glossatorkeep1.GreentreeIdentity" = some 5 := by kernel_rfl
theorem greentreeIdentity_goes : false = Rows.greentreeIdentityRow.goesBy Tryz.prog := by kernel_rfl
theorem greentreeIdentity_stand : ([9, 9].all fun u => !Tryz.prog.wantsStandIn u) = true := by kernel_rfl
theorem greentreeIdentity_looks : true = Tryz.prog.looks [] := by kernel_rfl
end Go.Proofs.YtkikcleofaeigaaGreatDoor
end

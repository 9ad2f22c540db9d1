/- RowPaK2 -/
import Derived.Test.YtnhnmigafkodfaaGreatDoorCards
import Derived.JoinedOf
import Derived.KernelRfl
import Derived.ProofKit
set_option linter.all false
set_option maxRecDepth 100000

section
namespace Go.Proofs.YtnhnmigafkodfaaGreatDoor
open Go Go.ChangeShapes Go.WideShapes Go.ChangeAt Go.RowKit
theorem astPath_k14:((Rows.astPathRow.ifaces==(Tryz.f11.params.toList++Rows.astPathSpec.plain.varTypes Tryz.prog).any ( Tryz.prog.ifacesRec ·)))=true:=by kernel_rfl
theorem astPath_k15:((Rows.astPathRow.mapsOut== Tryz.prog.mapsAmong Tryz.f11.resultTypes.toList))=true:=by kernel_rfl
theorem astPath_k16:((Rows.astPathRow.loops==(Tryz.f11.params.toList++Rows.astPathSpec.plain.varTypes Tryz.prog).any ( Tryz.prog.loopsFrom ·)))=true:=by kernel_rfl
theorem astPath_k17:((Rows.astPathRow.wideKeys==(Tryz.f11.params.toList++Rows.astPathSpec.plain.varTypes Tryz.prog++Tryz.f11.resultTypes.toList).any ( Tryz.prog.wideKeysFrom ·)))=true:=by kernel_rfl
theorem astPath_k18:(Rows.astPathSpec.vars.all ( Tryz.prog.varReadable ·))=true:=by kernel_rfl
theorem astPath_k19:(Tryz.f11.resultTypes.all (fun t=> Tryz.prog.readableRec t&&decide (t< Tryz.prog.types.size)))=true:=by kernel_rfl
theorem astPath_k20:((Rows.astPathRow.ifacesOut==Tryz.f11.resultTypes.toList.any ( Tryz.prog.ifacesRec ·)))=true:=by kernel_rfl
theorem astPath_k21:((Rows.astPathRow.loopsOut==Tryz.f11.resultTypes.toList.any ( Tryz.prog.loopsFrom ·)))=true:=by kernel_rfl
theorem astPath_k22:((Rows.astPathRow.plainKeys== Tryz.prog.plainKeys))=true:=by kernel_rfl
theorem astPath_k23:(Rows.astPathRow.shortTexts.isNone)=true:=by kernel_rfl
theorem astPath_k24:(Tryz.prog.stopsHeard)=true:=by kernel_rfl
theorem astPath_k25:(Tryz.prog.mayEnter)=true:=by kernel_rfl
theorem astPath_k26:((Rows.astPathRow.lifted== Tryz.prog.liftsFinal))=true:=by kernel_rfl
theorem astPath_k27:(( Tryz.prog.make==some Rows.astPathRow.make))=true:=by kernel_rfl
theorem astPath_k28:((Rows.astPathRow.kinds==(if Rows.astPathRow.domain.isEmpty then[] else Tryz.f11.params.toList.map fun t=>match  Tryz.prog.underlying t with|some (.int k)=>some k|_=>none)))=true:=by kernel_rfl
theorem astPath_k29:((Rows.astPathRow.pinned==Rows.astPathRow.pinnedBy))=true:=by kernel_rfl
theorem astPath_k30:((Rows.astPathRow.veiled==(Tryz.f11.params.toList++Rows.astPathSpec.plain.varTypes Tryz.prog++Tryz.f11.resultTypes.toList).any ( Tryz.prog.veiledRec ·)))=true:=by kernel_rfl
theorem astPath_k31:(Rows.astPathRow.veiledFits Tryz.prog Tryz.f11.params.toList (Tryz.f11.params.toList++Rows.astPathSpec.plain.varTypes Tryz.prog++Tryz.f11.resultTypes.toList))=true:=by kernel_rfl
theorem astPath_wf:Rows.astPathRow.wfByText (OpenSpec.ofChange Rows.astPathSpec)=true:=by kernel_rfl
theorem astPath_main : Tryz.prog.mainIs = some (true, "f99df0617b2f8764300c23f546f3782f200df4cd57ea9d5c64db95e0edba40b5".toList) := by kernel_rfl
theorem astPath_fn : Tryz.prog.funcNamed "glossator/glossatorkeep1.AstPath" = some 11 := by kernel_rfl
theorem astPath_goes:false=Rows.astPathRow.goesBy Tryz.prog:=by kernel_rfl
theorem astPath_stand:([9,3].all fun u=>!Tryz.prog.wantsStandIn u)=true:=by kernel_rfl
theorem astPath_looks:true=Tryz.prog.looks []:=by kernel_rfl
end Go.Proofs.YtnhnmigafkodfaaGreatDoor
end

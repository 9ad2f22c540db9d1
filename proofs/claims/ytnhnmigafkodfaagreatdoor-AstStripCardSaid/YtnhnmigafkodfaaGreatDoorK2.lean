/- RowSpK2 -/
import Derived.Test.YtnhnmigafkodfaaGreatDoorCards
import Derived.JoinedOf
import Derived.KernelRfl
import Derived.ProofKit
set_option linter.all false
set_option maxRecDepth 100000

section
namespace Go.Proofs.YtnhnmigafkodfaaGreatDoor
open Go Go.ChangeShapes Go.WideShapes Go.ChangeAt Go.RowKit
theorem astStrip_k14:((Rows.astStripRow.ifaces==(Tryz.f10.params.toList++Rows.astStripSpec.plain.varTypes Tryz.prog).any ( Tryz.prog.ifacesRec ·)))=true:=by kernel_rfl
theorem astStrip_k15:((Rows.astStripRow.mapsOut== Tryz.prog.mapsAmong Tryz.f10.resultTypes.toList))=true:=by kernel_rfl
theorem astStrip_k16:((Rows.astStripRow.loops==(Tryz.f10.params.toList++Rows.astStripSpec.plain.varTypes Tryz.prog).any ( Tryz.prog.loopsFrom ·)))=true:=by kernel_rfl
theorem astStrip_k17:((Rows.astStripRow.wideKeys==(Tryz.f10.params.toList++Rows.astStripSpec.plain.varTypes Tryz.prog++Tryz.f10.resultTypes.toList).any ( Tryz.prog.wideKeysFrom ·)))=true:=by kernel_rfl
theorem astStrip_k18:(Rows.astStripSpec.vars.all ( Tryz.prog.varReadable ·))=true:=by kernel_rfl
theorem astStrip_k19:(Tryz.f10.resultTypes.all (fun t=> Tryz.prog.readableRec t&&decide (t< Tryz.prog.types.size)))=true:=by kernel_rfl
theorem astStrip_k20:((Rows.astStripRow.ifacesOut==Tryz.f10.resultTypes.toList.any ( Tryz.prog.ifacesRec ·)))=true:=by kernel_rfl
theorem astStrip_k21:((Rows.astStripRow.loopsOut==Tryz.f10.resultTypes.toList.any ( Tryz.prog.loopsFrom ·)))=true:=by kernel_rfl
theorem astStrip_k22:((Rows.astStripRow.plainKeys== Tryz.prog.plainKeys))=true:=by kernel_rfl
theorem astStrip_k23:(Rows.astStripRow.shortTexts.isNone)=true:=by kernel_rfl
theorem astStrip_k24:(Tryz.prog.stopsHeard)=true:=by kernel_rfl
theorem astStrip_k25:(Tryz.prog.mayEnter)=true:=by kernel_rfl
theorem astStrip_k26:((Rows.astStripRow.lifted== Tryz.prog.liftsFinal))=true:=by kernel_rfl
theorem astStrip_k27:(( Tryz.prog.make==some Rows.astStripRow.make))=true:=by kernel_rfl
theorem astStrip_k28:((Rows.astStripRow.kinds==(if Rows.astStripRow.domain.isEmpty then[] else Tryz.f10.params.toList.map fun t=>match  Tryz.prog.underlying t with|some (.int k)=>some k|_=>none)))=true:=by kernel_rfl
theorem astStrip_k29:((Rows.astStripRow.pinned==Rows.astStripRow.pinnedBy))=true:=by kernel_rfl
theorem astStrip_k30:((Rows.astStripRow.veiled==(Tryz.f10.params.toList++Rows.astStripSpec.plain.varTypes Tryz.prog++Tryz.f10.resultTypes.toList).any ( Tryz.prog.veiledRec ·)))=true:=by kernel_rfl
theorem astStrip_k31:(Rows.astStripRow.veiledFits Tryz.prog Tryz.f10.params.toList (Tryz.f10.params.toList++Rows.astStripSpec.plain.varTypes Tryz.prog++Tryz.f10.resultTypes.toList))=true:=by kernel_rfl
theorem astStrip_wf:Rows.astStripRow.wfByText (OpenSpec.ofChange Rows.astStripSpec)=true:=by kernel_rfl
theorem astStrip_main : Tryz.prog.mainIs = some (true, "f99df0617b2f8764300c23f546f3782f200df4cd57ea9d5c64db95e0edba40b5".toList) := by kernel_rfl
theorem astStrip_fn : Tryz.prog.funcNamed "glossator/glossatorkeep1.AstStrip" = some 10 := by kernel_rfl
theorem astStrip_goes:false=Rows.astStripRow.goesBy Tryz.prog:=by kernel_rfl
theorem astStrip_stand:([27,27].all fun u=>!Tryz.prog.wantsStandIn u)=true:=by kernel_rfl
theorem astStrip_looks:true=Tryz.prog.looks []:=by kernel_rfl
end Go.Proofs.YtnhnmigafkodfaaGreatDoor
end

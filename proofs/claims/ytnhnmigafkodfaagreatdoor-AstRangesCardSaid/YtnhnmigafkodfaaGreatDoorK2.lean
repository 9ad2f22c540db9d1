/- RowRgK2 -/
import Derived.Test.YtnhnmigafkodfaaGreatDoorCards
import Derived.JoinedOf
import Derived.KernelRfl
import Derived.ProofKit
set_option linter.all false
set_option maxRecDepth 100000

section
namespace Go.Proofs.YtnhnmigafkodfaaGreatDoor
open Go Go.ChangeShapes Go.WideShapes Go.ChangeAt Go.RowKit
theorem astRanges_k14:((Rows.astRangesRow.ifaces==(Tryz.f7.params.toList++Rows.astRangesSpec.plain.varTypes Tryz.prog).any ( Tryz.prog.ifacesRec ·)))=true:=by kernel_rfl
theorem astRanges_k15:((Rows.astRangesRow.mapsOut== Tryz.prog.mapsAmong Tryz.f7.resultTypes.toList))=true:=by kernel_rfl
theorem astRanges_k16:((Rows.astRangesRow.loops==(Tryz.f7.params.toList++Rows.astRangesSpec.plain.varTypes Tryz.prog).any ( Tryz.prog.loopsFrom ·)))=true:=by kernel_rfl
theorem astRanges_k17:((Rows.astRangesRow.wideKeys==(Tryz.f7.params.toList++Rows.astRangesSpec.plain.varTypes Tryz.prog++Tryz.f7.resultTypes.toList).any ( Tryz.prog.wideKeysFrom ·)))=true:=by kernel_rfl
theorem astRanges_k18:(Rows.astRangesSpec.vars.all ( Tryz.prog.varReadable ·))=true:=by kernel_rfl
theorem astRanges_k19:(Tryz.f7.resultTypes.all (fun t=> Tryz.prog.readableRec t&&decide (t< Tryz.prog.types.size)))=true:=by kernel_rfl
theorem astRanges_k20:((Rows.astRangesRow.ifacesOut==Tryz.f7.resultTypes.toList.any ( Tryz.prog.ifacesRec ·)))=true:=by kernel_rfl
theorem astRanges_k21:((Rows.astRangesRow.loopsOut==Tryz.f7.resultTypes.toList.any ( Tryz.prog.loopsFrom ·)))=true:=by kernel_rfl
theorem astRanges_k22:((Rows.astRangesRow.plainKeys== Tryz.prog.plainKeys))=true:=by kernel_rfl
theorem astRanges_k23:(Rows.astRangesRow.shortTexts.isNone)=true:=by kernel_rfl
theorem astRanges_k24:(Tryz.prog.stopsHeard)=true:=by kernel_rfl
theorem astRanges_k25:(Tryz.prog.mayEnter)=true:=by kernel_rfl
theorem astRanges_k26:((Rows.astRangesRow.lifted== Tryz.prog.liftsFinal))=true:=by kernel_rfl
theorem astRanges_k27:(( Tryz.prog.make==some Rows.astRangesRow.make))=true:=by kernel_rfl
theorem astRanges_k28:((Rows.astRangesRow.kinds==(if Rows.astRangesRow.domain.isEmpty then[] else Tryz.f7.params.toList.map fun t=>match  Tryz.prog.underlying t with|some (.int k)=>some k|_=>none)))=true:=by kernel_rfl
theorem astRanges_k29:((Rows.astRangesRow.pinned==Rows.astRangesRow.pinnedBy))=true:=by kernel_rfl
theorem astRanges_k30:((Rows.astRangesRow.veiled==(Tryz.f7.params.toList++Rows.astRangesSpec.plain.varTypes Tryz.prog++Tryz.f7.resultTypes.toList).any ( Tryz.prog.veiledRec ·)))=true:=by kernel_rfl
theorem astRanges_k31:(Rows.astRangesRow.veiledFits Tryz.prog Tryz.f7.params.toList (Tryz.f7.params.toList++Rows.astRangesSpec.plain.varTypes Tryz.prog++Tryz.f7.resultTypes.toList))=true:=by kernel_rfl
theorem astRanges_wf:Rows.astRangesRow.wfByText (OpenSpec.ofChange Rows.astRangesSpec)=true:=by kernel_rfl
theorem astRanges_main : Tryz.prog.mainIs = some (true, "f99df0617b2f8764300c23f546f3782f200df4cd57ea9d5c64db95e0edba40b5".toList) := by kernel_rfl
theorem astRanges_fn : Tryz.prog.funcNamed "glossator/glossatorkeep1.AstRanges" = some 7 := by kernel_rfl
theorem astRanges_goes:false=Rows.astRangesRow.goesBy Tryz.prog:=by kernel_rfl
theorem astRanges_stand:([9].all fun u=>!Tryz.prog.wantsStandIn u)=true:=by kernel_rfl
theorem astRanges_looks:true=Tryz.prog.looks []:=by kernel_rfl
end Go.Proofs.YtnhnmigafkodfaaGreatDoor
end

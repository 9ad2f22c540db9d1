/- RowPrK2 -/
import Derived.Test.YtnhnmigafkodfaaGreatDoorCards
import Derived.JoinedOf
import Derived.KernelRfl
import Derived.ProofKit
set_option linter.all false
set_option maxRecDepth 100000

section
namespace Go.Proofs.YtnhnmigafkodfaaGreatDoor
open Go Go.ChangeShapes Go.WideShapes Go.ChangeAt Go.RowKit
theorem parserResynchronizes_k14:((Rows.parserResynchronizesRow.ifaces==(Tryz.f3.params.toList++Rows.parserResynchronizesSpec.plain.varTypes Tryz.prog).any ( Tryz.prog.ifacesRec ·)))=true:=by kernel_rfl
theorem parserResynchronizes_k15:((Rows.parserResynchronizesRow.mapsOut== Tryz.prog.mapsAmong Tryz.f3.resultTypes.toList))=true:=by kernel_rfl
theorem parserResynchronizes_k16:((Rows.parserResynchronizesRow.loops==(Tryz.f3.params.toList++Rows.parserResynchronizesSpec.plain.varTypes Tryz.prog).any ( Tryz.prog.loopsFrom ·)))=true:=by kernel_rfl
theorem parserResynchronizes_k17:((Rows.parserResynchronizesRow.wideKeys==(Tryz.f3.params.toList++Rows.parserResynchronizesSpec.plain.varTypes Tryz.prog++Tryz.f3.resultTypes.toList).any ( Tryz.prog.wideKeysFrom ·)))=true:=by kernel_rfl
theorem parserResynchronizes_k18:(Rows.parserResynchronizesSpec.vars.all ( Tryz.prog.varReadable ·))=true:=by kernel_rfl
theorem parserResynchronizes_k19:(Tryz.f3.resultTypes.all (fun t=> Tryz.prog.readableRec t&&decide (t< Tryz.prog.types.size)))=true:=by kernel_rfl
theorem parserResynchronizes_k20:((Rows.parserResynchronizesRow.ifacesOut==Tryz.f3.resultTypes.toList.any ( Tryz.prog.ifacesRec ·)))=true:=by kernel_rfl
theorem parserResynchronizes_k21:((Rows.parserResynchronizesRow.loopsOut==Tryz.f3.resultTypes.toList.any ( Tryz.prog.loopsFrom ·)))=true:=by kernel_rfl
theorem parserResynchronizes_k22:((Rows.parserResynchronizesRow.plainKeys== Tryz.prog.plainKeys))=true:=by kernel_rfl
theorem parserResynchronizes_k23:(Rows.parserResynchronizesRow.shortTexts.isNone)=true:=by kernel_rfl
theorem parserResynchronizes_k24:(Tryz.prog.stopsHeard)=true:=by kernel_rfl
theorem parserResynchronizes_k25:(Tryz.prog.mayEnter)=true:=by kernel_rfl
theorem parserResynchronizes_k26:((Rows.parserResynchronizesRow.lifted== Tryz.prog.liftsFinal))=true:=by kernel_rfl
theorem parserResynchronizes_k27:(( Tryz.prog.make==some Rows.parserResynchronizesRow.make))=true:=by kernel_rfl
theorem parserResynchronizes_k28:((Rows.parserResynchronizesRow.kinds==(if Rows.parserResynchronizesRow.domain.isEmpty then[] else Tryz.f3.params.toList.map fun t=>match  Tryz.prog.underlying t with|some (.int k)=>some k|_=>none)))=true:=by kernel_rfl
theorem parserResynchronizes_k29:((Rows.parserResynchronizesRow.pinned==Rows.parserResynchronizesRow.pinnedBy))=true:=by kernel_rfl
theorem parserResynchronizes_k30:((Rows.parserResynchronizesRow.veiled==(Tryz.f3.params.toList++Rows.parserResynchronizesSpec.plain.varTypes Tryz.prog++Tryz.f3.resultTypes.toList).any ( Tryz.prog.veiledRec ·)))=true:=by kernel_rfl
theorem parserResynchronizes_k31:(Rows.parserResynchronizesRow.veiledFits Tryz.prog Tryz.f3.params.toList (Tryz.f3.params.toList++Rows.parserResynchronizesSpec.plain.varTypes Tryz.prog++Tryz.f3.resultTypes.toList))=true:=by kernel_rfl
theorem parserResynchronizes_wf:Rows.parserResynchronizesRow.wfByText (OpenSpec.ofChange Rows.parserResynchronizesSpec)=true:=by kernel_rfl
theorem parserResynchronizes_main : Tryz.prog.mainIs = some (true, "f99df0617b2f8764300c23f546f3782f200df4cd57ea9d5c64db95e0edba40b5".toList) := by kernel_rfl
theorem parserResynchronizes_fn : Tryz.prog.funcNamed "glossator/glossatorkeep1.ParserResynchronizes" = some 3 := by kernel_rfl
theorem parserResynchronizes_goes:false=Rows.parserResynchronizesRow.goesBy Tryz.prog:=by kernel_rfl
theorem parserResynchronizes_stand:([9,9].all fun u=>!Tryz.prog.wantsStandIn u)=true:=by kernel_rfl
theorem parserResynchronizes_looks:true=Tryz.prog.looks []:=by kernel_rfl
end Go.Proofs.YtnhnmigafkodfaaGreatDoor
end

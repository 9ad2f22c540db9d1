/- RowPpK2 -/
import Derived.Test.YtnhnmigafkodfaaGreatDoorCards
import Derived.JoinedOf
import Derived.KernelRfl
import Derived.ProofKit
set_option linter.all false
set_option maxRecDepth 100000

section
namespace Go.Proofs.YtnhnmigafkodfaaGreatDoor
open Go Go.ChangeShapes Go.WideShapes Go.ChangeAt Go.RowKit
theorem astPrintRoundTripUpto_k14:((Rows.astPrintRoundTripUptoRow.ifaces==(Tryz.f9.params.toList++Rows.astPrintRoundTripSpec.plain.varTypes Tryz.prog).any ( Tryz.prog.ifacesRec ·)))=true:=by kernel_rfl
theorem astPrintRoundTripUpto_k15:((Rows.astPrintRoundTripUptoRow.mapsOut== Tryz.prog.mapsAmong Tryz.f9.resultTypes.toList))=true:=by kernel_rfl
theorem astPrintRoundTripUpto_k16:((Rows.astPrintRoundTripUptoRow.loops==(Tryz.f9.params.toList++Rows.astPrintRoundTripSpec.plain.varTypes Tryz.prog).any ( Tryz.prog.loopsFrom ·)))=true:=by kernel_rfl
theorem astPrintRoundTripUpto_k17:((Rows.astPrintRoundTripUptoRow.wideKeys==(Tryz.f9.params.toList++Rows.astPrintRoundTripSpec.plain.varTypes Tryz.prog++Tryz.f9.resultTypes.toList).any ( Tryz.prog.wideKeysFrom ·)))=true:=by kernel_rfl
theorem astPrintRoundTripUpto_k18:(Rows.astPrintRoundTripSpec.vars.all ( Tryz.prog.varReadable ·))=true:=by kernel_rfl
theorem astPrintRoundTripUpto_k19:(Tryz.f9.resultTypes.all (fun t=> Tryz.prog.readableRec t&&decide (t< Tryz.prog.types.size)))=true:=by kernel_rfl
theorem astPrintRoundTripUpto_k20:((Rows.astPrintRoundTripUptoRow.ifacesOut==Tryz.f9.resultTypes.toList.any ( Tryz.prog.ifacesRec ·)))=true:=by kernel_rfl
theorem astPrintRoundTripUpto_k21:((Rows.astPrintRoundTripUptoRow.loopsOut==Tryz.f9.resultTypes.toList.any ( Tryz.prog.loopsFrom ·)))=true:=by kernel_rfl
theorem astPrintRoundTripUpto_k22:((Rows.astPrintRoundTripUptoRow.plainKeys== Tryz.prog.plainKeys))=true:=by kernel_rfl
theorem astPrintRoundTripUpto_k23:(Rows.astPrintRoundTripUptoRow.shortTexts.isNone)=true:=by kernel_rfl
theorem astPrintRoundTripUpto_k24:(Tryz.prog.stopsHeard)=true:=by kernel_rfl
theorem astPrintRoundTripUpto_k25:(Tryz.prog.mayEnter)=true:=by kernel_rfl
theorem astPrintRoundTripUpto_k26:((Rows.astPrintRoundTripUptoRow.lifted== Tryz.prog.liftsFinal))=true:=by kernel_rfl
theorem astPrintRoundTripUpto_k27:(( Tryz.prog.make==some Rows.astPrintRoundTripUptoRow.make))=true:=by kernel_rfl
theorem astPrintRoundTripUpto_k28:((Rows.astPrintRoundTripUptoRow.kinds==(if Rows.astPrintRoundTripUptoRow.domain.isEmpty then[] else Tryz.f9.params.toList.map fun t=>match  Tryz.prog.underlying t with|some (.int k)=>some k|_=>none)))=true:=by kernel_rfl
theorem astPrintRoundTripUpto_k29:((Rows.astPrintRoundTripUptoRow.pinned==Rows.astPrintRoundTripUptoRow.pinnedBy))=true:=by kernel_rfl
theorem astPrintRoundTripUpto_k30:((Rows.astPrintRoundTripUptoRow.veiled==(Tryz.f9.params.toList++Rows.astPrintRoundTripSpec.plain.varTypes Tryz.prog++Tryz.f9.resultTypes.toList).any ( Tryz.prog.veiledRec ·)))=true:=by kernel_rfl
theorem astPrintRoundTripUpto_k31:(Rows.astPrintRoundTripUptoRow.veiledFits Tryz.prog Tryz.f9.params.toList (Tryz.f9.params.toList++Rows.astPrintRoundTripSpec.plain.varTypes Tryz.prog++Tryz.f9.resultTypes.toList))=true:=by kernel_rfl
theorem astPrintRoundTripUpto_wf:Rows.astPrintRoundTripUptoRow.wfByText (Rows.OpenSpec.upto Rows.astPrintRoundTripSpec)=true:=by kernel_rfl
theorem astPrintRoundTripUpto_main : Tryz.prog.mainIs = some (true, "f99df0617b2f8764300c23f546f3782f200df4cd57ea9d5c64db95e0edba40b5".toList) := by kernel_rfl
theorem astPrintRoundTripUpto_fn : Tryz.prog.funcNamed "glossator/glossatorkeep1.AstPrintRoundTrip" = some 9 := by kernel_rfl
theorem astPrintRoundTripUpto_goes:false=Rows.astPrintRoundTripUptoRow.goesBy Tryz.prog:=by kernel_rfl
theorem astPrintRoundTripUpto_stand:([27].all fun u=>!Tryz.prog.wantsStandIn u)=true:=by kernel_rfl
theorem astPrintRoundTripUpto_looks:true=Tryz.prog.looks []:=by kernel_rfl
end Go.Proofs.YtnhnmigafkodfaaGreatDoor
end

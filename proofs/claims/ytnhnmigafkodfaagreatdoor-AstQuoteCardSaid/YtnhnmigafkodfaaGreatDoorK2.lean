/- RowAqK2 -/
import Derived.Test.YtnhnmigafkodfaaGreatDoorCards
import Derived.JoinedOf
import Derived.KernelRfl
import Derived.ProofKit
set_option linter.all false
set_option maxRecDepth 100000

section
namespace Go.Proofs.YtnhnmigafkodfaaGreatDoor
open Go Go.ChangeShapes Go.WideShapes Go.ChangeAt Go.RowKit
theorem astQuote_k14:((Rows.astQuoteRow.ifaces==(Tryz.f8.params.toList++Rows.astQuoteSpec.plain.varTypes Tryz.prog).any ( Tryz.prog.ifacesRec ·)))=true:=by kernel_rfl
theorem astQuote_k15:((Rows.astQuoteRow.mapsOut== Tryz.prog.mapsAmong Tryz.f8.resultTypes.toList))=true:=by kernel_rfl
theorem astQuote_k16:((Rows.astQuoteRow.loops==(Tryz.f8.params.toList++Rows.astQuoteSpec.plain.varTypes Tryz.prog).any ( Tryz.prog.loopsFrom ·)))=true:=by kernel_rfl
theorem astQuote_k17:((Rows.astQuoteRow.wideKeys==(Tryz.f8.params.toList++Rows.astQuoteSpec.plain.varTypes Tryz.prog++Tryz.f8.resultTypes.toList).any ( Tryz.prog.wideKeysFrom ·)))=true:=by kernel_rfl
theorem astQuote_k18:(Rows.astQuoteSpec.vars.all ( Tryz.prog.varReadable ·))=true:=by kernel_rfl
theorem astQuote_k19:(Tryz.f8.resultTypes.all (fun t=> Tryz.prog.readableRec t&&decide (t< Tryz.prog.types.size)))=true:=by kernel_rfl
theorem astQuote_k20:((Rows.astQuoteRow.ifacesOut==Tryz.f8.resultTypes.toList.any ( Tryz.prog.ifacesRec ·)))=true:=by kernel_rfl
theorem astQuote_k21:((Rows.astQuoteRow.loopsOut==Tryz.f8.resultTypes.toList.any ( Tryz.prog.loopsFrom ·)))=true:=by kernel_rfl
theorem astQuote_k22:((Rows.astQuoteRow.plainKeys== Tryz.prog.plainKeys))=true:=by kernel_rfl
theorem astQuote_k23:(Rows.astQuoteRow.shortTexts.isNone)=true:=by kernel_rfl
theorem astQuote_k24:(Tryz.prog.stopsHeard)=true:=by kernel_rfl
theorem astQuote_k25:(Tryz.prog.mayEnter)=true:=by kernel_rfl
theorem astQuote_k26:((Rows.astQuoteRow.lifted== Tryz.prog.liftsFinal))=true:=by kernel_rfl
theorem astQuote_k27:(( Tryz.prog.make==some Rows.astQuoteRow.make))=true:=by kernel_rfl
theorem astQuote_k28:((Rows.astQuoteRow.kinds==(if Rows.astQuoteRow.domain.isEmpty then[] else Tryz.f8.params.toList.map fun t=>match  Tryz.prog.underlying t with|some (.int k)=>some k|_=>none)))=true:=by kernel_rfl
theorem astQuote_k29:((Rows.astQuoteRow.pinned==Rows.astQuoteRow.pinnedBy))=true:=by kernel_rfl
theorem astQuote_k30:((Rows.astQuoteRow.veiled==(Tryz.f8.params.toList++Rows.astQuoteSpec.plain.varTypes Tryz.prog++Tryz.f8.resultTypes.toList).any ( Tryz.prog.veiledRec ·)))=true:=by kernel_rfl
theorem astQuote_k31:(Rows.astQuoteRow.veiledFits Tryz.prog Tryz.f8.params.toList (Tryz.f8.params.toList++Rows.astQuoteSpec.plain.varTypes Tryz.prog++Tryz.f8.resultTypes.toList))=true:=by kernel_rfl
theorem astQuote_wf:Rows.astQuoteRow.wfByText (OpenSpec.ofChange Rows.astQuoteSpec)=true:=by kernel_rfl
theorem astQuote_main : Tryz.prog.mainIs = some (true, "f99df0617b2f8764300c23f546f3782f200df4cd57ea9d5c64db95e0edba40b5".toList) := by kernel_rfl
theorem astQuote_fn : Tryz.prog.funcNamed "glossator/glossatorkeep1.AstQuote" = some 8 := by kernel_rfl
theorem astQuote_goes:false=Rows.astQuoteRow.goesBy Tryz.prog:=by kernel_rfl
theorem astQuote_stand:([9].all fun u=>!Tryz.prog.wantsStandIn u)=true:=by kernel_rfl
theorem astQuote_looks:true=Tryz.prog.looks []:=by kernel_rfl
end Go.Proofs.YtnhnmigafkodfaaGreatDoor
end

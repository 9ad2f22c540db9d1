/- RowStK2 -/
import Derived.Test.YtndfoijecakkfaaGreatDoorCards
import Derived.JoinedOf
import Derived.KernelRfl
import Derived.ProofKit
set_option linter.all false
set_option maxRecDepth 100000

section
namespace Go.Proofs.YtndfoijecakkfaaGreatDoor
open Go Go.ChangeShapes Go.WideShapes Go.ChangeAt Go.RowKit
theorem sY:((Rows.symbolsTreeRow.ifaces==(Tryz.f5.params.toList++Rows.symbolsTreeSpec.plain.varTypes Tryz.prog).any ( Tryz.prog.ifacesRec ·)))=true:=by kernel_rfl
theorem sZ:((Rows.symbolsTreeRow.mapsOut== Tryz.prog.mapsAmong Tryz.f5.resultTypes.toList))=true:=by kernel_rfl
theorem s_:((Rows.symbolsTreeRow.loops==(Tryz.f5.params.toList++Rows.symbolsTreeSpec.plain.varTypes Tryz.prog).any ( Tryz.prog.loopsFrom ·)))=true:=by kernel_rfl
theorem tb:((Rows.symbolsTreeRow.wideKeys==(Tryz.f5.params.toList++Rows.symbolsTreeSpec.plain.varTypes Tryz.prog++Tryz.f5.resultTypes.toList).any ( Tryz.prog.wideKeysFrom ·)))=true:=by kernel_rfl
theorem tc:(Rows.symbolsTreeSpec.vars.all ( Tryz.prog.varReadable ·))=true:=by kernel_rfl
theorem td:(Tryz.f5.resultTypes.all (fun t=> Tryz.prog.readableRec t&&decide (t< Tryz.prog.types.size)))=true:=by kernel_rfl
theorem te:((Rows.symbolsTreeRow.ifacesOut==Tryz.f5.resultTypes.toList.any ( Tryz.prog.ifacesRec ·)))=true:=by kernel_rfl
theorem tf:((Rows.symbolsTreeRow.loopsOut==Tryz.f5.resultTypes.toList.any ( Tryz.prog.loopsFrom ·)))=true:=by kernel_rfl
theorem tg:((Rows.symbolsTreeRow.plainKeys== Tryz.prog.plainKeys))=true:=by kernel_rfl
theorem th:(Rows.symbolsTreeRow.shortTexts.isNone)=true:=by kernel_rfl
theorem tm:(Tryz.prog.stopsHeard)=true:=by kernel_rfl
theorem tn:(Tryz.prog.mayEnter)=true:=by kernel_rfl
theorem tq:((Rows.symbolsTreeRow.lifted== Tryz.prog.liftsFinal))=true:=by kernel_rfl
theorem tt:(( Tryz.prog.make==some Rows.symbolsTreeRow.make))=true:=by kernel_rfl
theorem tu:((Rows.symbolsTreeRow.kinds==(if Rows.symbolsTreeRow.domain.isEmpty then[] else Tryz.f5.params.toList.map fun t=>match  Tryz.prog.underlying t with|some (.int k)=>some k|_=>none)))=true:=by kernel_rfl
theorem tx:((Rows.symbolsTreeRow.pinned==Rows.symbolsTreeRow.pinnedBy))=true:=by kernel_rfl
theorem tz:((Rows.symbolsTreeRow.veiled==(Tryz.f5.params.toList++Rows.symbolsTreeSpec.plain.varTypes Tryz.prog++Tryz.f5.resultTypes.toList).any ( Tryz.prog.veiledRec ·)))=true:=by kernel_rfl
theorem tD:(Rows.symbolsTreeRow.veiledFits Tryz.prog Tryz.f5.params.toList (Tryz.f5.params.toList++Rows.symbolsTreeSpec.plain.varTypes Tryz.prog++Tryz.f5.resultTypes.toList))=true:=by kernel_rfl
theorem v_:Rows.symbolsTreeRow.wfByText (OpenSpec.ofChange Rows.symbolsTreeSpec)=true:=by kernel_rfl
theorem qT : Tryz.prog.mainIs = some (true, "e55228c8d796d6dcb1324be3f384caca7f3fe620c343af9fb33ab5252cf5aef6".toList) := by kernel_rfl
theorem eY : Tryz.prog.funcNamed "glossator/glossatorkeep1.SymbolsTree" = some 5 := by kernel_rfl
theorem qU:false=Rows.symbolsTreeRow.goesBy Tryz.prog:=by kernel_rfl
theorem pw:([22,3].all fun u=>!Tryz.prog.wantsStandIn u)=true:=by kernel_rfl
theorem pC:true=Tryz.prog.looks []:=by kernel_rfl
end Go.Proofs.YtndfoijecakkfaaGreatDoor
end

/- RowSmK2 -/
import Derived.Test.YtndfoijecakkfaaGreatDoorCards
import Derived.JoinedOf
import Derived.KernelRfl
import Derived.ProofKit
set_option linter.all false
set_option maxRecDepth 100000

section
namespace Go.Proofs.YtndfoijecakkfaaGreatDoor
open Go Go.ChangeShapes Go.WideShapes Go.ChangeAt Go.RowKit
theorem tc:((Rows.symbolsModulesRow.ifaces==(Tryz.f3.params.toList++Rows.symbolsModulesSpec.plain.varTypes Tryz.prog).any ( Tryz.prog.ifacesRec ·)))=true:=by kernel_rfl
theorem td:((Rows.symbolsModulesRow.mapsOut== Tryz.prog.mapsAmong Tryz.f3.resultTypes.toList))=true:=by kernel_rfl
theorem te:((Rows.symbolsModulesRow.loops==(Tryz.f3.params.toList++Rows.symbolsModulesSpec.plain.varTypes Tryz.prog).any ( Tryz.prog.loopsFrom ·)))=true:=by kernel_rfl
theorem tf:((Rows.symbolsModulesRow.wideKeys==(Tryz.f3.params.toList++Rows.symbolsModulesSpec.plain.varTypes Tryz.prog++Tryz.f3.resultTypes.toList).any ( Tryz.prog.wideKeysFrom ·)))=true:=by kernel_rfl
theorem tg:(Rows.symbolsModulesSpec.vars.all ( Tryz.prog.varReadable ·))=true:=by kernel_rfl
theorem th:(Tryz.f3.resultTypes.all (fun t=> Tryz.prog.readableRec t&&decide (t< Tryz.prog.types.size)))=true:=by kernel_rfl
theorem tm:((Rows.symbolsModulesRow.ifacesOut==Tryz.f3.resultTypes.toList.any ( Tryz.prog.ifacesRec ·)))=true:=by kernel_rfl
theorem tn:((Rows.symbolsModulesRow.loopsOut==Tryz.f3.resultTypes.toList.any ( Tryz.prog.loopsFrom ·)))=true:=by kernel_rfl
theorem tq:((Rows.symbolsModulesRow.plainKeys== Tryz.prog.plainKeys))=true:=by kernel_rfl
theorem tt:(Rows.symbolsModulesRow.shortTexts.isNone)=true:=by kernel_rfl
theorem tu:(Tryz.prog.stopsHeard)=true:=by kernel_rfl
theorem tx:(Tryz.prog.mayEnter)=true:=by kernel_rfl
theorem tz:((Rows.symbolsModulesRow.lifted== Tryz.prog.liftsFinal))=true:=by kernel_rfl
theorem tD:(( Tryz.prog.make==some Rows.symbolsModulesRow.make))=true:=by kernel_rfl
theorem tF:((Rows.symbolsModulesRow.kinds==(if Rows.symbolsModulesRow.domain.isEmpty then[] else Tryz.f3.params.toList.map fun t=>match  Tryz.prog.underlying t with|some (.int k)=>some k|_=>none)))=true:=by kernel_rfl
theorem tG:((Rows.symbolsModulesRow.pinned==Rows.symbolsModulesRow.pinnedBy))=true:=by kernel_rfl
theorem tH:((Rows.symbolsModulesRow.veiled==(Tryz.f3.params.toList++Rows.symbolsModulesSpec.plain.varTypes Tryz.prog++Tryz.f3.resultTypes.toList).any ( Tryz.prog.veiledRec ·)))=true:=by kernel_rfl
theorem vO:(Rows.symbolsModulesRow.veiledFits Tryz.prog Tryz.f3.params.toList (Tryz.f3.params.toList++Rows.symbolsModulesSpec.plain.varTypes Tryz.prog++Tryz.f3.resultTypes.toList))=true:=by kernel_rfl
theorem xU:Rows.symbolsModulesRow.wfByText (OpenSpec.ofChange Rows.symbolsModulesSpec)=true:=by kernel_rfl
theorem se : Tryz.prog.mainIs = some (true, "e55228c8d796d6dcb1324be3f384caca7f3fe620c343af9fb33ab5252cf5aef6".toList) := by kernel_rfl
theorem nY : Tryz.prog.funcNamed "glossator/glossatorkeep1.SymbolsModules" = some 3 := by kernel_rfl
theorem sW:false=Rows.symbolsModulesRow.goesBy Tryz.prog:=by kernel_rfl
theorem rJ:([22,9,3].all fun u=>!Tryz.prog.wantsStandIn u)=true:=by kernel_rfl
theorem r_:true=Tryz.prog.looks []:=by kernel_rfl
end Go.Proofs.YtndfoijecakkfaaGreatDoor
end

/- RowSfK2 -/
import Derived.Test.YtndfoijecakkfaaGreatDoorCards
import Derived.JoinedOf
import Derived.KernelRfl
import Derived.ProofKit
set_option linter.all false
set_option maxRecDepth 100000

section
namespace Go.Proofs.YtndfoijecakkfaaGreatDoor
open Go Go.ChangeShapes Go.WideShapes Go.ChangeAt Go.RowKit
theorem s_:((Rows.symbolsFindRow.ifaces==(Tryz.f4.params.toList++Rows.symbolsFindSpec.plain.varTypes Tryz.prog).any ( Tryz.prog.ifacesRec ·)))=true:=by kernel_rfl
theorem tb:((Rows.symbolsFindRow.mapsOut== Tryz.prog.mapsAmong Tryz.f4.resultTypes.toList))=true:=by kernel_rfl
theorem tc:((Rows.symbolsFindRow.loops==(Tryz.f4.params.toList++Rows.symbolsFindSpec.plain.varTypes Tryz.prog).any ( Tryz.prog.loopsFrom ·)))=true:=by kernel_rfl
theorem td:((Rows.symbolsFindRow.wideKeys==(Tryz.f4.params.toList++Rows.symbolsFindSpec.plain.varTypes Tryz.prog++Tryz.f4.resultTypes.toList).any ( Tryz.prog.wideKeysFrom ·)))=true:=by kernel_rfl
theorem te:(Rows.symbolsFindSpec.vars.all ( Tryz.prog.varReadable ·))=true:=by kernel_rfl
theorem tf:(Tryz.f4.resultTypes.all (fun t=> Tryz.prog.readableRec t&&decide (t< Tryz.prog.types.size)))=true:=by kernel_rfl
theorem tg:((Rows.symbolsFindRow.ifacesOut==Tryz.f4.resultTypes.toList.any ( Tryz.prog.ifacesRec ·)))=true:=by kernel_rfl
theorem th:((Rows.symbolsFindRow.loopsOut==Tryz.f4.resultTypes.toList.any ( Tryz.prog.loopsFrom ·)))=true:=by kernel_rfl
theorem tm:((Rows.symbolsFindRow.plainKeys== Tryz.prog.plainKeys))=true:=by kernel_rfl
theorem tn:(Rows.symbolsFindRow.shortTexts.isNone)=true:=by kernel_rfl
theorem tq:(Tryz.prog.stopsHeard)=true:=by kernel_rfl
theorem tt:(Tryz.prog.mayEnter)=true:=by kernel_rfl
theorem tu:((Rows.symbolsFindRow.lifted== Tryz.prog.liftsFinal))=true:=by kernel_rfl
theorem tx:(( Tryz.prog.make==some Rows.symbolsFindRow.make))=true:=by kernel_rfl
theorem tz:((Rows.symbolsFindRow.kinds==(if Rows.symbolsFindRow.domain.isEmpty then[] else Tryz.f4.params.toList.map fun t=>match  Tryz.prog.underlying t with|some (.int k)=>some k|_=>none)))=true:=by kernel_rfl
theorem tD:((Rows.symbolsFindRow.pinned==Rows.symbolsFindRow.pinnedBy))=true:=by kernel_rfl
theorem tF:((Rows.symbolsFindRow.veiled==(Tryz.f4.params.toList++Rows.symbolsFindSpec.plain.varTypes Tryz.prog++Tryz.f4.resultTypes.toList).any ( Tryz.prog.veiledRec ·)))=true:=by kernel_rfl
theorem tG:(Rows.symbolsFindRow.veiledFits Tryz.prog Tryz.f4.params.toList (Tryz.f4.params.toList++Rows.symbolsFindSpec.plain.varTypes Tryz.prog++Tryz.f4.resultTypes.toList))=true:=by kernel_rfl
theorem wa:Rows.symbolsFindRow.wfByText (OpenSpec.ofChange Rows.symbolsFindSpec)=true:=by kernel_rfl
theorem r_ : Tryz.prog.mainIs = some (true, "e55228c8d796d6dcb1324be3f384caca7f3fe620c343af9fb33ab5252cf5aef6".toList) := by kernel_rfl
theorem nG : Tryz.prog.funcNamed "glossator/glossatorkeep1.SymbolsFind" = some 4 := by kernel_rfl
theorem se:false=Rows.symbolsFindRow.goesBy Tryz.prog:=by kernel_rfl
theorem qT:([22,3].all fun u=>!Tryz.prog.wantsStandIn u)=true:=by kernel_rfl
theorem qU:true=Tryz.prog.looks []:=by kernel_rfl
end Go.Proofs.YtndfoijecakkfaaGreatDoor
end

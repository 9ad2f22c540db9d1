/- RowPtK2 -/
import Derived.Test.YtnhnmigafkodfaaGreatDoorCards
import Derived.JoinedOf
import Derived.KernelRfl
import Derived.ProofKit
set_option linter.all false

section
set_option maxRecDepth 100000
namespace Go.Proofs.YtnhnmigafkodfaaGreatDoor
open Go Go.ChangeShapes Go.WideShapes Go.ChangeAt Go.RowKit
theorem parserTrivia_k14 : ((Rows.parserTriviaRow.ifaces == (Tryz.f4.params.toList ++ Rows.parserTriviaSpec.plain.varTypes Tryz.prog).any ( Tryz.prog.ifacesRec ·))) = true := by kernel_rfl
theorem parserTrivia_k15 : ((Rows.parserTriviaRow.mapsOut ==  Tryz.prog.mapsAmong Tryz.f4.resultTypes.toList)) = true := by kernel_rfl
theorem parserTrivia_k16 : ((Rows.parserTriviaRow.loops == (Tryz.f4.params.toList ++ Rows.parserTriviaSpec.plain.varTypes Tryz.prog).any ( Tryz.prog.loopsFrom ·))) = true := by kernel_rfl
theorem parserTrivia_k17 : ((Rows.parserTriviaRow.wideKeys == (Tryz.f4.params.toList ++ Rows.parserTriviaSpec.plain.varTypes Tryz.prog ++ Tryz.f4.resultTypes.toList).any ( Tryz.prog.wideKeysFrom ·))) = true := by kernel_rfl
theorem parserTrivia_k18 : (Rows.parserTriviaSpec.vars.all ( Tryz.prog.varReadable ·)) = true := by kernel_rfl
theorem parserTrivia_k19 : (Tryz.f4.resultTypes.all (fun t =>  Tryz.prog.readableRec t && decide (t <  Tryz.prog.types.size))) = true := by kernel_rfl
theorem parserTrivia_k20 : ((Rows.parserTriviaRow.ifacesOut == Tryz.f4.resultTypes.toList.any ( Tryz.prog.ifacesRec ·))) = true := by kernel_rfl
theorem parserTrivia_k21 : ((Rows.parserTriviaRow.loopsOut == Tryz.f4.resultTypes.toList.any ( Tryz.prog.loopsFrom ·))) = true := by kernel_rfl
theorem parserTrivia_k22 : ((Rows.parserTriviaRow.plainKeys ==  Tryz.prog.plainKeys)) = true := by kernel_rfl
theorem parserTrivia_k23 : (Rows.parserTriviaRow.shortTexts.isNone) = true := by kernel_rfl
theorem parserTrivia_k24 : (Tryz.prog.stopsHeard) = true := by kernel_rfl
theorem parserTrivia_k25 : (Tryz.prog.mayEnter) = true := by kernel_rfl
theorem parserTrivia_k26 : ((Rows.parserTriviaRow.lifted ==  Tryz.prog.liftsFinal)) = true := by kernel_rfl
theorem parserTrivia_k27 : (( Tryz.prog.make == some Rows.parserTriviaRow.make)) = true := by kernel_rfl
theorem parserTrivia_k28 : ((Rows.parserTriviaRow.kinds == (if Rows.parserTriviaRow.domain.isEmpty then [] else Tryz.f4.params.toList.map fun t => match  Tryz.prog.underlying t with | some (.int k) => some k | _ => none))) = true := by kernel_rfl
theorem parserTrivia_k29 : ((Rows.parserTriviaRow.pinned == Rows.parserTriviaRow.pinnedBy)) = true := by kernel_rfl
theorem parserTrivia_k30 : ((Rows.parserTriviaRow.veiled == (Tryz.f4.params.toList ++ Rows.parserTriviaSpec.plain.varTypes Tryz.prog ++ Tryz.f4.resultTypes.toList).any ( Tryz.prog.veiledRec ·))) = true := by kernel_rfl
theorem parserTrivia_k31 : (Rows.parserTriviaRow.veiledFits Tryz.prog Tryz.f4.params.toList (Tryz.f4.params.toList ++ Rows.parserTriviaSpec.plain.varTypes Tryz.prog ++ Tryz.f4.resultTypes.toList)) = true := by kernel_rfl
theorem parserTrivia_wf : Rows.parserTriviaRow.wfByText (OpenSpec.ofChange Rows.parserTriviaSpec) = true := by kernel_rfl
theorem parserTrivia_main : Tryz.prog.mainIs = some (true, "f99df0617b2f8764300c23f546f3782f200df4cd57ea9d5c64db95e0edba40b5".toList) := by kernel_rfl
theorem parserTrivia_fn : Tryz.prog.funcNamed "glossator/glossatorkeep1.ParserTrivia" = some 4 := by kernel_rfl
theorem parserTrivia_goes : false = Rows.parserTriviaRow.goesBy Tryz.prog := by kernel_rfl
theorem parserTrivia_stand : ([9, 3, 3].all fun u => !Tryz.prog.wantsStandIn u) = true := by kernel_rfl
theorem parserTrivia_looks : true = Tryz.prog.looks [] := by kernel_rfl
end Go.Proofs.YtnhnmigafkodfaaGreatDoor
end

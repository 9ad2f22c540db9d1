/- RowPtK1 -/
import Derived.Test.YtnhnmigafkodfaaGreatDoorCards
import Derived.JoinedOf
import Derived.KernelRfl
import Derived.ProofKit
set_option linter.all false

section
set_option maxRecDepth 100000
namespace Go.Proofs.YtnhnmigafkodfaaGreatDoor
open Go Go.ChangeShapes Go.WideShapes Go.ChangeAt Go.RowKit
theorem parserTrivia_k0 : (Rows.parserTriviaRow.wf (OpenSpec.ofChange Rows.parserTriviaSpec)) = true := by kernel_rfl
theorem parserTrivia_k1 : (laidOutB Tryz.prog) = true := by kernel_rfl
theorem parserTrivia_k2 : (mapsRowed Tryz.prog) = true := by kernel_rfl
theorem parserTrivia_k3 : (Tryz.f4.params.all ( Tryz.prog.readableRec ·)) = true := by kernel_rfl
theorem parserTrivia_k4 : (namedTie Tryz.prog Rows.parserTriviaRow.named Rows.parserTriviaSpec.vars) = true := by kernel_rfl
theorem parserTrivia_k5 : ((Rows.parserTriviaRow.stops == [])) = true := by kernel_rfl
theorem parserTrivia_k6 : (( Tryz.prog.stops == [])) = true := by kernel_rfl
theorem parserTrivia_k7 : ((Rows.parserTriviaRow.knobs == [])) = true := by kernel_rfl
theorem parserTrivia_k8 : (( Tryz.prog.stopKnobs == [])) = true := by kernel_rfl
theorem parserTrivia_k9 : ((Rows.parserTriviaRow.inPlace ==  Tryz.prog.inPlace 4)) = true := by kernel_rfl
theorem parserTrivia_k10 : ((Rows.parserTriviaRow.unfollowed ==  Tryz.prog.unfollowed 4)) = true := by kernel_rfl
theorem parserTrivia_k11 : ((Rows.parserTriviaRow.recurses ==  Tryz.prog.recurses 4)) = true := by kernel_rfl
theorem parserTrivia_k12 : ((Rows.parserTriviaRow.named ==  Tryz.prog.varsNamed 4)) = true := by kernel_rfl
theorem parserTrivia_k13 : ((Rows.parserTriviaRow.maps == (Tryz.f4.params.toList ++ Rows.parserTriviaSpec.plain.varTypes Tryz.prog).any ( Tryz.prog.mapsRec ·))) = true := by kernel_rfl
end Go.Proofs.YtnhnmigafkodfaaGreatDoor
end

/- RowLoK1 -/
import Derived.Test.YtkikcleofaeigaaGreatDoorCards
import Derived.JoinedOf
import Derived.KernelRfl
import Derived.ProofKit

section
/- What the row of ParserLossless asks of the program's text: evaluated in the kernel. -/
set_option linter.all false
set_option maxRecDepth 100000
namespace Go.Proofs.YtkikcleofaeigaaGreatDoor
open Go Go.ChangeShapes Go.WideShapes Go.ChangeAt Go.RowKit
theorem parserLossless_k0 : (Rows.parserLosslessRow.wf (OpenSpec.ofChange Rows.parserLosslessSpec)) = true := by kernel_rfl
theorem parserLossless_k1 : (laidOutB Tryz.prog) = true := by kernel_rfl
theorem parserLossless_k2 : (mapsRowed Tryz.prog) = true := by kernel_rfl
theorem parserLossless_k3 : (Tryz.f10.params.all ( Tryz.prog.readableRec ·)) = true := by kernel_rfl
theorem parserLossless_k4 : (namedTie Tryz.prog Rows.parserLosslessRow.named Rows.parserLosslessSpec.vars) = true := by kernel_rfl
theorem parserLossless_k5 : ((Rows.parserLosslessRow.stops == [])) = true := by kernel_rfl
theorem parserLossless_k6 : (( Tryz.prog.stops == [])) = true := by kernel_rfl
theorem parserLossless_k7 : ((Rows.parserLosslessRow.knobs == [])) = true := by kernel_rfl
theorem parserLossless_k8 : (( Tryz.prog.stopKnobs == [])) = true := by kernel_rfl
theorem parserLossless_k9 : ((Rows.parserLosslessRow.inPlace ==  Tryz.prog.inPlace 10)) = true := by kernel_rfl
theorem parserLossless_k10 : ((Rows.parserLosslessRow.unfollowed ==  Tryz.prog.unfollowed 10)) = true := by kernel_rfl
theorem parserLossless_k11 : ((Rows.parserLosslessRow.recurses ==  Tryz.prog.recurses 10)) = true := by kernel_rfl
theorem parserLossless_k12 : ((Rows.parserLosslessRow.named ==  Tryz.prog.varsNamed 10)) = true := by kernel_rfl
theorem parserLossless_k13 : ((Rows.parserLosslessRow.maps == (Tryz.f10.params.toList ++ Rows.parserLosslessSpec.plain.varTypes Tryz.prog).any ( Tryz.prog.mapsRec ·))) = true := by kernel_rfl
end Go.Proofs.YtkikcleofaeigaaGreatDoor
end

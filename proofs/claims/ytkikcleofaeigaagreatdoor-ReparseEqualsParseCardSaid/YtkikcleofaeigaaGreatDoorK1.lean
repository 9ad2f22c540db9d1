/- RowPqK1 -/
import Derived.Test.YtkikcleofaeigaaGreatDoorCards
import Derived.JoinedOf
import Derived.KernelRfl
import Derived.ProofKit
set_option linter.all false

section
set_option maxRecDepth 100000
namespace Go.Proofs.YtkikcleofaeigaaGreatDoor
open Go Go.ChangeShapes Go.WideShapes Go.ChangeAt Go.RowKit
theorem reparseEqualsParse_k0 : (Rows.reparseEqualsParseRow.wf (OpenSpec.ofChange Rows.reparseEqualsParseSpec)) = true := by kernel_rfl
theorem reparseEqualsParse_k1 : (laidOutB Tryz.prog) = true := by kernel_rfl
theorem reparseEqualsParse_k2 : (mapsRowed Tryz.prog) = true := by kernel_rfl
theorem reparseEqualsParse_k3 : (Tryz.f7.params.all ( Tryz.prog.readableRec ·)) = true := by kernel_rfl
theorem reparseEqualsParse_k4 : (namedTie Tryz.prog Rows.reparseEqualsParseRow.named Rows.reparseEqualsParseSpec.vars) = true := by kernel_rfl
theorem reparseEqualsParse_k5 : ((Rows.reparseEqualsParseRow.stops == [])) = true := by kernel_rfl
theorem reparseEqualsParse_k6 : (( Tryz.prog.stops == [])) = true := by kernel_rfl
theorem reparseEqualsParse_k7 : ((Rows.reparseEqualsParseRow.knobs == [])) = true := by kernel_rfl
theorem reparseEqualsParse_k8 : (( Tryz.prog.stopKnobs == [])) = true := by kernel_rfl
theorem reparseEqualsParse_k9 : ((Rows.reparseEqualsParseRow.inPlace ==  Tryz.prog.inPlace 7)) = true := by kernel_rfl
theorem reparseEqualsParse_k10 : ((Rows.reparseEqualsParseRow.unfollowed ==  Tryz.prog.unfollowed 7)) = true := by kernel_rfl
theorem reparseEqualsParse_k11 : ((Rows.reparseEqualsParseRow.recurses ==  Tryz.prog.recurses 7)) = true := by kernel_rfl
theorem reparseEqualsParse_k12 : ((Rows.reparseEqualsParseRow.named ==  Tryz.prog.varsNamed 7)) = true := by kernel_rfl
theorem reparseEqualsParse_k13 : ((Rows.reparseEqualsParseRow.maps == (Tryz.f7.params.toList ++ Rows.reparseEqualsParseSpec.plain.varTypes Tryz.prog).any ( Tryz.prog.mapsRec ·))) = true := by kernel_rfl
end Go.Proofs.YtkikcleofaeigaaGreatDoor
end

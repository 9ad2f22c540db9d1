/- RowPeK1 -/
import Derived.Test.YtkikcleofaeigaaGreatDoorCards
import Derived.JoinedOf
import Derived.KernelRfl
import Derived.ProofKit
set_option linter.all false

section
set_option maxRecDepth 100000
namespace Go.Proofs.YtkikcleofaeigaaGreatDoor
open Go Go.ChangeShapes Go.WideShapes Go.ChangeAt Go.RowKit
theorem reparseErrors_k0 : (Rows.reparseErrorsRow.wf (OpenSpec.ofChange Rows.reparseErrorsSpec)) = true := by kernel_rfl
theorem reparseErrors_k1 : (laidOutB Tryz.prog) = true := by kernel_rfl
theorem reparseErrors_k2 : (mapsRowed Tryz.prog) = true := by kernel_rfl
theorem reparseErrors_k3 : (Tryz.f9.params.all ( Tryz.prog.readableRec ·)) = true := by kernel_rfl
theorem reparseErrors_k4 : (namedTie Tryz.prog Rows.reparseErrorsRow.named Rows.reparseErrorsSpec.vars) = true := by kernel_rfl
theorem reparseErrors_k5 : ((Rows.reparseErrorsRow.stops == [])) = true := by kernel_rfl
theorem reparseErrors_k6 : (( Tryz.prog.stops == [])) = true := by kernel_rfl
theorem reparseErrors_k7 : ((Rows.reparseErrorsRow.knobs == [])) = true := by kernel_rfl
theorem reparseErrors_k8 : (( Tryz.prog.stopKnobs == [])) = true := by kernel_rfl
theorem reparseErrors_k9 : ((Rows.reparseErrorsRow.inPlace ==  Tryz.prog.inPlace 9)) = true := by kernel_rfl
theorem reparseErrors_k10 : ((Rows.reparseErrorsRow.unfollowed ==  Tryz.prog.unfollowed 9)) = true := by kernel_rfl
theorem reparseErrors_k11 : ((Rows.reparseErrorsRow.recurses ==  Tryz.prog.recurses 9)) = true := by kernel_rfl
theorem reparseErrors_k12 : ((Rows.reparseErrorsRow.named ==  Tryz.prog.varsNamed 9)) = true := by kernel_rfl
theorem reparseErrors_k13 : ((Rows.reparseErrorsRow.maps == (Tryz.f9.params.toList ++ Rows.reparseErrorsSpec.plain.varTypes Tryz.prog).any ( Tryz.prog.mapsRec ·))) = true := by kernel_rfl
end Go.Proofs.YtkikcleofaeigaaGreatDoor
end

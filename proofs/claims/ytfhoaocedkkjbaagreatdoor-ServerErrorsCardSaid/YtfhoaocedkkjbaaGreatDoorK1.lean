/- RowSrK1 -/
import Derived.Test.YtfhoaocedkkjbaaGreatDoorCards
import Derived.JoinedOf
import Derived.KernelRfl
import Derived.ProofKit
set_option linter.all false

section
set_option maxRecDepth 100000
namespace Go.Proofs.YtfhoaocedkkjbaaGreatDoor
open Go Go.ChangeShapes Go.WideShapes Go.ChangeAt Go.RowKit
theorem serverErrors_k0 : (Rows.serverErrorsRow.wf (OpenSpec.ofChange Rows.serverErrorsSpec)) = true := by kernel_rfl
theorem serverErrors_k1 : (laidOutB Tryz.prog) = true := by kernel_rfl
theorem serverErrors_k2 : (mapsRowed Tryz.prog) = true := by kernel_rfl
theorem serverErrors_k3 : (Tryz.f8.params.all ( Tryz.prog.readableRec ·)) = true := by kernel_rfl
theorem serverErrors_k4 : (namedTie Tryz.prog Rows.serverErrorsRow.named Rows.serverErrorsSpec.vars) = true := by kernel_rfl
theorem serverErrors_k5 : ((Rows.serverErrorsRow.stops == [])) = true := by kernel_rfl
theorem serverErrors_k6 : (( Tryz.prog.stops == [])) = true := by kernel_rfl
theorem serverErrors_k7 : ((Rows.serverErrorsRow.knobs == [])) = true := by kernel_rfl
theorem serverErrors_k8 : (( Tryz.prog.stopKnobs == [])) = true := by kernel_rfl
theorem serverErrors_k9 : ((Rows.serverErrorsRow.inPlace ==  Tryz.prog.inPlace 8)) = true := by kernel_rfl
theorem serverErrors_k10 : ((Rows.serverErrorsRow.unfollowed ==  Tryz.prog.unfollowed 8)) = true := by kernel_rfl
theorem serverErrors_k11 : ((Rows.serverErrorsRow.recurses ==  Tryz.prog.recurses 8)) = true := by kernel_rfl
theorem serverErrors_k12 : ((Rows.serverErrorsRow.named ==  Tryz.prog.varsNamed 8)) = true := by kernel_rfl
theorem serverErrors_k13 : ((Rows.serverErrorsRow.maps == (Tryz.f8.params.toList ++ Rows.serverErrorsSpec.plain.varTypes Tryz.prog).any ( Tryz.prog.mapsRec ·))) = true := by kernel_rfl
end Go.Proofs.YtfhoaocedkkjbaaGreatDoor
end

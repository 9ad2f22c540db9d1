/- RowTeK1 -/
import Derived.Test.YtpfffbhhommecaaGreatDoorCards
import Derived.JoinedOf
import Derived.KernelRfl
import Derived.ProofKit
set_option linter.all false

section
set_option maxRecDepth 100000
namespace Go.Proofs.YtpfffbhhommecaaGreatDoor
open Go Go.ChangeShapes Go.WideShapes Go.ChangeAt Go.RowKit
theorem topEdited_k0 : (Rows.topEditedRow.wf (OpenSpec.ofChange Rows.topEditedSpec)) = true := by kernel_rfl
theorem topEdited_k1 : (laidOutB Tryz.prog) = true := by kernel_rfl
theorem topEdited_k2 : (mapsRowed Tryz.prog) = true := by kernel_rfl
theorem topEdited_k3 : (Tryz.f3.params.all ( Tryz.prog.readableRec ·)) = true := by kernel_rfl
theorem topEdited_k4 : (namedTie Tryz.prog Rows.topEditedRow.named Rows.topEditedSpec.vars) = true := by kernel_rfl
theorem topEdited_k5 : ((Rows.topEditedRow.stops == [])) = true := by kernel_rfl
theorem topEdited_k6 : (( Tryz.prog.stops == [])) = true := by kernel_rfl
theorem topEdited_k7 : ((Rows.topEditedRow.knobs == [])) = true := by kernel_rfl
theorem topEdited_k8 : (( Tryz.prog.stopKnobs == [])) = true := by kernel_rfl
theorem topEdited_k9 : ((Rows.topEditedRow.inPlace ==  Tryz.prog.inPlace 3)) = true := by kernel_rfl
theorem topEdited_k10 : ((Rows.topEditedRow.unfollowed ==  Tryz.prog.unfollowed 3)) = true := by kernel_rfl
theorem topEdited_k11 : ((Rows.topEditedRow.recurses ==  Tryz.prog.recurses 3)) = true := by kernel_rfl
theorem topEdited_k12 : ((Rows.topEditedRow.named ==  Tryz.prog.varsNamed 3)) = true := by kernel_rfl
theorem topEdited_k13 : ((Rows.topEditedRow.maps == (Tryz.f3.params.toList ++ Rows.topEditedSpec.plain.varTypes Tryz.prog).any ( Tryz.prog.mapsRec ·))) = true := by kernel_rfl
end Go.Proofs.YtpfffbhhommecaaGreatDoor
end

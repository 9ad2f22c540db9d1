/- RowScK1 -/
import Derived.Test.YtfhoaocedkkjbaaGreatDoorCards
import Derived.JoinedOf
import Derived.KernelRfl
import Derived.ProofKit
set_option linter.all false

section
set_option maxRecDepth 100000
namespace Go.Proofs.YtfhoaocedkkjbaaGreatDoor
open Go Go.ChangeShapes Go.WideShapes Go.ChangeAt Go.RowKit
theorem serverCanceled_k0 : (Rows.serverCanceledRow.wf (OpenSpec.ofChange Rows.serverCanceledSpec)) = true := by kernel_rfl
theorem serverCanceled_k1 : (laidOutB Tryz.prog) = true := by kernel_rfl
theorem serverCanceled_k2 : (mapsRowed Tryz.prog) = true := by kernel_rfl
theorem serverCanceled_k3 : (Tryz.f6.params.all ( Tryz.prog.readableRec ·)) = true := by kernel_rfl
theorem serverCanceled_k4 : (namedTie Tryz.prog Rows.serverCanceledRow.named Rows.serverCanceledSpec.vars) = true := by kernel_rfl
theorem serverCanceled_k5 : ((Rows.serverCanceledRow.stops == [])) = true := by kernel_rfl
theorem serverCanceled_k6 : (( Tryz.prog.stops == [])) = true := by kernel_rfl
theorem serverCanceled_k7 : ((Rows.serverCanceledRow.knobs == [])) = true := by kernel_rfl
theorem serverCanceled_k8 : (( Tryz.prog.stopKnobs == [])) = true := by kernel_rfl
theorem serverCanceled_k9 : ((Rows.serverCanceledRow.inPlace ==  Tryz.prog.inPlace 6)) = true := by kernel_rfl
theorem serverCanceled_k10 : ((Rows.serverCanceledRow.unfollowed ==  Tryz.prog.unfollowed 6)) = true := by kernel_rfl
theorem serverCanceled_k11 : ((Rows.serverCanceledRow.recurses ==  Tryz.prog.recurses 6)) = true := by kernel_rfl
theorem serverCanceled_k12 : ((Rows.serverCanceledRow.named ==  Tryz.prog.varsNamed 6)) = true := by kernel_rfl
theorem serverCanceled_k13 : ((Rows.serverCanceledRow.maps == (Tryz.f6.params.toList ++ Rows.serverCanceledSpec.plain.varTypes Tryz.prog).any ( Tryz.prog.mapsRec ·))) = true := by kernel_rfl
end Go.Proofs.YtfhoaocedkkjbaaGreatDoor
end

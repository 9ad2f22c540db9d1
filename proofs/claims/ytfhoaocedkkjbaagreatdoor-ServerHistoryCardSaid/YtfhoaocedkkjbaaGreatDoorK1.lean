/- RowShK1 -/
import Derived.Test.YtfhoaocedkkjbaaGreatDoorCards
import Derived.JoinedOf
import Derived.KernelRfl
import Derived.ProofKit
set_option linter.all false

section
set_option maxRecDepth 100000
namespace Go.Proofs.YtfhoaocedkkjbaaGreatDoor
open Go Go.ChangeShapes Go.WideShapes Go.ChangeAt Go.RowKit
theorem serverHistory_k0 : (Rows.serverHistoryRow.wf (OpenSpec.ofChange Rows.serverHistorySpec)) = true := by kernel_rfl
theorem serverHistory_k1 : (laidOutB Tryz.prog) = true := by kernel_rfl
theorem serverHistory_k2 : (mapsRowed Tryz.prog) = true := by kernel_rfl
theorem serverHistory_k3 : (Tryz.f7.params.all ( Tryz.prog.readableRec ·)) = true := by kernel_rfl
theorem serverHistory_k4 : (namedTie Tryz.prog Rows.serverHistoryRow.named Rows.serverHistorySpec.vars) = true := by kernel_rfl
theorem serverHistory_k5 : ((Rows.serverHistoryRow.stops == [])) = true := by kernel_rfl
theorem serverHistory_k6 : (( Tryz.prog.stops == [])) = true := by kernel_rfl
theorem serverHistory_k7 : ((Rows.serverHistoryRow.knobs == [])) = true := by kernel_rfl
theorem serverHistory_k8 : (( Tryz.prog.stopKnobs == [])) = true := by kernel_rfl
theorem serverHistory_k9 : ((Rows.serverHistoryRow.inPlace ==  Tryz.prog.inPlace 7)) = true := by kernel_rfl
theorem serverHistory_k10 : ((Rows.serverHistoryRow.unfollowed ==  Tryz.prog.unfollowed 7)) = true := by kernel_rfl
theorem serverHistory_k11 : ((Rows.serverHistoryRow.recurses ==  Tryz.prog.recurses 7)) = true := by kernel_rfl
theorem serverHistory_k12 : ((Rows.serverHistoryRow.named ==  Tryz.prog.varsNamed 7)) = true := by kernel_rfl
theorem serverHistory_k13 : ((Rows.serverHistoryRow.maps == (Tryz.f7.params.toList ++ Rows.serverHistorySpec.plain.varTypes Tryz.prog).any ( Tryz.prog.mapsRec ·))) = true := by kernel_rfl
end Go.Proofs.YtfhoaocedkkjbaaGreatDoor
end

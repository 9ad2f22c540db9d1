/- RowSpK1 -/
import Derived.Test.YtfhoaocedkkjbaaGreatDoorCards
import Derived.JoinedOf
import Derived.KernelRfl
import Derived.ProofKit
set_option linter.all false

section
set_option maxRecDepth 100000
namespace Go.Proofs.YtfhoaocedkkjbaaGreatDoor
open Go Go.ChangeShapes Go.WideShapes Go.ChangeAt Go.RowKit
theorem serverProgress_k0 : (Rows.serverProgressRow.wf (OpenSpec.ofChange Rows.serverProgressSpec)) = true := by kernel_rfl
theorem serverProgress_k1 : (laidOutB Tryz.prog) = true := by kernel_rfl
theorem serverProgress_k2 : (mapsRowed Tryz.prog) = true := by kernel_rfl
theorem serverProgress_k3 : (Tryz.f5.params.all ( Tryz.prog.readableRec ·)) = true := by kernel_rfl
theorem serverProgress_k4 : (namedTie Tryz.prog Rows.serverProgressRow.named Rows.serverProgressSpec.vars) = true := by kernel_rfl
theorem serverProgress_k5 : ((Rows.serverProgressRow.stops == [])) = true := by kernel_rfl
theorem serverProgress_k6 : (( Tryz.prog.stops == [])) = true := by kernel_rfl
theorem serverProgress_k7 : ((Rows.serverProgressRow.knobs == [])) = true := by kernel_rfl
theorem serverProgress_k8 : (( Tryz.prog.stopKnobs == [])) = true := by kernel_rfl
theorem serverProgress_k9 : ((Rows.serverProgressRow.inPlace ==  Tryz.prog.inPlace 5)) = true := by kernel_rfl
theorem serverProgress_k10 : ((Rows.serverProgressRow.unfollowed ==  Tryz.prog.unfollowed 5)) = true := by kernel_rfl
theorem serverProgress_k11 : ((Rows.serverProgressRow.recurses ==  Tryz.prog.recurses 5)) = true := by kernel_rfl
theorem serverProgress_k12 : ((Rows.serverProgressRow.named ==  Tryz.prog.varsNamed 5)) = true := by kernel_rfl
theorem serverProgress_k13 : ((Rows.serverProgressRow.maps == (Tryz.f5.params.toList ++ Rows.serverProgressSpec.plain.varTypes Tryz.prog).any ( Tryz.prog.mapsRec ·))) = true := by kernel_rfl
end Go.Proofs.YtfhoaocedkkjbaaGreatDoor
end

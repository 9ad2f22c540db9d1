/- RowSxK1 -/
import Derived.Test.YtfhoaocedkkjbaaGreatDoorCards
import Derived.JoinedOf
import Derived.KernelRfl
import Derived.ProofKit
set_option linter.all false

section
set_option maxRecDepth 100000
namespace Go.Proofs.YtfhoaocedkkjbaaGreatDoor
open Go Go.ChangeShapes Go.WideShapes Go.ChangeAt Go.RowKit
theorem serverEvictions_k0 : (Rows.serverEvictionsRow.wf (OpenSpec.ofChange Rows.serverEvictionsSpec)) = true := by kernel_rfl
theorem serverEvictions_k1 : (laidOutB Tryz.prog) = true := by kernel_rfl
theorem serverEvictions_k2 : (mapsRowed Tryz.prog) = true := by kernel_rfl
theorem serverEvictions_k3 : (Tryz.f4.params.all ( Tryz.prog.readableRec ·)) = true := by kernel_rfl
theorem serverEvictions_k4 : (namedTie Tryz.prog Rows.serverEvictionsRow.named Rows.serverEvictionsSpec.vars) = true := by kernel_rfl
theorem serverEvictions_k5 : ((Rows.serverEvictionsRow.stops == [])) = true := by kernel_rfl
theorem serverEvictions_k6 : (( Tryz.prog.stops == [])) = true := by kernel_rfl
theorem serverEvictions_k7 : ((Rows.serverEvictionsRow.knobs == [])) = true := by kernel_rfl
theorem serverEvictions_k8 : (( Tryz.prog.stopKnobs == [])) = true := by kernel_rfl
theorem serverEvictions_k9 : ((Rows.serverEvictionsRow.inPlace ==  Tryz.prog.inPlace 4)) = true := by kernel_rfl
theorem serverEvictions_k10 : ((Rows.serverEvictionsRow.unfollowed ==  Tryz.prog.unfollowed 4)) = true := by kernel_rfl
theorem serverEvictions_k11 : ((Rows.serverEvictionsRow.recurses ==  Tryz.prog.recurses 4)) = true := by kernel_rfl
theorem serverEvictions_k12 : ((Rows.serverEvictionsRow.named ==  Tryz.prog.varsNamed 4)) = true := by kernel_rfl
theorem serverEvictions_k13 : ((Rows.serverEvictionsRow.maps == (Tryz.f4.params.toList ++ Rows.serverEvictionsSpec.plain.varTypes Tryz.prog).any ( Tryz.prog.mapsRec ·))) = true := by kernel_rfl
end Go.Proofs.YtfhoaocedkkjbaaGreatDoor
end

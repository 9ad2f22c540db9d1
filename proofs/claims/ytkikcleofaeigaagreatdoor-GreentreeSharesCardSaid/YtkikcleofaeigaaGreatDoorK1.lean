/- RowGsK1 -/
import Derived.Test.YtkikcleofaeigaaGreatDoorCards
import Derived.JoinedOf
import Derived.KernelRfl
import Derived.ProofKit
set_option linter.all false

section
set_option maxRecDepth 100000
namespace Go.Proofs.YtkikcleofaeigaaGreatDoor
open Go Go.ChangeShapes Go.WideShapes Go.ChangeAt Go.RowKit
theorem greentreeShares_k0 : (Rows.greentreeSharesRow.wf (OpenSpec.ofChange Rows.greentreeSharesSpec)) = true := by kernel_rfl
theorem greentreeShares_k1 : (laidOutB Tryz.prog) = true := by kernel_rfl
theorem greentreeShares_k2 : (mapsRowed Tryz.prog) = true := by kernel_rfl
theorem greentreeShares_k3 : (Tryz.f6.params.all ( Tryz.prog.readableRec ·)) = true := by kernel_rfl
theorem greentreeShares_k4 : (namedTie Tryz.prog Rows.greentreeSharesRow.named Rows.greentreeSharesSpec.vars) = true := by kernel_rfl
theorem greentreeShares_k5 : ((Rows.greentreeSharesRow.stops == [])) = true := by kernel_rfl
theorem greentreeShares_k6 : (( Tryz.prog.stops == [])) = true := by kernel_rfl
theorem greentreeShares_k7 : ((Rows.greentreeSharesRow.knobs == [])) = true := by kernel_rfl
theorem greentreeShares_k8 : (( Tryz.prog.stopKnobs == [])) = true := by kernel_rfl
theorem greentreeShares_k9 : ((Rows.greentreeSharesRow.inPlace ==  Tryz.prog.inPlace 6)) = true := by kernel_rfl
theorem greentreeShares_k10 : ((Rows.greentreeSharesRow.unfollowed ==  Tryz.prog.unfollowed 6)) = true := by kernel_rfl
theorem greentreeShares_k11 : ((Rows.greentreeSharesRow.recurses ==  Tryz.prog.recurses 6)) = true := by kernel_rfl
theorem greentreeShares_k12 : ((Rows.greentreeSharesRow.named ==  Tryz.prog.varsNamed 6)) = true := by kernel_rfl
theorem greentreeShares_k13 : ((Rows.greentreeSharesRow.maps == (Tryz.f6.params.toList ++ Rows.greentreeSharesSpec.plain.varTypes Tryz.prog).any ( Tryz.prog.mapsRec ·))) = true := by kernel_rfl
end Go.Proofs.YtkikcleofaeigaaGreatDoor
end

/- RowGiK1 -/
import Derived.Test.YtkikcleofaeigaaGreatDoorCards
import Derived.JoinedOf
import Derived.KernelRfl
import Derived.ProofKit
set_option linter.all false

section
set_option maxRecDepth 100000
namespace Go.Proofs.YtkikcleofaeigaaGreatDoor
open Go Go.ChangeShapes Go.WideShapes Go.ChangeAt Go.RowKit
theorem greentreeIdentity_k0 : (Rows.greentreeIdentityRow.wf (OpenSpec.ofChange Rows.greentreeIdentitySpec)) = true := by kernel_rfl
theorem greentreeIdentity_k1 : (laidOutB Tryz.prog) = true := by kernel_rfl
theorem greentreeIdentity_k2 : (mapsRowed Tryz.prog) = true := by kernel_rfl
theorem greentreeIdentity_k3 : (Tryz.f5.params.all ( Tryz.prog.readableRec ·)) = true := by kernel_rfl
theorem greentreeIdentity_k4 : (namedTie Tryz.prog Rows.greentreeIdentityRow.named Rows.greentreeIdentitySpec.vars) = true := by kernel_rfl
theorem greentreeIdentity_k5 : ((Rows.greentreeIdentityRow.stops == [])) = true := by kernel_rfl
theorem greentreeIdentity_k6 : (( Tryz.prog.stops == [])) = true := by kernel_rfl
theorem greentreeIdentity_k7 : ((Rows.greentreeIdentityRow.knobs == [])) = true := by kernel_rfl
theorem greentreeIdentity_k8 : (( Tryz.prog.stopKnobs == [])) = true := by kernel_rfl
theorem greentreeIdentity_k9 : ((Rows.greentreeIdentityRow.inPlace ==  Tryz.prog.inPlace 5)) = true := by kernel_rfl
theorem greentreeIdentity_k10 : ((Rows.greentreeIdentityRow.unfollowed ==  Tryz.prog.unfollowed 5)) = true := by kernel_rfl
theorem greentreeIdentity_k11 : ((Rows.greentreeIdentityRow.recurses ==  Tryz.prog.recurses 5)) = true := by kernel_rfl
theorem greentreeIdentity_k12 : ((Rows.greentreeIdentityRow.named ==  Tryz.prog.varsNamed 5)) = true := by kernel_rfl
theorem greentreeIdentity_k13 : ((Rows.greentreeIdentityRow.maps == (Tryz.f5.params.toList ++ Rows.greentreeIdentitySpec.plain.varTypes Tryz.prog).any ( Tryz.prog.mapsRec ·))) = true := by kernel_rfl
end Go.Proofs.YtkikcleofaeigaaGreatDoor
end

/- RowPuK1 -/
import Derived.Test.YtkikcleofaeigaaGreatDoorCards
import Derived.JoinedOf
import Derived.KernelRfl
import Derived.ProofKit
set_option linter.all false

section
set_option maxRecDepth 100000
namespace Go.Proofs.YtkikcleofaeigaaGreatDoor
open Go Go.ChangeShapes Go.WideShapes Go.ChangeAt Go.RowKit
theorem reparseReuses_k0 : (Rows.reparseReusesRow.wf (OpenSpec.ofChange Rows.reparseReusesSpec)) = true := by kernel_rfl
theorem reparseReuses_k1 : (laidOutB Tryz.prog) = true := by kernel_rfl
theorem reparseReuses_k2 : (mapsRowed Tryz.prog) = true := by kernel_rfl
theorem reparseReuses_k3 : (Tryz.f8.params.all ( Tryz.prog.readableRec ·)) = true := by kernel_rfl
theorem reparseReuses_k4 : (namedTie Tryz.prog Rows.reparseReusesRow.named Rows.reparseReusesSpec.vars) = true := by kernel_rfl
theorem reparseReuses_k5 : ((Rows.reparseReusesRow.stops == [])) = true := by kernel_rfl
theorem reparseReuses_k6 : (( Tryz.prog.stops == [])) = true := by kernel_rfl
theorem reparseReuses_k7 : ((Rows.reparseReusesRow.knobs == [])) = true := by kernel_rfl
theorem reparseReuses_k8 : (( Tryz.prog.stopKnobs == [])) = true := by kernel_rfl
theorem reparseReuses_k9 : ((Rows.reparseReusesRow.inPlace ==  Tryz.prog.inPlace 8)) = true := by kernel_rfl
theorem reparseReuses_k10 : ((Rows.reparseReusesRow.unfollowed ==  Tryz.prog.unfollowed 8)) = true := by kernel_rfl
theorem reparseReuses_k11 : ((Rows.reparseReusesRow.recurses ==  Tryz.prog.recurses 8)) = true := by kernel_rfl
theorem reparseReuses_k12 : ((Rows.reparseReusesRow.named ==  Tryz.prog.varsNamed 8)) = true := by kernel_rfl
theorem reparseReuses_k13 : ((Rows.reparseReusesRow.maps == (Tryz.f8.params.toList ++ Rows.reparseReusesSpec.plain.varTypes Tryz.prog).any ( Tryz.prog.mapsRec ·))) = true := by kernel_rfl
end Go.Proofs.YtkikcleofaeigaaGreatDoor
end

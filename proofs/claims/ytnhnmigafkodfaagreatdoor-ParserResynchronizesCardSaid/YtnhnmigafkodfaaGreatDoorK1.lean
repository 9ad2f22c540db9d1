/- RowPrK1 -/
import Derived.Test.YtnhnmigafkodfaaGreatDoorCards
import Derived.JoinedOf
import Derived.KernelRfl
import Derived.ProofKit
set_option linter.all false
set_option maxRecDepth 100000

section
namespace Go.Proofs.YtnhnmigafkodfaaGreatDoor
open Go Go.ChangeShapes Go.WideShapes Go.ChangeAt Go.RowKit
theorem parserResynchronizes_k0:(Rows.parserResynchronizesRow.wf (OpenSpec.ofChange Rows.parserResynchronizesSpec))=true:=by kernel_rfl
theorem parserResynchronizes_k1:(laidOutB Tryz.prog)=true:=by kernel_rfl
theorem parserResynchronizes_k2:(mapsRowed Tryz.prog)=true:=by kernel_rfl
theorem parserResynchronizes_k3:(Tryz.f3.params.all ( Tryz.prog.readableRec ·))=true:=by kernel_rfl
theorem parserResynchronizes_k4:(namedTie Tryz.prog Rows.parserResynchronizesRow.named Rows.parserResynchronizesSpec.vars)=true:=by kernel_rfl
theorem parserResynchronizes_k5:((Rows.parserResynchronizesRow.stops==[]))=true:=by kernel_rfl
theorem parserResynchronizes_k6:(( Tryz.prog.stops==[]))=true:=by kernel_rfl
theorem parserResynchronizes_k7:((Rows.parserResynchronizesRow.knobs==[]))=true:=by kernel_rfl
theorem parserResynchronizes_k8:(( Tryz.prog.stopKnobs==[]))=true:=by kernel_rfl
theorem parserResynchronizes_k9:((Rows.parserResynchronizesRow.inPlace== Tryz.prog.inPlace 3))=true:=by kernel_rfl
theorem parserResynchronizes_k10:((Rows.parserResynchronizesRow.unfollowed== Tryz.prog.unfollowed 3))=true:=by kernel_rfl
theorem parserResynchronizes_k11:((Rows.parserResynchronizesRow.recurses== Tryz.prog.recurses 3))=true:=by kernel_rfl
theorem parserResynchronizes_k12:((Rows.parserResynchronizesRow.named== Tryz.prog.varsNamed 3))=true:=by kernel_rfl
theorem parserResynchronizes_k13:((Rows.parserResynchronizesRow.maps==(Tryz.f3.params.toList++Rows.parserResynchronizesSpec.plain.varTypes Tryz.prog).any ( Tryz.prog.mapsRec ·)))=true:=by kernel_rfl
end Go.Proofs.YtnhnmigafkodfaaGreatDoor
end

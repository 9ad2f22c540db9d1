/- RowAqK1 -/
import Derived.Test.YtnhnmigafkodfaaGreatDoorCards
import Derived.JoinedOf
import Derived.KernelRfl
import Derived.ProofKit
set_option linter.all false
set_option maxRecDepth 100000

section
namespace Go.Proofs.YtnhnmigafkodfaaGreatDoor
open Go Go.ChangeShapes Go.WideShapes Go.ChangeAt Go.RowKit
theorem astQuote_k0:(Rows.astQuoteRow.wf (OpenSpec.ofChange Rows.astQuoteSpec))=true:=by kernel_rfl
theorem astQuote_k1:(laidOutB Tryz.prog)=true:=by kernel_rfl
theorem astQuote_k2:(mapsRowed Tryz.prog)=true:=by kernel_rfl
theorem astQuote_k3:(Tryz.f8.params.all ( Tryz.prog.readableRec ·))=true:=by kernel_rfl
theorem astQuote_k4:(namedTie Tryz.prog Rows.astQuoteRow.named Rows.astQuoteSpec.vars)=true:=by kernel_rfl
theorem astQuote_k5:((Rows.astQuoteRow.stops==[]))=true:=by kernel_rfl
theorem astQuote_k6:(( Tryz.prog.stops==[]))=true:=by kernel_rfl
theorem astQuote_k7:((Rows.astQuoteRow.knobs==[]))=true:=by kernel_rfl
theorem astQuote_k8:(( Tryz.prog.stopKnobs==[]))=true:=by kernel_rfl
theorem astQuote_k9:((Rows.astQuoteRow.inPlace== Tryz.prog.inPlace 8))=true:=by kernel_rfl
theorem astQuote_k10:((Rows.astQuoteRow.unfollowed== Tryz.prog.unfollowed 8))=true:=by kernel_rfl
theorem astQuote_k11:((Rows.astQuoteRow.recurses== Tryz.prog.recurses 8))=true:=by kernel_rfl
theorem astQuote_k12:((Rows.astQuoteRow.named== Tryz.prog.varsNamed 8))=true:=by kernel_rfl
theorem astQuote_k13:((Rows.astQuoteRow.maps==(Tryz.f8.params.toList++Rows.astQuoteSpec.plain.varTypes Tryz.prog).any ( Tryz.prog.mapsRec ·)))=true:=by kernel_rfl
end Go.Proofs.YtnhnmigafkodfaaGreatDoor
end

/-
  DERIVED. GIVEN WITH THE SEED: THE CARDS: each row of YtnhnmigafkodfaaGreatDoorRows.lean that lists a variable, with what it lists TIED to the program's text (the seventh form; the later family's looks); each row that meets fmt, with fmt's text TOLD by the authors' own Lean function (tested against real Go, not proved from fmt's source: count such statements apart). THE CARD IS WHAT COUNTS. Prove the row's statement (the work); the ties are given (YtnhnmigafkodfaaGreatDoorTie.lean); close each card by the builder's one call (the guide's Derived/Test/ToyasCard.lean, 'card_holds'). Laid BY PROGRAM, IN A SANDBOX (cutbox-door.mjs). By AI agents, Wed Nov 11 2026. No macro, syntax, notation, axiom, sorry.
-/
import Derived.Test.YtnhnmigafkodfaaGreatDoorRows
import GoSem.ClaimSeven
namespace Go.Proofs.YtnhnmigafkodfaaGreatDoor
namespace Rows

/-- THE TIED CARD OF 'glossatorkeep1.ParserResynchronizes'. -/
def parserResynchronizesCard : Claim7 := { stood := { row := parserResynchronizesRow, standIns := [], harness := (true, "f99df0617b2f8764300c23f546f3782f200df4cd57ea9d5c64db95e0edba40b5"), looks := true }, kinds := [], alts := [], laidByText := true, laidKinds := [.data, .data, .data, .sentinel, .sentinel, .listed, .data], laidTests := true, laidLooks := .later }
def ParserResynchronizesCardSaid : Prop := Claim7.holds Tryz.pinned (.plain (OpenSpec.ofChange parserResynchronizesSpec)) parserResynchronizesCard

/-- THE TIED CARD OF 'glossatorkeep1.ParserTrivia'. -/
def parserTriviaCard : Claim7 := { stood := { row := parserTriviaRow, standIns := [], harness := (true, "f99df0617b2f8764300c23f546f3782f200df4cd57ea9d5c64db95e0edba40b5"), looks := true }, kinds := [], alts := [], laidByText := true, laidKinds := [.data, .data, .data, .sentinel, .sentinel, .listed, .data], laidTests := true, laidLooks := .later }
def ParserTriviaCardSaid : Prop := Claim7.holds Tryz.pinned (.plain (OpenSpec.ofChange parserTriviaSpec)) parserTriviaCard

/-- THE TIED CARD OF 'glossatorkeep1.AstParsePrint'. -/
def astParsePrintCard : Claim7 := { stood := { row := astParsePrintRow, standIns := [], harness := (true, "f99df0617b2f8764300c23f546f3782f200df4cd57ea9d5c64db95e0edba40b5"), looks := true }, kinds := [], alts := [], laidByText := true, laidKinds := [.data, .data, .data, .sentinel, .sentinel, .listed, .data], laidTests := true, laidLooks := .later }
def AstParsePrintCardSaid : Prop := Claim7.holds Tryz.pinned (.plain (OpenSpec.ofChange astParsePrintSpec)) astParsePrintCard

/-- THE TIED CARD OF 'glossatorkeep1.AstLayout'. -/
def astLayoutCard : Claim7 := { stood := { row := astLayoutRow, standIns := [], harness := (true, "f99df0617b2f8764300c23f546f3782f200df4cd57ea9d5c64db95e0edba40b5"), looks := true }, kinds := [], alts := [], laidByText := true, laidKinds := [.data, .data, .data, .sentinel, .sentinel, .listed, .data], laidTests := true, laidLooks := .later }
def AstLayoutCardSaid : Prop := Claim7.holds Tryz.pinned (.plain (OpenSpec.ofChange astLayoutSpec)) astLayoutCard

/-- THE TIED CARD OF 'glossatorkeep1.AstRanges'. -/
def astRangesCard : Claim7 := { stood := { row := astRangesRow, standIns := [], harness := (true, "f99df0617b2f8764300c23f546f3782f200df4cd57ea9d5c64db95e0edba40b5"), looks := true }, kinds := [], alts := [], laidByText := true, laidKinds := [.data, .data, .data, .sentinel, .sentinel, .listed, .data], laidTests := true, laidLooks := .later }
def AstRangesCardSaid : Prop := Claim7.holds Tryz.pinned (.plain (OpenSpec.ofChange astRangesSpec)) astRangesCard

/-- THE TIED CARD OF 'glossatorkeep1.AstQuote'. -/
def astQuoteCard : Claim7 := { stood := { row := astQuoteRow, standIns := [], harness := (true, "f99df0617b2f8764300c23f546f3782f200df4cd57ea9d5c64db95e0edba40b5"), looks := true }, kinds := [], alts := [], laidByText := true, laidKinds := [.data, .data, .data, .sentinel, .sentinel, .listed, .data], laidTests := true, laidLooks := .later }
def AstQuoteCardSaid : Prop := Claim7.holds Tryz.pinned (.plain (OpenSpec.ofChange astQuoteSpec)) astQuoteCard

/-- THE TIED CARD OF 'glossatorkeep1.AstPrintRoundTrip'. -/
def astPrintRoundTripCard : Claim7 := { stood := { row := astPrintRoundTripRow, standIns := [], harness := (true, "f99df0617b2f8764300c23f546f3782f200df4cd57ea9d5c64db95e0edba40b5"), looks := true }, kinds := [], alts := [], laidByText := true, laidKinds := [.data, .data, .data, .sentinel, .sentinel, .listed, .data], laidTests := true, laidLooks := .later }
def AstPrintRoundTripCardSaid : Prop := Claim7.holds Tryz.pinned (.plain (OpenSpec.ofChange astPrintRoundTripSpec)) astPrintRoundTripCard

/-- THE TIED CARD OF 'glossatorkeep1.AstStrip'. -/
def astStripCard : Claim7 := { stood := { row := astStripRow, standIns := [], harness := (true, "f99df0617b2f8764300c23f546f3782f200df4cd57ea9d5c64db95e0edba40b5"), looks := true }, kinds := [], alts := [], laidByText := true, laidKinds := [.data, .data, .data, .sentinel, .sentinel, .listed, .data], laidTests := true, laidLooks := .later }
def AstStripCardSaid : Prop := Claim7.holds Tryz.pinned (.plain (OpenSpec.ofChange astStripSpec)) astStripCard

/-- THE TIED CARD OF 'glossatorkeep1.AstPath'. -/
def astPathCard : Claim7 := { stood := { row := astPathRow, standIns := [], harness := (true, "f99df0617b2f8764300c23f546f3782f200df4cd57ea9d5c64db95e0edba40b5"), looks := true }, kinds := [], alts := [], laidByText := true, laidKinds := [.data, .data, .data, .sentinel, .sentinel, .listed, .data], laidTests := true, laidLooks := .later }
def AstPathCardSaid : Prop := Claim7.holds Tryz.pinned (.plain (OpenSpec.ofChange astPathSpec)) astPathCard

/-- THE SECOND FORM's CARD OF 'glossatorkeep1.ParserResynchronizes'. -/
def parserResynchronizesUptoCard : Claim7 := { stood := { row := parserResynchronizesUptoRow, standIns := [], harness := (true, "f99df0617b2f8764300c23f546f3782f200df4cd57ea9d5c64db95e0edba40b5"), looks := true }, kinds := [], alts := [], laidByText := true, laidKinds := [.data, .data, .data, .sentinel, .sentinel, .listed, .data], laidTests := true, laidLooks := .later }
def ParserResynchronizesUptoCardSaid : Prop := Claim7.holds Tryz.pinned (.plain (OpenSpec.upto parserResynchronizesSpec)) parserResynchronizesUptoCard

/-- THE SECOND FORM's CARD OF 'glossatorkeep1.ParserTrivia'. -/
def parserTriviaUptoCard : Claim7 := { stood := { row := parserTriviaUptoRow, standIns := [], harness := (true, "f99df0617b2f8764300c23f546f3782f200df4cd57ea9d5c64db95e0edba40b5"), looks := true }, kinds := [], alts := [], laidByText := true, laidKinds := [.data, .data, .data, .sentinel, .sentinel, .listed, .data], laidTests := true, laidLooks := .later }
def ParserTriviaUptoCardSaid : Prop := Claim7.holds Tryz.pinned (.plain (OpenSpec.upto parserTriviaSpec)) parserTriviaUptoCard

/-- THE SECOND FORM's CARD OF 'glossatorkeep1.AstParsePrint'. -/
def astParsePrintUptoCard : Claim7 := { stood := { row := astParsePrintUptoRow, standIns := [], harness := (true, "f99df0617b2f8764300c23f546f3782f200df4cd57ea9d5c64db95e0edba40b5"), looks := true }, kinds := [], alts := [], laidByText := true, laidKinds := [.data, .data, .data, .sentinel, .sentinel, .listed, .data], laidTests := true, laidLooks := .later }
def AstParsePrintUptoCardSaid : Prop := Claim7.holds Tryz.pinned (.plain (OpenSpec.upto astParsePrintSpec)) astParsePrintUptoCard

/-- THE SECOND FORM's CARD OF 'glossatorkeep1.AstLayout'. -/
def astLayoutUptoCard : Claim7 := { stood := { row := astLayoutUptoRow, standIns := [], harness := (true, "f99df0617b2f8764300c23f546f3782f200df4cd57ea9d5c64db95e0edba40b5"), looks := true }, kinds := [], alts := [], laidByText := true, laidKinds := [.data, .data, .data, .sentinel, .sentinel, .listed, .data], laidTests := true, laidLooks := .later }
def AstLayoutUptoCardSaid : Prop := Claim7.holds Tryz.pinned (.plain (OpenSpec.upto astLayoutSpec)) astLayoutUptoCard

/-- THE SECOND FORM's CARD OF 'glossatorkeep1.AstRanges'. -/
def astRangesUptoCard : Claim7 := { stood := { row := astRangesUptoRow, standIns := [], harness := (true, "f99df0617b2f8764300c23f546f3782f200df4cd57ea9d5c64db95e0edba40b5"), looks := true }, kinds := [], alts := [], laidByText := true, laidKinds := [.data, .data, .data, .sentinel, .sentinel, .listed, .data], laidTests := true, laidLooks := .later }
def AstRangesUptoCardSaid : Prop := Claim7.holds Tryz.pinned (.plain (OpenSpec.upto astRangesSpec)) astRangesUptoCard

/-- THE SECOND FORM's CARD OF 'glossatorkeep1.AstQuote'. -/
def astQuoteUptoCard : Claim7 := { stood := { row := astQuoteUptoRow, standIns := [], harness := (true, "f99df0617b2f8764300c23f546f3782f200df4cd57ea9d5c64db95e0edba40b5"), looks := true }, kinds := [], alts := [], laidByText := true, laidKinds := [.data, .data, .data, .sentinel, .sentinel, .listed, .data], laidTests := true, laidLooks := .later }
def AstQuoteUptoCardSaid : Prop := Claim7.holds Tryz.pinned (.plain (OpenSpec.upto astQuoteSpec)) astQuoteUptoCard

/-- THE SECOND FORM's CARD OF 'glossatorkeep1.AstPrintRoundTrip'. -/
def astPrintRoundTripUptoCard : Claim7 := { stood := { row := astPrintRoundTripUptoRow, standIns := [], harness := (true, "f99df0617b2f8764300c23f546f3782f200df4cd57ea9d5c64db95e0edba40b5"), looks := true }, kinds := [], alts := [], laidByText := true, laidKinds := [.data, .data, .data, .sentinel, .sentinel, .listed, .data], laidTests := true, laidLooks := .later }
def AstPrintRoundTripUptoCardSaid : Prop := Claim7.holds Tryz.pinned (.plain (OpenSpec.upto astPrintRoundTripSpec)) astPrintRoundTripUptoCard

/-- THE SECOND FORM's CARD OF 'glossatorkeep1.AstStrip'. -/
def astStripUptoCard : Claim7 := { stood := { row := astStripUptoRow, standIns := [], harness := (true, "f99df0617b2f8764300c23f546f3782f200df4cd57ea9d5c64db95e0edba40b5"), looks := true }, kinds := [], alts := [], laidByText := true, laidKinds := [.data, .data, .data, .sentinel, .sentinel, .listed, .data], laidTests := true, laidLooks := .later }
def AstStripUptoCardSaid : Prop := Claim7.holds Tryz.pinned (.plain (OpenSpec.upto astStripSpec)) astStripUptoCard

/-- THE SECOND FORM's CARD OF 'glossatorkeep1.AstPath'. -/
def astPathUptoCard : Claim7 := { stood := { row := astPathUptoRow, standIns := [], harness := (true, "f99df0617b2f8764300c23f546f3782f200df4cd57ea9d5c64db95e0edba40b5"), looks := true }, kinds := [], alts := [], laidByText := true, laidKinds := [.data, .data, .data, .sentinel, .sentinel, .listed, .data], laidTests := true, laidLooks := .later }
def AstPathUptoCardSaid : Prop := Claim7.holds Tryz.pinned (.plain (OpenSpec.upto astPathSpec)) astPathUptoCard
end Rows
end Go.Proofs.YtnhnmigafkodfaaGreatDoor

/-
  DERIVED. GIVEN WITH THE SEED: THE CARDS: each row of YtndfoijecakkfaaGreatDoorRows.lean that lists a variable, with what it lists TIED to the program's text (the seventh form; the later family's looks); each row that meets fmt, with fmt's text TOLD by the authors' own Lean function (tested against real Go, not proved from fmt's source: count such statements apart). THE CARD IS WHAT COUNTS. Prove the row's statement (the work); the ties are given (YtndfoijecakkfaaGreatDoorTie.lean); close each card by the builder's one call (the guide's Derived/Test/ToyasCard.lean, 'card_holds'). Laid BY PROGRAM, IN A SANDBOX (cutbox-door.mjs). By AI agents, Wed Nov 11 2026. No macro, syntax, notation, axiom, sorry.
-/
import Derived.Test.YtndfoijecakkfaaGreatDoorRows
import GoSem.ClaimSeven
namespace Go.Proofs.YtndfoijecakkfaaGreatDoor
namespace Rows

/-- THE TIED CARD OF 'glossatorkeep1.SymbolsModules'. -/
def symbolsModulesCard : Claim7 := { stood := { row := symbolsModulesRow, standIns := [], harness := (true, "e55228c8d796d6dcb1324be3f384caca7f3fe620c343af9fb33ab5252cf5aef6"), looks := true }, kinds := [], alts := [], laidByText := true, laidKinds := [.data, .data, .data, .sentinel, .sentinel, .listed, .data], laidTests := true, laidLooks := .later }
def SymbolsModulesCardSaid : Prop := Claim7.holds Tryz.pinned (.plain (OpenSpec.ofChange symbolsModulesSpec)) symbolsModulesCard

/-- THE TIED CARD OF 'glossatorkeep1.SymbolsFind'. -/
def symbolsFindCard : Claim7 := { stood := { row := symbolsFindRow, standIns := [], harness := (true, "e55228c8d796d6dcb1324be3f384caca7f3fe620c343af9fb33ab5252cf5aef6"), looks := true }, kinds := [], alts := [], laidByText := true, laidKinds := [.data, .data, .data, .sentinel, .sentinel, .listed, .data], laidTests := true, laidLooks := .later }
def SymbolsFindCardSaid : Prop := Claim7.holds Tryz.pinned (.plain (OpenSpec.ofChange symbolsFindSpec)) symbolsFindCard

/-- THE TIED CARD OF 'glossatorkeep1.SymbolsTree'. -/
def symbolsTreeCard : Claim7 := { stood := { row := symbolsTreeRow, standIns := [], harness := (true, "e55228c8d796d6dcb1324be3f384caca7f3fe620c343af9fb33ab5252cf5aef6"), looks := true }, kinds := [], alts := [], laidByText := true, laidKinds := [.data, .data, .data, .sentinel, .sentinel, .listed, .data], laidTests := true, laidLooks := .later }
def SymbolsTreeCardSaid : Prop := Claim7.holds Tryz.pinned (.plain (OpenSpec.ofChange symbolsTreeSpec)) symbolsTreeCard

/-- THE TIED CARD OF 'glossatorkeep1.ExportsOrder'. -/
def exportsOrderCard : Claim7 := { stood := { row := exportsOrderRow, standIns := [], harness := (true, "e55228c8d796d6dcb1324be3f384caca7f3fe620c343af9fb33ab5252cf5aef6"), looks := true }, kinds := [], alts := [], laidByText := true, laidKinds := [.data, .data, .data, .sentinel, .sentinel, .listed, .data], laidTests := true, laidLooks := .later }
def ExportsOrderCardSaid : Prop := Claim7.holds Tryz.pinned (.plain (OpenSpec.ofChange exportsOrderSpec)) exportsOrderCard

/-- THE TIED CARD OF 'glossatorkeep1.ExportsDeclarations'. -/
def exportsDeclarationsCard : Claim7 := { stood := { row := exportsDeclarationsRow, standIns := [], harness := (true, "e55228c8d796d6dcb1324be3f384caca7f3fe620c343af9fb33ab5252cf5aef6"), looks := true }, kinds := [], alts := [], laidByText := true, laidKinds := [.data, .data, .data, .sentinel, .sentinel, .listed, .data], laidTests := true, laidLooks := .later }
def ExportsDeclarationsCardSaid : Prop := Claim7.holds Tryz.pinned (.plain (OpenSpec.ofChange exportsDeclarationsSpec)) exportsDeclarationsCard

/-- THE SECOND FORM's CARD OF 'glossatorkeep1.SymbolsModules'. -/
def symbolsModulesUptoCard : Claim7 := { stood := { row := symbolsModulesUptoRow, standIns := [], harness := (true, "e55228c8d796d6dcb1324be3f384caca7f3fe620c343af9fb33ab5252cf5aef6"), looks := true }, kinds := [], alts := [], laidByText := true, laidKinds := [.data, .data, .data, .sentinel, .sentinel, .listed, .data], laidTests := true, laidLooks := .later }
def SymbolsModulesUptoCardSaid : Prop := Claim7.holds Tryz.pinned (.plain (OpenSpec.upto symbolsModulesSpec)) symbolsModulesUptoCard

/-- THE SECOND FORM's CARD OF 'glossatorkeep1.SymbolsFind'. -/
def symbolsFindUptoCard : Claim7 := { stood := { row := symbolsFindUptoRow, standIns := [], harness := (true, "e55228c8d796d6dcb1324be3f384caca7f3fe620c343af9fb33ab5252cf5aef6"), looks := true }, kinds := [], alts := [], laidByText := true, laidKinds := [.data, .data, .data, .sentinel, .sentinel, .listed, .data], laidTests := true, laidLooks := .later }
def SymbolsFindUptoCardSaid : Prop := Claim7.holds Tryz.pinned (.plain (OpenSpec.upto symbolsFindSpec)) symbolsFindUptoCard

/-- THE SECOND FORM's CARD OF 'glossatorkeep1.SymbolsTree'. -/
def symbolsTreeUptoCard : Claim7 := { stood := { row := symbolsTreeUptoRow, standIns := [], harness := (true, "e55228c8d796d6dcb1324be3f384caca7f3fe620c343af9fb33ab5252cf5aef6"), looks := true }, kinds := [], alts := [], laidByText := true, laidKinds := [.data, .data, .data, .sentinel, .sentinel, .listed, .data], laidTests := true, laidLooks := .later }
def SymbolsTreeUptoCardSaid : Prop := Claim7.holds Tryz.pinned (.plain (OpenSpec.upto symbolsTreeSpec)) symbolsTreeUptoCard

/-- THE SECOND FORM's CARD OF 'glossatorkeep1.ExportsOrder'. -/
def exportsOrderUptoCard : Claim7 := { stood := { row := exportsOrderUptoRow, standIns := [], harness := (true, "e55228c8d796d6dcb1324be3f384caca7f3fe620c343af9fb33ab5252cf5aef6"), looks := true }, kinds := [], alts := [], laidByText := true, laidKinds := [.data, .data, .data, .sentinel, .sentinel, .listed, .data], laidTests := true, laidLooks := .later }
def ExportsOrderUptoCardSaid : Prop := Claim7.holds Tryz.pinned (.plain (OpenSpec.upto exportsOrderSpec)) exportsOrderUptoCard

/-- THE SECOND FORM's CARD OF 'glossatorkeep1.ExportsDeclarations'. -/
def exportsDeclarationsUptoCard : Claim7 := { stood := { row := exportsDeclarationsUptoRow, standIns := [], harness := (true, "e55228c8d796d6dcb1324be3f384caca7f3fe620c343af9fb33ab5252cf5aef6"), looks := true }, kinds := [], alts := [], laidByText := true, laidKinds := [.data, .data, .data, .sentinel, .sentinel, .listed, .data], laidTests := true, laidLooks := .later }
def ExportsDeclarationsUptoCardSaid : Prop := Claim7.holds Tryz.pinned (.plain (OpenSpec.upto exportsDeclarationsSpec)) exportsDeclarationsUptoCard
end Rows
end Go.Proofs.YtndfoijecakkfaaGreatDoor

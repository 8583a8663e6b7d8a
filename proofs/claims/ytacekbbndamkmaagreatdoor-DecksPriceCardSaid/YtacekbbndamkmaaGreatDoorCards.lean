/-
  DERIVED. GIVEN WITH THE SEED: THE CARDS: each row of YtacekbbndamkmaaGreatDoorRows.lean that lists a variable, with what it lists TIED to the program's text (the seventh form; the later family's looks); each row that meets fmt, with fmt's text TOLD by the authors' own Lean function (tested against real Go, not proved from fmt's source: count such statements apart). THE CARD IS WHAT COUNTS. Prove the row's statement (the work); the ties are given (YtacekbbndamkmaaGreatDoorTie.lean); close each card by the builder's one call (the guide's Derived/Test/ToyasCard.lean, 'card_holds'). Laid BY PROGRAM, IN A SANDBOX (cutbox-door.mjs). By AI agents, Wed Nov 11 2026. No macro, syntax, notation, axiom, sorry.
-/
import Derived.Test.YtacekbbndamkmaaGreatDoorRows
import GoSem.ClaimSeven
namespace Go.Proofs.YtacekbbndamkmaaGreatDoor
namespace Rows

/-- THE TIED CARD OF 'flashlaw1.DecksCompared'. -/
def decksComparedCard : Claim7 := { stood := { row := decksComparedRow, standIns := [], harness := (true, "6912b0880332acce378699847d8084010e96c98b8422e3336b8cc182daaf2592"), looks := true }, kinds := [], alts := [], laidByText := true, laidKinds := [.data, .pinned], laidTests := true, laidLooks := .later }
def DecksComparedCardSaid : Prop := Claim7.holds Tryz.pinned (.plain (OpenSpec.ofChange decksComparedSpec)) decksComparedCard

/-- THE TIED CARD OF 'flashlaw1.DecksPrice'. -/
def decksPriceCard : Claim7 := { stood := { row := decksPriceRow, standIns := [], harness := (true, "6912b0880332acce378699847d8084010e96c98b8422e3336b8cc182daaf2592"), looks := true }, kinds := [], alts := [], laidByText := true, laidKinds := [.data, .data, .data, .data, .sentinel, .sentinel, .pinned], laidTests := true, laidLooks := .later }
def DecksPriceCardSaid : Prop := Claim7.holds Tryz.pinned (.plain (OpenSpec.ofChange decksPriceSpec)) decksPriceCard

/-- THE SECOND FORM's CARD OF 'flashlaw1.DecksCompared'. -/
def decksComparedUptoCard : Claim7 := { stood := { row := decksComparedUptoRow, standIns := [], harness := (true, "6912b0880332acce378699847d8084010e96c98b8422e3336b8cc182daaf2592"), looks := true }, kinds := [], alts := [], laidByText := true, laidKinds := [.data, .pinned], laidTests := true, laidLooks := .later }
def DecksComparedUptoCardSaid : Prop := Claim7.holds Tryz.pinned (.plain (OpenSpec.upto decksComparedSpec)) decksComparedUptoCard

/-- THE SECOND FORM's CARD OF 'flashlaw1.DecksPrice'. -/
def decksPriceUptoCard : Claim7 := { stood := { row := decksPriceUptoRow, standIns := [], harness := (true, "6912b0880332acce378699847d8084010e96c98b8422e3336b8cc182daaf2592"), looks := true }, kinds := [], alts := [], laidByText := true, laidKinds := [.data, .data, .data, .data, .sentinel, .sentinel, .pinned], laidTests := true, laidLooks := .later }
def DecksPriceUptoCardSaid : Prop := Claim7.holds Tryz.pinned (.plain (OpenSpec.upto decksPriceSpec)) decksPriceUptoCard
end Rows
end Go.Proofs.YtacekbbndamkmaaGreatDoor

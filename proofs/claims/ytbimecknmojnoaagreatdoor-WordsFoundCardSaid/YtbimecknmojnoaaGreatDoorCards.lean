/-
  DERIVED. GIVEN WITH THE SEED: THE CARDS: each row of YtbimecknmojnoaaGreatDoorRows.lean that lists a variable, with what it lists TIED to the program's text (the seventh form; the later family's looks); each row that meets fmt, with fmt's text TOLD by the authors' own Lean function (tested against real Go, not proved from fmt's source: count such statements apart). THE CARD IS WHAT COUNTS. Prove the row's statement (the work); the ties are given (YtbimecknmojnoaaGreatDoorTie.lean); close each card by the builder's one call (the guide's Derived/Test/ToyasCard.lean, 'card_holds'). Laid BY PROGRAM, IN A SANDBOX (cutbox-door.mjs). By AI agents, Wed Nov 11 2026. No macro, syntax, notation, axiom, sorry.
-/
import Derived.Test.YtbimecknmojnoaaGreatDoorRows
import GoSem.ClaimSeven
namespace Go.Proofs.YtbimecknmojnoaaGreatDoor
namespace Rows

/-- THE TIED CARD OF 'flashlaw1.WordsFound'. -/
def wordsFoundCard : Claim7 := { stood := { row := wordsFoundRow, standIns := [], harness := (true, "56ee9d8987518a57fc261b01053c60f640630e72716d8f4688f46c7bca560ddf"), looks := true }, kinds := [], alts := [], laidByText := true, laidKinds := [.data, .data, .data, .data, .sentinel, .sentinel, .pinned], laidTests := true, laidLooks := .later }
def WordsFoundCardSaid : Prop := Claim7.holds Tryz.pinned (.plain (OpenSpec.ofChange wordsFoundSpec)) wordsFoundCard

/-- THE TIED CARD OF 'flashlaw1.SharesTurn'. -/
def sharesTurnCard : Claim7 := { stood := { row := sharesTurnRow, standIns := [], harness := (true, "56ee9d8987518a57fc261b01053c60f640630e72716d8f4688f46c7bca560ddf"), looks := true }, kinds := [], alts := [], laidByText := true, laidKinds := [.data, .data, .data, .data, .pinned], laidTests := true, laidLooks := .later }
def SharesTurnCardSaid : Prop := Claim7.holds Tryz.pinned (.plain (OpenSpec.ofChange sharesTurnSpec)) sharesTurnCard

/-- THE TIED CARD OF 'flashlaw1.SlipsMade'. -/
def slipsMadeCard : Claim7 := { stood := { row := slipsMadeRow, standIns := [], harness := (true, "56ee9d8987518a57fc261b01053c60f640630e72716d8f4688f46c7bca560ddf"), looks := true }, kinds := [], alts := [], laidByText := true, laidKinds := [.data, .data, .data, .data, .sentinel, .sentinel, .pinned], laidTests := true, laidLooks := .later }
def SlipsMadeCardSaid : Prop := Claim7.holds Tryz.pinned (.plain (OpenSpec.ofChange slipsMadeSpec)) slipsMadeCard

/-- THE TIED CARD OF 'flashlaw1.NumbersMove'. -/
def numbersMoveCard : Claim7 := { stood := { row := numbersMoveRow, standIns := [], harness := (true, "56ee9d8987518a57fc261b01053c60f640630e72716d8f4688f46c7bca560ddf"), looks := true }, kinds := [], alts := [], laidByText := true, laidKinds := [.data, .data, .data, .data, .sentinel, .sentinel, .pinned], laidTests := true, laidLooks := .later }
def NumbersMoveCardSaid : Prop := Claim7.holds Tryz.pinned (.plain (OpenSpec.ofChange numbersMoveSpec)) numbersMoveCard

/-- THE TIED CARD OF 'flashlaw1.DecksCompared'. -/
def decksComparedCard : Claim7 := { stood := { row := decksComparedRow, standIns := [], harness := (true, "56ee9d8987518a57fc261b01053c60f640630e72716d8f4688f46c7bca560ddf"), looks := true }, kinds := [], alts := [], laidByText := true, laidKinds := [.data, .pinned], laidTests := true, laidLooks := .later }
def DecksComparedCardSaid : Prop := Claim7.holds Tryz.pinned (.plain (OpenSpec.ofChange decksComparedSpec)) decksComparedCard

/-- THE SECOND FORM's CARD OF 'flashlaw1.WordsFound'. -/
def wordsFoundUptoCard : Claim7 := { stood := { row := wordsFoundUptoRow, standIns := [], harness := (true, "56ee9d8987518a57fc261b01053c60f640630e72716d8f4688f46c7bca560ddf"), looks := true }, kinds := [], alts := [], laidByText := true, laidKinds := [.data, .data, .data, .data, .sentinel, .sentinel, .pinned], laidTests := true, laidLooks := .later }
def WordsFoundUptoCardSaid : Prop := Claim7.holds Tryz.pinned (.plain (OpenSpec.upto wordsFoundSpec)) wordsFoundUptoCard

/-- THE SECOND FORM's CARD OF 'flashlaw1.SharesTurn'. -/
def sharesTurnUptoCard : Claim7 := { stood := { row := sharesTurnUptoRow, standIns := [], harness := (true, "56ee9d8987518a57fc261b01053c60f640630e72716d8f4688f46c7bca560ddf"), looks := true }, kinds := [], alts := [], laidByText := true, laidKinds := [.data, .data, .data, .data, .pinned], laidTests := true, laidLooks := .later }
def SharesTurnUptoCardSaid : Prop := Claim7.holds Tryz.pinned (.plain (OpenSpec.upto sharesTurnSpec)) sharesTurnUptoCard

/-- THE SECOND FORM's CARD OF 'flashlaw1.SlipsMade'. -/
def slipsMadeUptoCard : Claim7 := { stood := { row := slipsMadeUptoRow, standIns := [], harness := (true, "56ee9d8987518a57fc261b01053c60f640630e72716d8f4688f46c7bca560ddf"), looks := true }, kinds := [], alts := [], laidByText := true, laidKinds := [.data, .data, .data, .data, .sentinel, .sentinel, .pinned], laidTests := true, laidLooks := .later }
def SlipsMadeUptoCardSaid : Prop := Claim7.holds Tryz.pinned (.plain (OpenSpec.upto slipsMadeSpec)) slipsMadeUptoCard

/-- THE SECOND FORM's CARD OF 'flashlaw1.NumbersMove'. -/
def numbersMoveUptoCard : Claim7 := { stood := { row := numbersMoveUptoRow, standIns := [], harness := (true, "56ee9d8987518a57fc261b01053c60f640630e72716d8f4688f46c7bca560ddf"), looks := true }, kinds := [], alts := [], laidByText := true, laidKinds := [.data, .data, .data, .data, .sentinel, .sentinel, .pinned], laidTests := true, laidLooks := .later }
def NumbersMoveUptoCardSaid : Prop := Claim7.holds Tryz.pinned (.plain (OpenSpec.upto numbersMoveSpec)) numbersMoveUptoCard

/-- THE SECOND FORM's CARD OF 'flashlaw1.DecksCompared'. -/
def decksComparedUptoCard : Claim7 := { stood := { row := decksComparedUptoRow, standIns := [], harness := (true, "56ee9d8987518a57fc261b01053c60f640630e72716d8f4688f46c7bca560ddf"), looks := true }, kinds := [], alts := [], laidByText := true, laidKinds := [.data, .pinned], laidTests := true, laidLooks := .later }
def DecksComparedUptoCardSaid : Prop := Claim7.holds Tryz.pinned (.plain (OpenSpec.upto decksComparedSpec)) decksComparedUptoCard
end Rows
end Go.Proofs.YtbimecknmojnoaaGreatDoor

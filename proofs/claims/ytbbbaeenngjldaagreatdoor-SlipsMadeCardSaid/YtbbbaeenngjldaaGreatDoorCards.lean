/-
  DERIVED. GIVEN WITH THE SEED: THE CARDS: each row of YtbbbaeenngjldaaGreatDoorRows.lean that lists a variable, with what it lists TIED to the program's text (the seventh form; the later family's looks); each row that meets fmt, with fmt's text TOLD by the authors' own Lean function (tested against real Go, not proved from fmt's source: count such statements apart). THE CARD IS WHAT COUNTS. Prove the row's statement (the work); the ties are given (YtbbbaeenngjldaaGreatDoorTie.lean); close each card by the builder's one call (the guide's Derived/Test/ToyasCard.lean, 'card_holds'). Laid BY PROGRAM, IN A SANDBOX (cutbox-door.mjs). By AI agents, Wed Nov 11 2026. No macro, syntax, notation, axiom, sorry.
-/
import Derived.Test.YtbbbaeenngjldaaGreatDoorRows
import GoSem.ClaimSeven
namespace Go.Proofs.YtbbbaeenngjldaaGreatDoor
namespace Rows

/-- THE TIED CARD OF 'flashlaw1.SlipsMade'. -/
def slipsMadeCard : Claim7 := { stood := { row := slipsMadeRow, standIns := [], harness := (true, "38ece2edbba565709bcc50828694b6ee56f87a855fa0823216b6a2cb85a2156e"), looks := true }, kinds := [], alts := [], laidByText := true, laidKinds := [.data, .data, .data, .data, .sentinel, .sentinel, .pinned], laidTests := true, laidLooks := .later }
def SlipsMadeCardSaid : Prop := Claim7.holds Tryz.pinned (.plain (OpenSpec.ofChange slipsMadeSpec)) slipsMadeCard

/-- THE TIED CARD OF 'flashlaw1.NumbersMove'. -/
def numbersMoveCard : Claim7 := { stood := { row := numbersMoveRow, standIns := [], harness := (true, "38ece2edbba565709bcc50828694b6ee56f87a855fa0823216b6a2cb85a2156e"), looks := true }, kinds := [], alts := [], laidByText := true, laidKinds := [.data, .data, .data, .data, .sentinel, .sentinel, .pinned], laidTests := true, laidLooks := .later }
def NumbersMoveCardSaid : Prop := Claim7.holds Tryz.pinned (.plain (OpenSpec.ofChange numbersMoveSpec)) numbersMoveCard

/-- THE TIED CARD OF 'flashlaw1.SharesTurn'. -/
def sharesTurnCard : Claim7 := { stood := { row := sharesTurnRow, standIns := [], harness := (true, "38ece2edbba565709bcc50828694b6ee56f87a855fa0823216b6a2cb85a2156e"), looks := true }, kinds := [], alts := [], laidByText := true, laidKinds := [.data, .data, .data, .data, .pinned], laidTests := true, laidLooks := .later }
def SharesTurnCardSaid : Prop := Claim7.holds Tryz.pinned (.plain (OpenSpec.ofChange sharesTurnSpec)) sharesTurnCard

/-- THE TIED CARD OF 'flashlaw1.DecksCompared'. -/
def decksComparedCard : Claim7 := { stood := { row := decksComparedRow, standIns := [], harness := (true, "38ece2edbba565709bcc50828694b6ee56f87a855fa0823216b6a2cb85a2156e"), looks := true }, kinds := [], alts := [], laidByText := true, laidKinds := [.data, .pinned], laidTests := true, laidLooks := .later }
def DecksComparedCardSaid : Prop := Claim7.holds Tryz.pinned (.plain (OpenSpec.ofChange decksComparedSpec)) decksComparedCard

/-- THE TIED CARD OF 'flashlaw1.CallsFollowed'. -/
def callsFollowedCard : Claim7 := { stood := { row := callsFollowedRow, standIns := [], harness := (true, "38ece2edbba565709bcc50828694b6ee56f87a855fa0823216b6a2cb85a2156e"), looks := true }, kinds := [], alts := [], laidByText := true, laidKinds := [.data, .pinned], laidTests := true, laidLooks := .later }
def CallsFollowedCardSaid : Prop := Claim7.holds Tryz.pinned (.plain (OpenSpec.ofChange callsFollowedSpec)) callsFollowedCard

/-- THE TIED CARD OF 'flashkeep2.EachSecondOnce'. -/
def eachSecondOnceCard : Claim7 := { stood := { row := eachSecondOnceRow, standIns := [], harness := (true, "38ece2edbba565709bcc50828694b6ee56f87a855fa0823216b6a2cb85a2156e"), looks := true }, kinds := [], alts := [], laidByText := true, laidKinds := [.data, .data, .pinned], laidTests := true, laidLooks := .later }
def EachSecondOnceCardSaid : Prop := Claim7.holds Tryz.pinned (.plain (OpenSpec.ofChange eachSecondOnceSpec)) eachSecondOnceCard

/-- THE TIED CARD OF 'flashkeep2.BlocksStop'. -/
def blocksStopCard : Claim7 := { stood := { row := blocksStopRow, standIns := [], harness := (true, "38ece2edbba565709bcc50828694b6ee56f87a855fa0823216b6a2cb85a2156e"), looks := true }, kinds := [], alts := [], laidByText := true, laidKinds := [.data, .data, .pinned], laidTests := true, laidLooks := .later }
def BlocksStopCardSaid : Prop := Claim7.holds Tryz.pinned (.plain (OpenSpec.ofChange blocksStopSpec)) blocksStopCard

/-- THE SECOND FORM's CARD OF 'flashlaw1.SlipsMade'. -/
def slipsMadeUptoCard : Claim7 := { stood := { row := slipsMadeUptoRow, standIns := [], harness := (true, "38ece2edbba565709bcc50828694b6ee56f87a855fa0823216b6a2cb85a2156e"), looks := true }, kinds := [], alts := [], laidByText := true, laidKinds := [.data, .data, .data, .data, .sentinel, .sentinel, .pinned], laidTests := true, laidLooks := .later }
def SlipsMadeUptoCardSaid : Prop := Claim7.holds Tryz.pinned (.plain (OpenSpec.upto slipsMadeSpec)) slipsMadeUptoCard

/-- THE SECOND FORM's CARD OF 'flashlaw1.NumbersMove'. -/
def numbersMoveUptoCard : Claim7 := { stood := { row := numbersMoveUptoRow, standIns := [], harness := (true, "38ece2edbba565709bcc50828694b6ee56f87a855fa0823216b6a2cb85a2156e"), looks := true }, kinds := [], alts := [], laidByText := true, laidKinds := [.data, .data, .data, .data, .sentinel, .sentinel, .pinned], laidTests := true, laidLooks := .later }
def NumbersMoveUptoCardSaid : Prop := Claim7.holds Tryz.pinned (.plain (OpenSpec.upto numbersMoveSpec)) numbersMoveUptoCard

/-- THE SECOND FORM's CARD OF 'flashlaw1.SharesTurn'. -/
def sharesTurnUptoCard : Claim7 := { stood := { row := sharesTurnUptoRow, standIns := [], harness := (true, "38ece2edbba565709bcc50828694b6ee56f87a855fa0823216b6a2cb85a2156e"), looks := true }, kinds := [], alts := [], laidByText := true, laidKinds := [.data, .data, .data, .data, .pinned], laidTests := true, laidLooks := .later }
def SharesTurnUptoCardSaid : Prop := Claim7.holds Tryz.pinned (.plain (OpenSpec.upto sharesTurnSpec)) sharesTurnUptoCard

/-- THE SECOND FORM's CARD OF 'flashlaw1.DecksCompared'. -/
def decksComparedUptoCard : Claim7 := { stood := { row := decksComparedUptoRow, standIns := [], harness := (true, "38ece2edbba565709bcc50828694b6ee56f87a855fa0823216b6a2cb85a2156e"), looks := true }, kinds := [], alts := [], laidByText := true, laidKinds := [.data, .pinned], laidTests := true, laidLooks := .later }
def DecksComparedUptoCardSaid : Prop := Claim7.holds Tryz.pinned (.plain (OpenSpec.upto decksComparedSpec)) decksComparedUptoCard

/-- THE SECOND FORM's CARD OF 'flashlaw1.CallsFollowed'. -/
def callsFollowedUptoCard : Claim7 := { stood := { row := callsFollowedUptoRow, standIns := [], harness := (true, "38ece2edbba565709bcc50828694b6ee56f87a855fa0823216b6a2cb85a2156e"), looks := true }, kinds := [], alts := [], laidByText := true, laidKinds := [.data, .pinned], laidTests := true, laidLooks := .later }
def CallsFollowedUptoCardSaid : Prop := Claim7.holds Tryz.pinned (.plain (OpenSpec.upto callsFollowedSpec)) callsFollowedUptoCard

/-- THE SECOND FORM's CARD OF 'flashkeep2.EachSecondOnce'. -/
def eachSecondOnceUptoCard : Claim7 := { stood := { row := eachSecondOnceUptoRow, standIns := [], harness := (true, "38ece2edbba565709bcc50828694b6ee56f87a855fa0823216b6a2cb85a2156e"), looks := true }, kinds := [], alts := [], laidByText := true, laidKinds := [.data, .data, .pinned], laidTests := true, laidLooks := .later }
def EachSecondOnceUptoCardSaid : Prop := Claim7.holds Tryz.pinned (.plain (OpenSpec.upto eachSecondOnceSpec)) eachSecondOnceUptoCard

/-- THE SECOND FORM's CARD OF 'flashkeep2.BlocksStop'. -/
def blocksStopUptoCard : Claim7 := { stood := { row := blocksStopUptoRow, standIns := [], harness := (true, "38ece2edbba565709bcc50828694b6ee56f87a855fa0823216b6a2cb85a2156e"), looks := true }, kinds := [], alts := [], laidByText := true, laidKinds := [.data, .data, .pinned], laidTests := true, laidLooks := .later }
def BlocksStopUptoCardSaid : Prop := Claim7.holds Tryz.pinned (.plain (OpenSpec.upto blocksStopSpec)) blocksStopUptoCard
end Rows
end Go.Proofs.YtbbbaeenngjldaaGreatDoor

/-
  DERIVED. GIVEN WITH THE SEED: THE CARDS: each row of YtmbimfmalijjpaaGreatDoorRows.lean that lists a variable, with what it lists TIED to the program's text (the seventh form; the later family's looks); each row that meets fmt, with fmt's text TOLD by the authors' own Lean function (tested against real Go, not proved from fmt's source: count such statements apart). THE CARD IS WHAT COUNTS. Prove the row's statement (the work); the ties are given (YtmbimfmalijjpaaGreatDoorTie.lean); close each card by the builder's one call (the guide's Derived/Test/ToyasCard.lean, 'card_holds'). Laid BY PROGRAM, IN A SANDBOX (cutbox-door.mjs). By AI agents, Wed Nov 11 2026. No macro, syntax, notation, axiom, sorry.
-/
import Derived.Test.YtmbimfmalijjpaaGreatDoorRows
import GoSem.ClaimSeven
namespace Go.Proofs.YtmbimfmalijjpaaGreatDoor
namespace Rows

/-- THE TIED CARD OF 'flashlaw1.NumbersMove'. -/
def numbersMoveCard : Claim7 := { stood := { row := numbersMoveRow, standIns := [], harness := (true, "18bb9cc51161d9b091b6971562c0d6de1548c2e25348322a329d6b6be54d34eb"), looks := true }, kinds := [], alts := [], laidByText := true, laidKinds := [.data, .data, .data, .data, .sentinel, .sentinel, .pinned], laidTests := true, laidLooks := .later }
def NumbersMoveCardSaid : Prop := Claim7.holds Tryz.pinned (.plain (OpenSpec.ofChange numbersMoveSpec)) numbersMoveCard

/-- THE TIED CARD OF 'flashlaw1.RangesCombined'. -/
def rangesCombinedCard : Claim7 := { stood := { row := rangesCombinedRow, standIns := [], harness := (true, "18bb9cc51161d9b091b6971562c0d6de1548c2e25348322a329d6b6be54d34eb"), looks := true }, kinds := [], alts := [], laidByText := true, laidKinds := [.data, .data, .data, .data, .sentinel, .sentinel, .pinned], laidTests := true, laidLooks := .later }
def RangesCombinedCardSaid : Prop := Claim7.holds Tryz.pinned (.plain (OpenSpec.ofChange rangesCombinedSpec)) rangesCombinedCard

/-- THE SECOND FORM's CARD OF 'flashlaw1.NumbersMove'. -/
def numbersMoveUptoCard : Claim7 := { stood := { row := numbersMoveUptoRow, standIns := [], harness := (true, "18bb9cc51161d9b091b6971562c0d6de1548c2e25348322a329d6b6be54d34eb"), looks := true }, kinds := [], alts := [], laidByText := true, laidKinds := [.data, .data, .data, .data, .sentinel, .sentinel, .pinned], laidTests := true, laidLooks := .later }
def NumbersMoveUptoCardSaid : Prop := Claim7.holds Tryz.pinned (.plain (OpenSpec.upto numbersMoveSpec)) numbersMoveUptoCard

/-- THE SECOND FORM's CARD OF 'flashlaw1.RangesCombined'. -/
def rangesCombinedUptoCard : Claim7 := { stood := { row := rangesCombinedUptoRow, standIns := [], harness := (true, "18bb9cc51161d9b091b6971562c0d6de1548c2e25348322a329d6b6be54d34eb"), looks := true }, kinds := [], alts := [], laidByText := true, laidKinds := [.data, .data, .data, .data, .sentinel, .sentinel, .pinned], laidTests := true, laidLooks := .later }
def RangesCombinedUptoCardSaid : Prop := Claim7.holds Tryz.pinned (.plain (OpenSpec.upto rangesCombinedSpec)) rangesCombinedUptoCard
end Rows
end Go.Proofs.YtmbimfmalijjpaaGreatDoor

/-
  DERIVED. GIVEN WITH THE SEED: THE CARDS: each row of YtleagenhnchjdaaGreatDoorRows.lean that lists a variable, with what it lists TIED to the program's text (the seventh form; the later family's looks); each row that meets fmt, with fmt's text TOLD by the authors' own Lean function (tested against real Go, not proved from fmt's source: count such statements apart). THE CARD IS WHAT COUNTS. Prove the row's statement (the work); the ties are given (YtleagenhnchjdaaGreatDoorTie.lean); close each card by the builder's one call (the guide's Derived/Test/ToyasCard.lean, 'card_holds'). Laid BY PROGRAM, IN A SANDBOX (cutbox-door.mjs). By AI agents, Wed Nov 11 2026. No macro, syntax, notation, axiom, sorry.
-/
import Derived.Test.YtleagenhnchjdaaGreatDoorRows
import GoSem.ClaimSeven
namespace Go.Proofs.YtleagenhnchjdaaGreatDoor
namespace Rows

/-- THE TIED CARD OF 'flashkeep2.EachSecondOnce'. -/
def eachSecondOnceCard : Claim7 := { stood := { row := eachSecondOnceRow, standIns := [], harness := (true, "386a8ef0338d4096b824b8fb8fbc0dc95b9232e1954789462cd7440532388268"), looks := true }, kinds := [], alts := [], laidByText := true, laidKinds := [.data, .data, .pinned], laidTests := true, laidLooks := .later }
def EachSecondOnceCardSaid : Prop := Claim7.holds Tryz.pinned (.plain (OpenSpec.ofChange eachSecondOnceSpec)) eachSecondOnceCard

/-- THE TIED CARD OF 'flashkeep2.BlocksStop'. -/
def blocksStopCard : Claim7 := { stood := { row := blocksStopRow, standIns := [], harness := (true, "386a8ef0338d4096b824b8fb8fbc0dc95b9232e1954789462cd7440532388268"), looks := true }, kinds := [], alts := [], laidByText := true, laidKinds := [.data, .data, .pinned], laidTests := true, laidLooks := .later }
def BlocksStopCardSaid : Prop := Claim7.holds Tryz.pinned (.plain (OpenSpec.ofChange blocksStopSpec)) blocksStopCard

/-- THE TIED CARD OF 'flashkeep2.RecordsAgree'. -/
def recordsAgreeCard : Claim7 := { stood := { row := recordsAgreeRow, standIns := [], harness := (true, "386a8ef0338d4096b824b8fb8fbc0dc95b9232e1954789462cd7440532388268"), looks := true }, kinds := [], alts := [], laidByText := true, laidKinds := [.data, .data, .data, .data, .sentinel, .sentinel, .pinned], laidTests := true, laidLooks := .later }
def RecordsAgreeCardSaid : Prop := Claim7.holds Tryz.pinned (.plain (OpenSpec.ofChange recordsAgreeSpec)) recordsAgreeCard

/-- THE SECOND FORM's CARD OF 'flashkeep2.EachSecondOnce'. -/
def eachSecondOnceUptoCard : Claim7 := { stood := { row := eachSecondOnceUptoRow, standIns := [], harness := (true, "386a8ef0338d4096b824b8fb8fbc0dc95b9232e1954789462cd7440532388268"), looks := true }, kinds := [], alts := [], laidByText := true, laidKinds := [.data, .data, .pinned], laidTests := true, laidLooks := .later }
def EachSecondOnceUptoCardSaid : Prop := Claim7.holds Tryz.pinned (.plain (OpenSpec.upto eachSecondOnceSpec)) eachSecondOnceUptoCard

/-- THE SECOND FORM's CARD OF 'flashkeep2.BlocksStop'. -/
def blocksStopUptoCard : Claim7 := { stood := { row := blocksStopUptoRow, standIns := [], harness := (true, "386a8ef0338d4096b824b8fb8fbc0dc95b9232e1954789462cd7440532388268"), looks := true }, kinds := [], alts := [], laidByText := true, laidKinds := [.data, .data, .pinned], laidTests := true, laidLooks := .later }
def BlocksStopUptoCardSaid : Prop := Claim7.holds Tryz.pinned (.plain (OpenSpec.upto blocksStopSpec)) blocksStopUptoCard

/-- THE SECOND FORM's CARD OF 'flashkeep2.RecordsAgree'. -/
def recordsAgreeUptoCard : Claim7 := { stood := { row := recordsAgreeUptoRow, standIns := [], harness := (true, "386a8ef0338d4096b824b8fb8fbc0dc95b9232e1954789462cd7440532388268"), looks := true }, kinds := [], alts := [], laidByText := true, laidKinds := [.data, .data, .data, .data, .sentinel, .sentinel, .pinned], laidTests := true, laidLooks := .later }
def RecordsAgreeUptoCardSaid : Prop := Claim7.holds Tryz.pinned (.plain (OpenSpec.upto recordsAgreeSpec)) recordsAgreeUptoCard
end Rows
end Go.Proofs.YtleagenhnchjdaaGreatDoor

/-
  DERIVED. GIVEN WITH THE SEED: THE CARDS: each row of YtdjlchhfpomaiaaDoorRows.lean that lists a variable, with what it lists TIED to the program's text (the seventh form; the later family's looks); each row that meets fmt, with fmt's text TOLD by the authors' own Lean function (tested against real Go, not proved from fmt's source: count such statements apart). THE CARD IS WHAT COUNTS. Prove the row's statement (the work); the ties are given (YtdjlchhfpomaiaaDoorTie.lean); close each card by the builder's one call (the guide's Derived/Test/ToyasCard.lean, 'card_holds'). Laid BY PROGRAM, IN A SANDBOX (cutbox-door.mjs). By AI agents, Wed Nov 11 2026. No macro, syntax, notation, axiom, sorry.
-/
import Derived.Test.YtdjlchhfpomaiaaDoorRows
import GoSem.ClaimSeven
namespace Go.Proofs.YtdjlchhfpomaiaaDoor
namespace Rows

/-- THE TIED CARD OF 'flashkeep2.WholeSoundsArePlayed'. -/
def wholeSoundsArePlayedCard : Claim7 := { stood := { row := wholeSoundsArePlayedRow, standIns := [], harness := (true, "1e29352c6bdc01fb3e8f09199e283f1c245127fb70b32bf1002ab1b5c132d09d"), looks := false }, kinds := [], alts := [], laidByText := true, laidKinds := [.data, .data, .pinned], laidTests := true, laidLooks := .later }
def WholeSoundsArePlayedCardSaid : Prop := Claim7.holds Tryd.pinned (.plain (OpenSpec.ofChange wholeSoundsArePlayedSpec)) wholeSoundsArePlayedCard

/-- THE TIED CARD OF 'flashkeep2.PacketsAreCounted'. -/
def packetsAreCountedCard : Claim7 := { stood := { row := packetsAreCountedRow, standIns := [], harness := (true, "1e29352c6bdc01fb3e8f09199e283f1c245127fb70b32bf1002ab1b5c132d09d"), looks := false }, kinds := [], alts := [], laidByText := true, laidKinds := [.data, .data, .pinned], laidTests := true, laidLooks := .later }
def PacketsAreCountedCardSaid : Prop := Claim7.holds Tryd.pinned (.plain (OpenSpec.ofChange packetsAreCountedSpec)) packetsAreCountedCard

/-- THE TIED CARD OF 'flashkeep2.PatternsOrdered'. -/
def patternsOrderedCard : Claim7 := { stood := { row := patternsOrderedRow, standIns := [], harness := (true, "1e29352c6bdc01fb3e8f09199e283f1c245127fb70b32bf1002ab1b5c132d09d"), looks := false }, kinds := [], alts := [], laidByText := true, laidKinds := [.data, .data, .pinned], laidTests := true, laidLooks := .later }
def PatternsOrderedCardSaid : Prop := Claim7.holds Tryd.pinned (.plain (OpenSpec.ofChange patternsOrderedSpec)) patternsOrderedCard

/-- THE TIED CARD OF 'flashkeep2.HoursTurn'. -/
def hoursTurnCard : Claim7 := { stood := { row := hoursTurnRow, standIns := [], harness := (true, "1e29352c6bdc01fb3e8f09199e283f1c245127fb70b32bf1002ab1b5c132d09d"), looks := false }, kinds := [], alts := [], laidByText := true, laidKinds := [.data, .data, .pinned], laidTests := true, laidLooks := .later }
def HoursTurnCardSaid : Prop := Claim7.holds Tryd.pinned (.plain (OpenSpec.ofChange hoursTurnSpec)) hoursTurnCard

/-- THE SECOND FORM's CARD OF 'flashkeep2.WholeSoundsArePlayed'. -/
def wholeSoundsArePlayedUptoCard : Claim7 := { stood := { row := wholeSoundsArePlayedUptoRow, standIns := [], harness := (true, "1e29352c6bdc01fb3e8f09199e283f1c245127fb70b32bf1002ab1b5c132d09d"), looks := false }, kinds := [], alts := [], laidByText := true, laidKinds := [.data, .data, .pinned], laidTests := true, laidLooks := .later }
def WholeSoundsArePlayedUptoCardSaid : Prop := Claim7.holds Tryd.pinned (.plain (OpenSpec.upto wholeSoundsArePlayedSpec)) wholeSoundsArePlayedUptoCard

/-- THE SECOND FORM's CARD OF 'flashkeep2.PacketsAreCounted'. -/
def packetsAreCountedUptoCard : Claim7 := { stood := { row := packetsAreCountedUptoRow, standIns := [], harness := (true, "1e29352c6bdc01fb3e8f09199e283f1c245127fb70b32bf1002ab1b5c132d09d"), looks := false }, kinds := [], alts := [], laidByText := true, laidKinds := [.data, .data, .pinned], laidTests := true, laidLooks := .later }
def PacketsAreCountedUptoCardSaid : Prop := Claim7.holds Tryd.pinned (.plain (OpenSpec.upto packetsAreCountedSpec)) packetsAreCountedUptoCard

/-- THE SECOND FORM's CARD OF 'flashkeep2.PatternsOrdered'. -/
def patternsOrderedUptoCard : Claim7 := { stood := { row := patternsOrderedUptoRow, standIns := [], harness := (true, "1e29352c6bdc01fb3e8f09199e283f1c245127fb70b32bf1002ab1b5c132d09d"), looks := false }, kinds := [], alts := [], laidByText := true, laidKinds := [.data, .data, .pinned], laidTests := true, laidLooks := .later }
def PatternsOrderedUptoCardSaid : Prop := Claim7.holds Tryd.pinned (.plain (OpenSpec.upto patternsOrderedSpec)) patternsOrderedUptoCard

/-- THE SECOND FORM's CARD OF 'flashkeep2.HoursTurn'. -/
def hoursTurnUptoCard : Claim7 := { stood := { row := hoursTurnUptoRow, standIns := [], harness := (true, "1e29352c6bdc01fb3e8f09199e283f1c245127fb70b32bf1002ab1b5c132d09d"), looks := false }, kinds := [], alts := [], laidByText := true, laidKinds := [.data, .data, .pinned], laidTests := true, laidLooks := .later }
def HoursTurnUptoCardSaid : Prop := Claim7.holds Tryd.pinned (.plain (OpenSpec.upto hoursTurnSpec)) hoursTurnUptoCard
end Rows
end Go.Proofs.YtdjlchhfpomaiaaDoor

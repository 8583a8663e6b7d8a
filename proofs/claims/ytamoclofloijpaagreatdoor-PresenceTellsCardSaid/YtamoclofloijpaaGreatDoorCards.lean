/-
  DERIVED. GIVEN WITH THE SEED: THE CARDS: each row of YtamoclofloijpaaGreatDoorRows.lean that lists a variable, with what it lists TIED to the program's text (the seventh form; the later family's looks); each row that meets fmt, with fmt's text TOLD by the authors' own Lean function (tested against real Go, not proved from fmt's source: count such statements apart). THE CARD IS WHAT COUNTS. Prove the row's statement (the work); the ties are given (YtamoclofloijpaaGreatDoorTie.lean); close each card by the builder's one call (the guide's Derived/Test/ToyasCard.lean, 'card_holds'). Laid BY PROGRAM, IN A SANDBOX (cutbox-door.mjs). By AI agents, Wed Nov 11 2026. No macro, syntax, notation, axiom, sorry.
-/
import Derived.Test.YtamoclofloijpaaGreatDoorRows
import GoSem.ClaimSeven
namespace Go.Proofs.YtamoclofloijpaaGreatDoor
namespace Rows

/-- THE TIED CARD OF 'flashkeep2.PresenceTells'. -/
def presenceTellsCard : Claim7 := { stood := { row := presenceTellsRow, standIns := [], harness := (true, "3dada8ffd72f9f7925b999f2e86df89ced741f92b70f74fa4366a2239e34be1a"), looks := true }, kinds := [], alts := [], laidByText := true, laidKinds := [.data, .data, .pinned], laidTests := true, laidLooks := .later }
def PresenceTellsCardSaid : Prop := Claim7.holds Tryz.pinned (.plain (OpenSpec.ofChange presenceTellsSpec)) presenceTellsCard

/-- THE TIED CARD OF 'flashkeep2.ActsComeBack'. -/
def actsComeBackCard : Claim7 := { stood := { row := actsComeBackRow, standIns := [], harness := (true, "3dada8ffd72f9f7925b999f2e86df89ced741f92b70f74fa4366a2239e34be1a"), looks := true }, kinds := [], alts := [], laidByText := true, laidKinds := [.data, .data, .data, .data, .sentinel, .sentinel, .pinned], laidTests := true, laidLooks := .later }
def ActsComeBackCardSaid : Prop := Claim7.holds Tryz.pinned (.plain (OpenSpec.ofChange actsComeBackSpec)) actsComeBackCard

/-- THE SECOND FORM's CARD OF 'flashkeep2.PresenceTells'. -/
def presenceTellsUptoCard : Claim7 := { stood := { row := presenceTellsUptoRow, standIns := [], harness := (true, "3dada8ffd72f9f7925b999f2e86df89ced741f92b70f74fa4366a2239e34be1a"), looks := true }, kinds := [], alts := [], laidByText := true, laidKinds := [.data, .data, .pinned], laidTests := true, laidLooks := .later }
def PresenceTellsUptoCardSaid : Prop := Claim7.holds Tryz.pinned (.plain (OpenSpec.upto presenceTellsSpec)) presenceTellsUptoCard

/-- THE SECOND FORM's CARD OF 'flashkeep2.ActsComeBack'. -/
def actsComeBackUptoCard : Claim7 := { stood := { row := actsComeBackUptoRow, standIns := [], harness := (true, "3dada8ffd72f9f7925b999f2e86df89ced741f92b70f74fa4366a2239e34be1a"), looks := true }, kinds := [], alts := [], laidByText := true, laidKinds := [.data, .data, .data, .data, .sentinel, .sentinel, .pinned], laidTests := true, laidLooks := .later }
def ActsComeBackUptoCardSaid : Prop := Claim7.holds Tryz.pinned (.plain (OpenSpec.upto actsComeBackSpec)) actsComeBackUptoCard
end Rows
end Go.Proofs.YtamoclofloijpaaGreatDoor

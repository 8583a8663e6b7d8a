/-
  DERIVED. GIVEN WITH THE SEED: THE CARDS: each row of YtkdadbpajhdelaaGreatDoorRows.lean that lists a variable, with what it lists TIED to the program's text (the seventh form; the later family's looks); each row that meets fmt, with fmt's text TOLD by the authors' own Lean function (tested against real Go, not proved from fmt's source: count such statements apart). THE CARD IS WHAT COUNTS. Prove the row's statement (the work); the ties are given (YtkdadbpajhdelaaGreatDoorTie.lean); close each card by the builder's one call (the guide's Derived/Test/ToyasCard.lean, 'card_holds'). Laid BY PROGRAM, IN A SANDBOX (cutbox-door.mjs). By AI agents, Wed Nov 11 2026. No macro, syntax, notation, axiom, sorry.
-/
import Derived.Test.YtkdadbpajhdelaaGreatDoorRows
import GoSem.ClaimSeven
namespace Go.Proofs.YtkdadbpajhdelaaGreatDoor
namespace Rows

/-- THE TIED CARD OF 'flashkeep2.ChainsEnd'. -/
def chainsEndCard : Claim7 := { stood := { row := chainsEndRow, standIns := [], harness := (true, "3f0850496d3fbde040123763af3dca25c12d33c09f03184690791df36fb5ef30"), looks := true }, kinds := [], alts := [], laidByText := true, laidKinds := [.data, .data, .pinned], laidTests := true, laidLooks := .later }
def ChainsEndCardSaid : Prop := Claim7.holds Tryz.pinned (.plain (OpenSpec.ofChange chainsEndSpec)) chainsEndCard

/-- THE TIED CARD OF 'flashkeep2.PlansComeBack'. -/
def plansComeBackCard : Claim7 := { stood := { row := plansComeBackRow, standIns := [], harness := (true, "3f0850496d3fbde040123763af3dca25c12d33c09f03184690791df36fb5ef30"), looks := true }, kinds := [], alts := [], laidByText := true, laidKinds := [.data, .data, .data, .data, .sentinel, .sentinel, .pinned], laidTests := true, laidLooks := .later }
def PlansComeBackCardSaid : Prop := Claim7.holds Tryz.pinned (.plain (OpenSpec.ofChange plansComeBackSpec)) plansComeBackCard

/-- THE SECOND FORM's CARD OF 'flashkeep2.ChainsEnd'. -/
def chainsEndUptoCard : Claim7 := { stood := { row := chainsEndUptoRow, standIns := [], harness := (true, "3f0850496d3fbde040123763af3dca25c12d33c09f03184690791df36fb5ef30"), looks := true }, kinds := [], alts := [], laidByText := true, laidKinds := [.data, .data, .pinned], laidTests := true, laidLooks := .later }
def ChainsEndUptoCardSaid : Prop := Claim7.holds Tryz.pinned (.plain (OpenSpec.upto chainsEndSpec)) chainsEndUptoCard

/-- THE SECOND FORM's CARD OF 'flashkeep2.PlansComeBack'. -/
def plansComeBackUptoCard : Claim7 := { stood := { row := plansComeBackUptoRow, standIns := [], harness := (true, "3f0850496d3fbde040123763af3dca25c12d33c09f03184690791df36fb5ef30"), looks := true }, kinds := [], alts := [], laidByText := true, laidKinds := [.data, .data, .data, .data, .sentinel, .sentinel, .pinned], laidTests := true, laidLooks := .later }
def PlansComeBackUptoCardSaid : Prop := Claim7.holds Tryz.pinned (.plain (OpenSpec.upto plansComeBackSpec)) plansComeBackUptoCard
end Rows
end Go.Proofs.YtkdadbpajhdelaaGreatDoor

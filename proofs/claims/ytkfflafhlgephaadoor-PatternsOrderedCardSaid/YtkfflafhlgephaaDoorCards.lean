/-
  DERIVED. GIVEN WITH THE SEED: THE CARDS: each row of YtkfflafhlgephaaDoorRows.lean that lists a variable, with what it lists TIED to the program's text (the seventh form; the later family's looks); each row that meets fmt, with fmt's text TOLD by the authors' own Lean function (tested against real Go, not proved from fmt's source: count such statements apart). THE CARD IS WHAT COUNTS. Prove the row's statement (the work); the ties are given (YtkfflafhlgephaaDoorTie.lean); close each card by the builder's one call (the guide's Derived/Test/ToyasCard.lean, 'card_holds'). Laid BY PROGRAM, IN A SANDBOX (cutbox-door.mjs). By AI agents, Wed Nov 11 2026. No macro, syntax, notation, axiom, sorry.
-/
import Derived.Test.YtkfflafhlgephaaDoorRows
import GoSem.ClaimSeven
namespace Go.Proofs.YtkfflafhlgephaaDoor
namespace Rows

/-- THE TIED CARD OF 'flashkeep2.HoursTurn'. -/
def hoursTurnCard : Claim7 := { stood := { row := hoursTurnRow, standIns := [], harness := (true, "1f56ee596b1151f33e4f89cdc44d777d434f5026661cbbee104e23e282de6bc1"), looks := true }, kinds := [], alts := [], laidByText := true, laidKinds := [.data, .data, .pinned], laidTests := true, laidLooks := .later }
def HoursTurnCardSaid : Prop := Claim7.holds Tryd.pinned (.plain (OpenSpec.ofChange hoursTurnSpec)) hoursTurnCard

/-- THE TIED CARD OF 'flashkeep2.PatternsOrdered'. -/
def patternsOrderedCard : Claim7 := { stood := { row := patternsOrderedRow, standIns := [], harness := (true, "1f56ee596b1151f33e4f89cdc44d777d434f5026661cbbee104e23e282de6bc1"), looks := true }, kinds := [], alts := [], laidByText := true, laidKinds := [.data, .data, .pinned], laidTests := true, laidLooks := .later }
def PatternsOrderedCardSaid : Prop := Claim7.holds Tryd.pinned (.plain (OpenSpec.ofChange patternsOrderedSpec)) patternsOrderedCard

/-- THE TIED CARD OF 'flashlaw1.PlansSplit'. -/
def plansSplitCard : Claim7 := { stood := { row := plansSplitRow, standIns := [], harness := (true, "1f56ee596b1151f33e4f89cdc44d777d434f5026661cbbee104e23e282de6bc1"), looks := true }, kinds := [], alts := [], laidByText := true, laidKinds := [.data, .data, .data, .data, .sentinel, .sentinel, .pinned], laidTests := true, laidLooks := .later }
def PlansSplitCardSaid : Prop := Claim7.holds Tryd.pinned (.plain (OpenSpec.ofChange plansSplitSpec)) plansSplitCard

/-- THE SECOND FORM's CARD OF 'flashkeep2.HoursTurn'. -/
def hoursTurnUptoCard : Claim7 := { stood := { row := hoursTurnUptoRow, standIns := [], harness := (true, "1f56ee596b1151f33e4f89cdc44d777d434f5026661cbbee104e23e282de6bc1"), looks := true }, kinds := [], alts := [], laidByText := true, laidKinds := [.data, .data, .pinned], laidTests := true, laidLooks := .later }
def HoursTurnUptoCardSaid : Prop := Claim7.holds Tryd.pinned (.plain (OpenSpec.upto hoursTurnSpec)) hoursTurnUptoCard

/-- THE SECOND FORM's CARD OF 'flashkeep2.PatternsOrdered'. -/
def patternsOrderedUptoCard : Claim7 := { stood := { row := patternsOrderedUptoRow, standIns := [], harness := (true, "1f56ee596b1151f33e4f89cdc44d777d434f5026661cbbee104e23e282de6bc1"), looks := true }, kinds := [], alts := [], laidByText := true, laidKinds := [.data, .data, .pinned], laidTests := true, laidLooks := .later }
def PatternsOrderedUptoCardSaid : Prop := Claim7.holds Tryd.pinned (.plain (OpenSpec.upto patternsOrderedSpec)) patternsOrderedUptoCard

/-- THE SECOND FORM's CARD OF 'flashlaw1.PlansSplit'. -/
def plansSplitUptoCard : Claim7 := { stood := { row := plansSplitUptoRow, standIns := [], harness := (true, "1f56ee596b1151f33e4f89cdc44d777d434f5026661cbbee104e23e282de6bc1"), looks := true }, kinds := [], alts := [], laidByText := true, laidKinds := [.data, .data, .data, .data, .sentinel, .sentinel, .pinned], laidTests := true, laidLooks := .later }
def PlansSplitUptoCardSaid : Prop := Claim7.holds Tryd.pinned (.plain (OpenSpec.upto plansSplitSpec)) plansSplitUptoCard
end Rows
end Go.Proofs.YtkfflafhlgephaaDoor

/-
  DERIVED. GIVEN WITH THE SEED: THE CARDS: each row of YtamlhapiehchoaaGreatDoorRows.lean that lists a variable, with what it lists TIED to the program's text (the seventh form; the later family's looks); each row that meets fmt, with fmt's text TOLD by the authors' own Lean function (tested against real Go, not proved from fmt's source: count such statements apart). THE CARD IS WHAT COUNTS. Prove the row's statement (the work); the ties are given (YtamlhapiehchoaaGreatDoorTie.lean); close each card by the builder's one call (the guide's Derived/Test/ToyasCard.lean, 'card_holds'). Laid BY PROGRAM, IN A SANDBOX (cutbox-door.mjs). By AI agents, Wed Nov 11 2026. No macro, syntax, notation, axiom, sorry.
-/
import Derived.Test.YtamlhapiehchoaaGreatDoorRows
import GoSem.ClaimSeven
namespace Go.Proofs.YtamlhapiehchoaaGreatDoor
namespace Rows

/-- THE TIED CARD OF 'flashkeep2.WaitsAreTrue'. -/
def waitsAreTrueCard : Claim7 := { stood := { row := waitsAreTrueRow, standIns := [], harness := (true, "0892e4bb0b14d22702b80530648e29e253e1e1a5819a02a6ab23b6348f4afff3"), looks := false }, kinds := [], alts := [], laidByText := true, laidKinds := [.data, .data, .pinned], laidTests := true, laidLooks := .later }
def WaitsAreTrueCardSaid : Prop := Claim7.holds Tryz.pinned (.plain (OpenSpec.ofChange waitsAreTrueSpec)) waitsAreTrueCard

/-- THE TIED CARD OF 'flashtop.TopKeysDialled'. -/
def topKeysDialledCard : Claim7 := { stood := { row := topKeysDialledRow, standIns := [], harness := (true, "0892e4bb0b14d22702b80530648e29e253e1e1a5819a02a6ab23b6348f4afff3"), looks := false }, kinds := [], alts := [], laidByText := true, laidKinds := [.data, .data, .pinned], laidTests := true, laidLooks := .later }
def TopKeysDialledCardSaid : Prop := Claim7.holds Tryz.pinned (.plain (OpenSpec.ofChange topKeysDialledSpec)) topKeysDialledCard

/-- THE TIED CARD OF 'flashkeep2.HiddenNeverDecide'. -/
def hiddenNeverDecideCard : Claim7 := { stood := { row := hiddenNeverDecideRow, standIns := [], harness := (true, "0892e4bb0b14d22702b80530648e29e253e1e1a5819a02a6ab23b6348f4afff3"), looks := false }, kinds := [], alts := [], laidByText := true, laidKinds := [.data, .data, .pinned], laidTests := true, laidLooks := .later }
def HiddenNeverDecideCardSaid : Prop := Claim7.holds Tryz.pinned (.plain (OpenSpec.ofChange hiddenNeverDecideSpec)) hiddenNeverDecideCard

/-- THE SECOND FORM's CARD OF 'flashkeep2.WaitsAreTrue'. -/
def waitsAreTrueUptoCard : Claim7 := { stood := { row := waitsAreTrueUptoRow, standIns := [], harness := (true, "0892e4bb0b14d22702b80530648e29e253e1e1a5819a02a6ab23b6348f4afff3"), looks := false }, kinds := [], alts := [], laidByText := true, laidKinds := [.data, .data, .pinned], laidTests := true, laidLooks := .later }
def WaitsAreTrueUptoCardSaid : Prop := Claim7.holds Tryz.pinned (.plain (OpenSpec.upto waitsAreTrueSpec)) waitsAreTrueUptoCard

/-- THE SECOND FORM's CARD OF 'flashtop.TopKeysDialled'. -/
def topKeysDialledUptoCard : Claim7 := { stood := { row := topKeysDialledUptoRow, standIns := [], harness := (true, "0892e4bb0b14d22702b80530648e29e253e1e1a5819a02a6ab23b6348f4afff3"), looks := false }, kinds := [], alts := [], laidByText := true, laidKinds := [.data, .data, .pinned], laidTests := true, laidLooks := .later }
def TopKeysDialledUptoCardSaid : Prop := Claim7.holds Tryz.pinned (.plain (OpenSpec.upto topKeysDialledSpec)) topKeysDialledUptoCard

/-- THE SECOND FORM's CARD OF 'flashkeep2.HiddenNeverDecide'. -/
def hiddenNeverDecideUptoCard : Claim7 := { stood := { row := hiddenNeverDecideUptoRow, standIns := [], harness := (true, "0892e4bb0b14d22702b80530648e29e253e1e1a5819a02a6ab23b6348f4afff3"), looks := false }, kinds := [], alts := [], laidByText := true, laidKinds := [.data, .data, .pinned], laidTests := true, laidLooks := .later }
def HiddenNeverDecideUptoCardSaid : Prop := Claim7.holds Tryz.pinned (.plain (OpenSpec.upto hiddenNeverDecideSpec)) hiddenNeverDecideUptoCard
end Rows
end Go.Proofs.YtamlhapiehchoaaGreatDoor

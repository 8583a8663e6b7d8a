/-
  DERIVED. GIVEN WITH THE SEED: THE CARDS: each row of YtppinnjdaoaddaaGreatDoorRows.lean that lists a variable, with what it lists TIED to the program's text (the seventh form; the later family's looks); each row that meets fmt, with fmt's text TOLD by the authors' own Lean function (tested against real Go, not proved from fmt's source: count such statements apart). THE CARD IS WHAT COUNTS. Prove the row's statement (the work); the ties are given (YtppinnjdaoaddaaGreatDoorTie.lean); close each card by the builder's one call (the guide's Derived/Test/ToyasCard.lean, 'card_holds'). Laid BY PROGRAM, IN A SANDBOX (cutbox-door.mjs). By AI agents, Wed Nov 11 2026. No macro, syntax, notation, axiom, sorry.
-/
import Derived.Test.YtppinnjdaoaddaaGreatDoorRows
import GoSem.ClaimSeven
namespace Go.Proofs.YtppinnjdaoaddaaGreatDoor
namespace Rows

/-- THE TIED CARD OF 'flashlaw1.SharesTurn'. -/
def sharesTurnCard : Claim7 := { stood := { row := sharesTurnRow, standIns := [], harness := (true, "9a796008118e18dabefa8bdbc0dc58d1abe9ce95308b7ae8f452d4e62b261a65"), looks := false }, kinds := [], alts := [], laidByText := true, laidKinds := [.data, .data, .data, .data, .pinned], laidTests := true, laidLooks := .later }
def SharesTurnCardSaid : Prop := Claim7.holds Tryz.pinned (.plain (OpenSpec.ofChange sharesTurnSpec)) sharesTurnCard

/-- THE TIED CARD OF 'flashlaw1.CarriersOffer'. -/
def carriersOfferCard : Claim7 := { stood := { row := carriersOfferRow, standIns := [], harness := (true, "9a796008118e18dabefa8bdbc0dc58d1abe9ce95308b7ae8f452d4e62b261a65"), looks := false }, kinds := [], alts := [], laidByText := true, laidKinds := [.data, .data, .data, .data, .pinned], laidTests := true, laidLooks := .later }
def CarriersOfferCardSaid : Prop := Claim7.holds Tryz.pinned (.plain (OpenSpec.ofChange carriersOfferSpec)) carriersOfferCard

/-- THE TIED CARD OF 'flashlaw1.CallsSent'. -/
def callsSentCard : Claim7 := { stood := { row := callsSentRow, standIns := [], harness := (true, "9a796008118e18dabefa8bdbc0dc58d1abe9ce95308b7ae8f452d4e62b261a65"), looks := false }, kinds := [], alts := [], laidByText := true, laidKinds := [.data, .data, .data, .data, .pinned], laidTests := true, laidLooks := .later }
def CallsSentCardSaid : Prop := Claim7.holds Tryz.pinned (.plain (OpenSpec.ofChange callsSentSpec)) callsSentCard

/-- THE SECOND FORM's CARD OF 'flashlaw1.SharesTurn'. -/
def sharesTurnUptoCard : Claim7 := { stood := { row := sharesTurnUptoRow, standIns := [], harness := (true, "9a796008118e18dabefa8bdbc0dc58d1abe9ce95308b7ae8f452d4e62b261a65"), looks := false }, kinds := [], alts := [], laidByText := true, laidKinds := [.data, .data, .data, .data, .pinned], laidTests := true, laidLooks := .later }
def SharesTurnUptoCardSaid : Prop := Claim7.holds Tryz.pinned (.plain (OpenSpec.upto sharesTurnSpec)) sharesTurnUptoCard

/-- THE SECOND FORM's CARD OF 'flashlaw1.CarriersOffer'. -/
def carriersOfferUptoCard : Claim7 := { stood := { row := carriersOfferUptoRow, standIns := [], harness := (true, "9a796008118e18dabefa8bdbc0dc58d1abe9ce95308b7ae8f452d4e62b261a65"), looks := false }, kinds := [], alts := [], laidByText := true, laidKinds := [.data, .data, .data, .data, .pinned], laidTests := true, laidLooks := .later }
def CarriersOfferUptoCardSaid : Prop := Claim7.holds Tryz.pinned (.plain (OpenSpec.upto carriersOfferSpec)) carriersOfferUptoCard

/-- THE SECOND FORM's CARD OF 'flashlaw1.CallsSent'. -/
def callsSentUptoCard : Claim7 := { stood := { row := callsSentUptoRow, standIns := [], harness := (true, "9a796008118e18dabefa8bdbc0dc58d1abe9ce95308b7ae8f452d4e62b261a65"), looks := false }, kinds := [], alts := [], laidByText := true, laidKinds := [.data, .data, .data, .data, .pinned], laidTests := true, laidLooks := .later }
def CallsSentUptoCardSaid : Prop := Claim7.holds Tryz.pinned (.plain (OpenSpec.upto callsSentSpec)) callsSentUptoCard
end Rows
end Go.Proofs.YtppinnjdaoaddaaGreatDoor

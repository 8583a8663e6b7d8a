/-
  DERIVED. GIVEN WITH THE SEED: THE CARDS: each row of YthajppcmmmkfcaaGreatDoorRows.lean that lists a variable, with what it lists TIED to the program's text (the seventh form; the later family's looks); each row that meets fmt, with fmt's text TOLD by the authors' own Lean function (tested against real Go, not proved from fmt's source: count such statements apart). THE CARD IS WHAT COUNTS. Prove the row's statement (the work); the ties are given (YthajppcmmmkfcaaGreatDoorTie.lean); close each card by the builder's one call (the guide's Derived/Test/ToyasCard.lean, 'card_holds'). Laid BY PROGRAM, IN A SANDBOX (cutbox-door.mjs). By AI agents, Wed Nov 11 2026. No macro, syntax, notation, axiom, sorry.
-/
import Derived.Test.YthajppcmmmkfcaaGreatDoorRows
import GoSem.ClaimSeven
namespace Go.Proofs.YthajppcmmmkfcaaGreatDoor
namespace Rows

/-- THE TIED CARD OF 'flashlaw1.DiallingProgresses'. -/
def diallingProgressesCard : Claim7 := { stood := { row := diallingProgressesRow, standIns := [], harness := (true, "74b44cf936479bb26bcca49f424e22c67fc7879550603e2af0fb23f8b43db01d"), looks := true }, kinds := [], alts := [], laidByText := true, laidKinds := [.data, .data, .data, .data, .sentinel, .sentinel, .pinned], laidTests := true, laidLooks := .later }
def DiallingProgressesCardSaid : Prop := Claim7.holds Tryz.pinned (.plain (OpenSpec.ofChange diallingProgressesSpec)) diallingProgressesCard

/-- THE TIED CARD OF 'flashlaw1.NumbersReached'. -/
def numbersReachedCard : Claim7 := { stood := { row := numbersReachedRow, standIns := [], harness := (true, "74b44cf936479bb26bcca49f424e22c67fc7879550603e2af0fb23f8b43db01d"), looks := true }, kinds := [], alts := [], laidByText := true, laidKinds := [.data, .data, .data, .data, .sentinel, .sentinel, .pinned], laidTests := true, laidLooks := .later }
def NumbersReachedCardSaid : Prop := Claim7.holds Tryz.pinned (.plain (OpenSpec.ofChange numbersReachedSpec)) numbersReachedCard

/-- THE TIED CARD OF 'flashlaw1.FormsRead'. -/
def formsReadCard : Claim7 := { stood := { row := formsReadRow, standIns := [], harness := (true, "74b44cf936479bb26bcca49f424e22c67fc7879550603e2af0fb23f8b43db01d"), looks := true }, kinds := [], alts := [], laidByText := true, laidKinds := [.data, .data, .data, .data, .sentinel, .sentinel, .pinned], laidTests := true, laidLooks := .later }
def FormsReadCardSaid : Prop := Claim7.holds Tryz.pinned (.plain (OpenSpec.ofChange formsReadSpec)) formsReadCard

/-- THE TIED CARD OF 'flashlaw1.WordsFound'. -/
def wordsFoundCard : Claim7 := { stood := { row := wordsFoundRow, standIns := [], harness := (true, "74b44cf936479bb26bcca49f424e22c67fc7879550603e2af0fb23f8b43db01d"), looks := true }, kinds := [], alts := [], laidByText := true, laidKinds := [.data, .data, .data, .data, .sentinel, .sentinel, .pinned], laidTests := true, laidLooks := .later }
def WordsFoundCardSaid : Prop := Claim7.holds Tryz.pinned (.plain (OpenSpec.ofChange wordsFoundSpec)) wordsFoundCard

/-- THE SECOND FORM's CARD OF 'flashlaw1.DiallingProgresses'. -/
def diallingProgressesUptoCard : Claim7 := { stood := { row := diallingProgressesUptoRow, standIns := [], harness := (true, "74b44cf936479bb26bcca49f424e22c67fc7879550603e2af0fb23f8b43db01d"), looks := true }, kinds := [], alts := [], laidByText := true, laidKinds := [.data, .data, .data, .data, .sentinel, .sentinel, .pinned], laidTests := true, laidLooks := .later }
def DiallingProgressesUptoCardSaid : Prop := Claim7.holds Tryz.pinned (.plain (OpenSpec.upto diallingProgressesSpec)) diallingProgressesUptoCard

/-- THE SECOND FORM's CARD OF 'flashlaw1.NumbersReached'. -/
def numbersReachedUptoCard : Claim7 := { stood := { row := numbersReachedUptoRow, standIns := [], harness := (true, "74b44cf936479bb26bcca49f424e22c67fc7879550603e2af0fb23f8b43db01d"), looks := true }, kinds := [], alts := [], laidByText := true, laidKinds := [.data, .data, .data, .data, .sentinel, .sentinel, .pinned], laidTests := true, laidLooks := .later }
def NumbersReachedUptoCardSaid : Prop := Claim7.holds Tryz.pinned (.plain (OpenSpec.upto numbersReachedSpec)) numbersReachedUptoCard

/-- THE SECOND FORM's CARD OF 'flashlaw1.FormsRead'. -/
def formsReadUptoCard : Claim7 := { stood := { row := formsReadUptoRow, standIns := [], harness := (true, "74b44cf936479bb26bcca49f424e22c67fc7879550603e2af0fb23f8b43db01d"), looks := true }, kinds := [], alts := [], laidByText := true, laidKinds := [.data, .data, .data, .data, .sentinel, .sentinel, .pinned], laidTests := true, laidLooks := .later }
def FormsReadUptoCardSaid : Prop := Claim7.holds Tryz.pinned (.plain (OpenSpec.upto formsReadSpec)) formsReadUptoCard

/-- THE SECOND FORM's CARD OF 'flashlaw1.WordsFound'. -/
def wordsFoundUptoCard : Claim7 := { stood := { row := wordsFoundUptoRow, standIns := [], harness := (true, "74b44cf936479bb26bcca49f424e22c67fc7879550603e2af0fb23f8b43db01d"), looks := true }, kinds := [], alts := [], laidByText := true, laidKinds := [.data, .data, .data, .data, .sentinel, .sentinel, .pinned], laidTests := true, laidLooks := .later }
def WordsFoundUptoCardSaid : Prop := Claim7.holds Tryz.pinned (.plain (OpenSpec.upto wordsFoundSpec)) wordsFoundUptoCard
end Rows
end Go.Proofs.YthajppcmmmkfcaaGreatDoor

/-
  DERIVED. GIVEN WITH THE SEED: THE CARDS: each row of YtnpgnlphdkbfiaaDoorRows.lean that lists a variable, with what it lists TIED to the program's text (the seventh form; the later family's looks); each row that meets fmt, with fmt's text TOLD by the authors' own Lean function (tested against real Go, not proved from fmt's source: count such statements apart). THE CARD IS WHAT COUNTS. Prove the row's statement (the work); the ties are given (YtnpgnlphdkbfiaaDoorTie.lean); close each card by the builder's one call (the guide's Derived/Test/ToyasCard.lean, 'card_holds'). Laid BY PROGRAM, IN A SANDBOX (cutbox-door.mjs). By AI agents, Wed Nov 11 2026. No macro, syntax, notation, axiom, sorry.
-/
import Derived.Test.YtnpgnlphdkbfiaaDoorRows
import GoSem.ClaimSeven
namespace Go.Proofs.YtnpgnlphdkbfiaaDoor
namespace Rows

/-- THE TIED CARD OF 'plimsolltop.TopDigits'. -/
def topDigitsCard : Claim7 := { stood := { row := topDigitsRow, standIns := [], harness := (true, "9a96d5a94f339ac45f96da7ed0e15f5c6761b9d7023379aecbf81e2e9472b023"), looks := false }, kinds := [], alts := [], laidByText := true, laidKinds := [.data, .data, .data], laidTests := true, laidLooks := .later }
def TopDigitsCardSaid : Prop := Claim7.holds Tryd.pinned (.plain (OpenSpec.ofChange topDigitsSpec)) topDigitsCard

/-- THE TIED CARD OF 'plimsolltop.TopBetween'. -/
def topBetweenCard : Claim7 := { stood := { row := topBetweenRow, standIns := [], harness := (true, "9a96d5a94f339ac45f96da7ed0e15f5c6761b9d7023379aecbf81e2e9472b023"), looks := false }, kinds := [], alts := [], laidByText := true, laidKinds := [.data, .data, .data], laidTests := true, laidLooks := .later }
def TopBetweenCardSaid : Prop := Claim7.holds Tryd.pinned (.plain (OpenSpec.ofChange topBetweenSpec)) topBetweenCard

/-- THE SECOND FORM's CARD OF 'plimsolltop.TopDigits'. -/
def topDigitsUptoCard : Claim7 := { stood := { row := topDigitsUptoRow, standIns := [], harness := (true, "9a96d5a94f339ac45f96da7ed0e15f5c6761b9d7023379aecbf81e2e9472b023"), looks := false }, kinds := [], alts := [], laidByText := true, laidKinds := [.data, .data, .data], laidTests := true, laidLooks := .later }
def TopDigitsUptoCardSaid : Prop := Claim7.holds Tryd.pinned (.plain (OpenSpec.upto topDigitsSpec)) topDigitsUptoCard

/-- THE SECOND FORM's CARD OF 'plimsolltop.TopBetween'. -/
def topBetweenUptoCard : Claim7 := { stood := { row := topBetweenUptoRow, standIns := [], harness := (true, "9a96d5a94f339ac45f96da7ed0e15f5c6761b9d7023379aecbf81e2e9472b023"), looks := false }, kinds := [], alts := [], laidByText := true, laidKinds := [.data, .data, .data], laidTests := true, laidLooks := .later }
def TopBetweenUptoCardSaid : Prop := Claim7.holds Tryd.pinned (.plain (OpenSpec.upto topBetweenSpec)) topBetweenUptoCard
end Rows
end Go.Proofs.YtnpgnlphdkbfiaaDoor

/-
  DERIVED. GIVEN WITH THE SEED: THE CARDS: each row of YtkoijdmlehkhbaaGreatDoorRows.lean that lists a variable, with what it lists TIED to the program's text (the seventh form; the later family's looks); each row that meets fmt, with fmt's text TOLD by the authors' own Lean function (tested against real Go, not proved from fmt's source: count such statements apart). THE CARD IS WHAT COUNTS. Prove the row's statement (the work); the ties are given (YtkoijdmlehkhbaaGreatDoorTie.lean); close each card by the builder's one call (the guide's Derived/Test/ToyasCard.lean, 'card_holds'). Laid BY PROGRAM, IN A SANDBOX (cutbox-door.mjs). By AI agents, Wed Nov 11 2026. No macro, syntax, notation, axiom, sorry.
-/
import Derived.Test.YtkoijdmlehkhbaaGreatDoorRows
import GoSem.ClaimSeven
namespace Go.Proofs.YtkoijdmlehkhbaaGreatDoor
namespace Rows

/-- THE TIED CARD OF 'plimsolltop.TopMedian'. -/
def topMedianCard : Claim7 := { stood := { row := topMedianRow, standIns := [], harness := (true, "a9e3ac41837ab5a7e0994e04a9ab35fd6d2f9a1dbdeded5627cfd3aec90d6233"), looks := false }, kinds := [], alts := [], laidByText := true, laidKinds := [.data], laidTests := true, laidLooks := .later }
def TopMedianCardSaid : Prop := Claim7.holds Tryz.pinned (.plain (OpenSpec.ofChange topMedianSpec)) topMedianCard

/-- THE TIED CARD OF 'plimsolltop.TopReplicas'. -/
def topReplicasCard : Claim7 := { stood := { row := topReplicasRow, standIns := [], harness := (true, "a9e3ac41837ab5a7e0994e04a9ab35fd6d2f9a1dbdeded5627cfd3aec90d6233"), looks := false }, kinds := [], alts := [], laidByText := true, laidKinds := [.data], laidTests := true, laidLooks := .later }
def TopReplicasCardSaid : Prop := Claim7.holds Tryz.pinned (.plain (OpenSpec.ofChange topReplicasSpec)) topReplicasCard

/-- THE TIED CARD OF 'plimsolltop.TopAbove'. -/
def topAboveCard : Claim7 := { stood := { row := topAboveRow, standIns := [], harness := (true, "a9e3ac41837ab5a7e0994e04a9ab35fd6d2f9a1dbdeded5627cfd3aec90d6233"), looks := false }, kinds := [], alts := [], laidByText := true, laidKinds := [.data], laidTests := true, laidLooks := .later }
def TopAboveCardSaid : Prop := Claim7.holds Tryz.pinned (.plain (OpenSpec.ofChange topAboveSpec)) topAboveCard

/-- THE SECOND FORM's CARD OF 'plimsolltop.TopMedian'. -/
def topMedianUptoCard : Claim7 := { stood := { row := topMedianUptoRow, standIns := [], harness := (true, "a9e3ac41837ab5a7e0994e04a9ab35fd6d2f9a1dbdeded5627cfd3aec90d6233"), looks := false }, kinds := [], alts := [], laidByText := true, laidKinds := [.data], laidTests := true, laidLooks := .later }
def TopMedianUptoCardSaid : Prop := Claim7.holds Tryz.pinned (.plain (OpenSpec.upto topMedianSpec)) topMedianUptoCard

/-- THE SECOND FORM's CARD OF 'plimsolltop.TopReplicas'. -/
def topReplicasUptoCard : Claim7 := { stood := { row := topReplicasUptoRow, standIns := [], harness := (true, "a9e3ac41837ab5a7e0994e04a9ab35fd6d2f9a1dbdeded5627cfd3aec90d6233"), looks := false }, kinds := [], alts := [], laidByText := true, laidKinds := [.data], laidTests := true, laidLooks := .later }
def TopReplicasUptoCardSaid : Prop := Claim7.holds Tryz.pinned (.plain (OpenSpec.upto topReplicasSpec)) topReplicasUptoCard

/-- THE SECOND FORM's CARD OF 'plimsolltop.TopAbove'. -/
def topAboveUptoCard : Claim7 := { stood := { row := topAboveUptoRow, standIns := [], harness := (true, "a9e3ac41837ab5a7e0994e04a9ab35fd6d2f9a1dbdeded5627cfd3aec90d6233"), looks := false }, kinds := [], alts := [], laidByText := true, laidKinds := [.data], laidTests := true, laidLooks := .later }
def TopAboveUptoCardSaid : Prop := Claim7.holds Tryz.pinned (.plain (OpenSpec.upto topAboveSpec)) topAboveUptoCard
end Rows
end Go.Proofs.YtkoijdmlehkhbaaGreatDoor

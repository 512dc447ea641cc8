/-
  DERIVED. GIVEN WITH THE SEED: THE CARDS: each row of YtmnlmmbfjfgfeaaDoorRows.lean that lists a variable, with what it lists TIED to the program's text (the seventh form; the later family's looks); each row that meets fmt, with fmt's text TOLD by the authors' own Lean function (tested against real Go, not proved from fmt's source: count such statements apart). THE CARD IS WHAT COUNTS. Prove the row's statement (the work); the ties are given (YtmnlmmbfjfgfeaaDoorTie.lean); close each card by the builder's one call (the guide's Derived/Test/ToyasCard.lean, 'card_holds'). Laid BY PROGRAM, IN A SANDBOX (cutbox-door.mjs). By AI agents, Wed Nov 11 2026. No macro, syntax, notation, axiom, sorry.
-/
import Derived.Test.YtmnlmmbfjfgfeaaDoorRows
import GoSem.ClaimSeven
namespace Go.Proofs.YtmnlmmbfjfgfeaaDoor
namespace Rows

/-- THE TIED CARD OF 'plimsolllaw40.QuantTells'. -/
def quantTellsCard : Claim7 := { stood := { row := quantTellsRow, standIns := [], harness := (true, "567e0a36e9a605b047eab0703e64f8e7fb037ec2553b7ba2b852a870c85504e1"), looks := false }, kinds := [], alts := [], laidByText := true, laidKinds := [.data, .data], laidTests := true, laidLooks := .later }
def QuantTellsCardSaid : Prop := Claim7.holds Tryd.pinned (.plain (OpenSpec.ofChange quantTellsSpec)) quantTellsCard

/-- THE TIED CARD OF 'plimsolllaw40.QuantRank'. -/
def quantRankCard : Claim7 := { stood := { row := quantRankRow, standIns := [], harness := (true, "567e0a36e9a605b047eab0703e64f8e7fb037ec2553b7ba2b852a870c85504e1"), looks := false }, kinds := [], alts := [], laidByText := true, laidKinds := [.data], laidTests := true, laidLooks := .later }
def QuantRankCardSaid : Prop := Claim7.holds Tryd.pinned (.plain (OpenSpec.ofChange quantRankSpec)) quantRankCard

/-- THE TIED CARD OF 'plimsolllaw40.QuantOrder'. -/
def quantOrderCard : Claim7 := { stood := { row := quantOrderRow, standIns := [], harness := (true, "567e0a36e9a605b047eab0703e64f8e7fb037ec2553b7ba2b852a870c85504e1"), looks := false }, kinds := [], alts := [], laidByText := true, laidKinds := [.data], laidTests := true, laidLooks := .later }
def QuantOrderCardSaid : Prop := Claim7.holds Tryd.pinned (.plain (OpenSpec.ofChange quantOrderSpec)) quantOrderCard

/-- THE TIED CARD OF 'plimsolllaw40.QuantFirst'. -/
def quantFirstCard : Claim7 := { stood := { row := quantFirstRow, standIns := [], harness := (true, "567e0a36e9a605b047eab0703e64f8e7fb037ec2553b7ba2b852a870c85504e1"), looks := false }, kinds := [], alts := [], laidByText := true, laidKinds := [.data], laidTests := true, laidLooks := .later }
def QuantFirstCardSaid : Prop := Claim7.holds Tryd.pinned (.plain (OpenSpec.ofChange quantFirstSpec)) quantFirstCard

/-- THE SECOND FORM's CARD OF 'plimsolllaw40.QuantTells'. -/
def quantTellsUptoCard : Claim7 := { stood := { row := quantTellsUptoRow, standIns := [], harness := (true, "567e0a36e9a605b047eab0703e64f8e7fb037ec2553b7ba2b852a870c85504e1"), looks := false }, kinds := [], alts := [], laidByText := true, laidKinds := [.data, .data], laidTests := true, laidLooks := .later }
def QuantTellsUptoCardSaid : Prop := Claim7.holds Tryd.pinned (.plain (OpenSpec.upto quantTellsSpec)) quantTellsUptoCard

/-- THE SECOND FORM's CARD OF 'plimsolllaw40.QuantRank'. -/
def quantRankUptoCard : Claim7 := { stood := { row := quantRankUptoRow, standIns := [], harness := (true, "567e0a36e9a605b047eab0703e64f8e7fb037ec2553b7ba2b852a870c85504e1"), looks := false }, kinds := [], alts := [], laidByText := true, laidKinds := [.data], laidTests := true, laidLooks := .later }
def QuantRankUptoCardSaid : Prop := Claim7.holds Tryd.pinned (.plain (OpenSpec.upto quantRankSpec)) quantRankUptoCard

/-- THE SECOND FORM's CARD OF 'plimsolllaw40.QuantOrder'. -/
def quantOrderUptoCard : Claim7 := { stood := { row := quantOrderUptoRow, standIns := [], harness := (true, "567e0a36e9a605b047eab0703e64f8e7fb037ec2553b7ba2b852a870c85504e1"), looks := false }, kinds := [], alts := [], laidByText := true, laidKinds := [.data], laidTests := true, laidLooks := .later }
def QuantOrderUptoCardSaid : Prop := Claim7.holds Tryd.pinned (.plain (OpenSpec.upto quantOrderSpec)) quantOrderUptoCard

/-- THE SECOND FORM's CARD OF 'plimsolllaw40.QuantFirst'. -/
def quantFirstUptoCard : Claim7 := { stood := { row := quantFirstUptoRow, standIns := [], harness := (true, "567e0a36e9a605b047eab0703e64f8e7fb037ec2553b7ba2b852a870c85504e1"), looks := false }, kinds := [], alts := [], laidByText := true, laidKinds := [.data], laidTests := true, laidLooks := .later }
def QuantFirstUptoCardSaid : Prop := Claim7.holds Tryd.pinned (.plain (OpenSpec.upto quantFirstSpec)) quantFirstUptoCard
end Rows
end Go.Proofs.YtmnlmmbfjfgfeaaDoor

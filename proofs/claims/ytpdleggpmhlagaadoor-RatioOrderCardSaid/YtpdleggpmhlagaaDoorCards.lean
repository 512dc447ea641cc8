/-
  DERIVED. GIVEN WITH THE SEED: THE CARDS: each row of YtpdleggpmhlagaaDoorRows.lean that lists a variable, with what it lists TIED to the program's text (the seventh form; the later family's looks); each row that meets fmt, with fmt's text TOLD by the authors' own Lean function (tested against real Go, not proved from fmt's source: count such statements apart). THE CARD IS WHAT COUNTS. Prove the row's statement (the work); the ties are given (YtpdleggpmhlagaaDoorTie.lean); close each card by the builder's one call (the guide's Derived/Test/ToyasCard.lean, 'card_holds'). Laid BY PROGRAM, IN A SANDBOX (cutbox-door.mjs). By AI agents, Wed Nov 11 2026. No macro, syntax, notation, axiom, sorry.
-/
import Derived.Test.YtpdleggpmhlagaaDoorRows
import GoSem.ClaimSeven
namespace Go.Proofs.YtpdleggpmhlagaaDoor
namespace Rows

/-- THE TIED CARD OF 'plimsolllaw02.RatioTells'. -/
def ratioTellsCard : Claim7 := { stood := { row := ratioTellsRow, standIns := [], harness := (true, "f1f870e1767044cf0752cb39e1460be506002d8ba220cd5880455ced3030db32"), looks := false }, kinds := [], alts := [], laidByText := true, laidKinds := [.data, .data, .data, .data], laidTests := true, laidLooks := .later }
def RatioTellsCardSaid : Prop := Claim7.holds Tryd.pinned (.plain (OpenSpec.ofChange ratioTellsSpec)) ratioTellsCard

/-- THE TIED CARD OF 'plimsolllaw02.RatioLess'. -/
def ratioLessCard : Claim7 := { stood := { row := ratioLessRow, standIns := [], harness := (true, "f1f870e1767044cf0752cb39e1460be506002d8ba220cd5880455ced3030db32"), looks := false }, kinds := [], alts := [], laidByText := true, laidKinds := [.data, .data, .data, .data], laidTests := true, laidLooks := .later }
def RatioLessCardSaid : Prop := Claim7.holds Tryd.pinned (.plain (OpenSpec.ofChange ratioLessSpec)) ratioLessCard

/-- THE TIED CARD OF 'plimsolllaw02.RatioSame'. -/
def ratioSameCard : Claim7 := { stood := { row := ratioSameRow, standIns := [], harness := (true, "f1f870e1767044cf0752cb39e1460be506002d8ba220cd5880455ced3030db32"), looks := false }, kinds := [], alts := [], laidByText := true, laidKinds := [.data, .data, .data], laidTests := true, laidLooks := .later }
def RatioSameCardSaid : Prop := Claim7.holds Tryd.pinned (.plain (OpenSpec.ofChange ratioSameSpec)) ratioSameCard

/-- THE TIED CARD OF 'plimsolllaw02.RatioOrder'. -/
def ratioOrderCard : Claim7 := { stood := { row := ratioOrderRow, standIns := [], harness := (true, "f1f870e1767044cf0752cb39e1460be506002d8ba220cd5880455ced3030db32"), looks := false }, kinds := [], alts := [], laidByText := true, laidKinds := [.data, .data, .data], laidTests := true, laidLooks := .later }
def RatioOrderCardSaid : Prop := Claim7.holds Tryd.pinned (.plain (OpenSpec.ofChange ratioOrderSpec)) ratioOrderCard

/-- THE SECOND FORM's CARD OF 'plimsolllaw02.RatioTells'. -/
def ratioTellsUptoCard : Claim7 := { stood := { row := ratioTellsUptoRow, standIns := [], harness := (true, "f1f870e1767044cf0752cb39e1460be506002d8ba220cd5880455ced3030db32"), looks := false }, kinds := [], alts := [], laidByText := true, laidKinds := [.data, .data, .data, .data], laidTests := true, laidLooks := .later }
def RatioTellsUptoCardSaid : Prop := Claim7.holds Tryd.pinned (.plain (OpenSpec.upto ratioTellsSpec)) ratioTellsUptoCard

/-- THE SECOND FORM's CARD OF 'plimsolllaw02.RatioLess'. -/
def ratioLessUptoCard : Claim7 := { stood := { row := ratioLessUptoRow, standIns := [], harness := (true, "f1f870e1767044cf0752cb39e1460be506002d8ba220cd5880455ced3030db32"), looks := false }, kinds := [], alts := [], laidByText := true, laidKinds := [.data, .data, .data, .data], laidTests := true, laidLooks := .later }
def RatioLessUptoCardSaid : Prop := Claim7.holds Tryd.pinned (.plain (OpenSpec.upto ratioLessSpec)) ratioLessUptoCard

/-- THE SECOND FORM's CARD OF 'plimsolllaw02.RatioSame'. -/
def ratioSameUptoCard : Claim7 := { stood := { row := ratioSameUptoRow, standIns := [], harness := (true, "f1f870e1767044cf0752cb39e1460be506002d8ba220cd5880455ced3030db32"), looks := false }, kinds := [], alts := [], laidByText := true, laidKinds := [.data, .data, .data], laidTests := true, laidLooks := .later }
def RatioSameUptoCardSaid : Prop := Claim7.holds Tryd.pinned (.plain (OpenSpec.upto ratioSameSpec)) ratioSameUptoCard

/-- THE SECOND FORM's CARD OF 'plimsolllaw02.RatioOrder'. -/
def ratioOrderUptoCard : Claim7 := { stood := { row := ratioOrderUptoRow, standIns := [], harness := (true, "f1f870e1767044cf0752cb39e1460be506002d8ba220cd5880455ced3030db32"), looks := false }, kinds := [], alts := [], laidByText := true, laidKinds := [.data, .data, .data], laidTests := true, laidLooks := .later }
def RatioOrderUptoCardSaid : Prop := Claim7.holds Tryd.pinned (.plain (OpenSpec.upto ratioOrderSpec)) ratioOrderUptoCard
end Rows
end Go.Proofs.YtpdleggpmhlagaaDoor

/-
  No cell of these rows narrows 'for every input' (looked for: loops, veiled, ifaces, maps, wideKeys, modest, calm, conditions, laid).
  DERIVED. THE GIVEN ROWS OF THIS SEAT. 4 by the template 'for every input the law returns true; each argument reads behind the call as it read before'; 0 by the template 'total and deterministic' (their statements: YtigfbmkjbhfmfaaTotals.lean).
  GIVEN WITH THE SEED: the statements are not yours to turn. If you find one false, say at which input.
  Laid BY PROGRAM, IN A SANDBOX (cutbox-rows.mjs): the forced cells as the released guide's own fill.sh prints them over the translation 3949d28a08fdc54a… (all of the seat's roots in one cut). By AI agents, Wed Nov 11 2026. No macro, syntax, notation, axiom, sorry.
-/
import Derived.Test.YtigfbmkjbhfmfaaChecked
import GoSem.Claim
import GoSem.ClaimJoined
import GoSem.ClaimMapViews
import Derived.JoinedTies
import Derived.KernelRfl
namespace Go.Proofs.Ytigfbmkjbhfmfaa
/- THE CELL 'sum', in the pinned program and in every row, IS THE sha256 OF THE DUMP (.gsa) THAT YtigfbmkjbhfmfaaProg.lean LOADS. Nothing in Lean hashes anything: it is a label: what it is worth is what the hold of that sum in a sandbox is worth. -/
noncomputable def Try.pinned : Pinned := { name := "ytigfbmkjbhfmfaa", sum := "3949d28a08fdc54adcbaafdf8331a30bcdf25828b762cda1a6e77536ef5bce3e", checked := Try.checked }
namespace Rows
def none {H : Type} : Left H := { results := [], args := [] }

/-- 'plimsolllaw08.CellTells': WHATEVER THE INPUT: true; the input reads as it did. -/
def cellTellsSpec : ChangeSpec := { name := "cellTells", fn := fun _ => fun
  | [d1, d2, d3, d4] => { results := [.lit (.bool true)], args := [d1, d2, d3, d4] }
  | _ => none }
def cellTellsRow : OpenClaim := { program := "ytigfbmkjbhfmfaa", sum := "3949d28a08fdc54adcbaafdf8331a30bcdf25828b762cda1a6e77536ef5bce3e", func := "plimsoll/plimsolllaw08.CellTells", spec := "cellTells", inPlace := ["math/bits.Add64"], apart := false }
def CellTellsSaid : Prop := cellTellsRow.holds Try.pinned (OpenSpec.ofChange cellTellsSpec)

/-- ITS FALSE NEIGHBOUR: 'it returns false'. Refute it at one input. -/
def cellTellsWrong : ChangeSpec := { name := "cellTells", fn := fun _ => fun
  | [d1, d2, d3, d4] => { results := [.lit (.bool false)], args := [d1, d2, d3, d4] }
  | _ => none }
def CellTellsWrongFalsely : Prop := cellTellsRow.holds Try.pinned (OpenSpec.ofChange cellTellsWrong)

/-- 'plimsolllaw08.CellOf': WHATEVER THE INPUT: true; the input reads as it did. -/
def cellOfSpec : ChangeSpec := { name := "cellOf", fn := fun _ => fun
  | [d] => { results := [.lit (.bool true)], args := [d] }
  | _ => none }
def cellOfRow : OpenClaim := { program := "ytigfbmkjbhfmfaa", sum := "3949d28a08fdc54adcbaafdf8331a30bcdf25828b762cda1a6e77536ef5bce3e", func := "plimsoll/plimsolllaw08.CellOf", spec := "cellOf", inPlace := ["math/bits.Add64"], apart := false }
def CellOfSaid : Prop := cellOfRow.holds Try.pinned (OpenSpec.ofChange cellOfSpec)

/-- ITS FALSE NEIGHBOUR: 'it returns false'. Refute it at one input. -/
def cellOfWrong : ChangeSpec := { name := "cellOf", fn := fun _ => fun
  | [d] => { results := [.lit (.bool false)], args := [d] }
  | _ => none }
def CellOfWrongFalsely : Prop := cellOfRow.holds Try.pinned (OpenSpec.ofChange cellOfWrong)

/-- 'plimsolllaw08.CellRight': WHATEVER THE INPUT: true; the input reads as it did. -/
def cellRightSpec : ChangeSpec := { name := "cellRight", fn := fun _ => fun
  | [d1, d2, d3] => { results := [.lit (.bool true)], args := [d1, d2, d3] }
  | _ => none }
def cellRightRow : OpenClaim := { program := "ytigfbmkjbhfmfaa", sum := "3949d28a08fdc54adcbaafdf8331a30bcdf25828b762cda1a6e77536ef5bce3e", func := "plimsoll/plimsolllaw08.CellRight", spec := "cellRight", inPlace := ["math/bits.Add64"], apart := false }
def CellRightSaid : Prop := cellRightRow.holds Try.pinned (OpenSpec.ofChange cellRightSpec)

/-- ITS FALSE NEIGHBOUR: 'it returns false'. Refute it at one input. -/
def cellRightWrong : ChangeSpec := { name := "cellRight", fn := fun _ => fun
  | [d1, d2, d3] => { results := [.lit (.bool false)], args := [d1, d2, d3] }
  | _ => none }
def CellRightWrongFalsely : Prop := cellRightRow.holds Try.pinned (OpenSpec.ofChange cellRightWrong)

/-- 'plimsolllaw08.CellParts': WHATEVER THE INPUT: true; the input reads as it did. -/
def cellPartsSpec : ChangeSpec := { name := "cellParts", fn := fun _ => fun
  | [d1, d2, d3] => { results := [.lit (.bool true)], args := [d1, d2, d3] }
  | _ => none }
def cellPartsRow : OpenClaim := { program := "ytigfbmkjbhfmfaa", sum := "3949d28a08fdc54adcbaafdf8331a30bcdf25828b762cda1a6e77536ef5bce3e", func := "plimsoll/plimsolllaw08.CellParts", spec := "cellParts", inPlace := ["math/bits.Add64"], apart := false }
def CellPartsSaid : Prop := cellPartsRow.holds Try.pinned (OpenSpec.ofChange cellPartsSpec)

/-- ITS FALSE NEIGHBOUR: 'it returns false'. Refute it at one input. -/
def cellPartsWrong : ChangeSpec := { name := "cellParts", fn := fun _ => fun
  | [d1, d2, d3] => { results := [.lit (.bool false)], args := [d1, d2, d3] }
  | _ => none }
def CellPartsWrongFalsely : Prop := cellPartsRow.holds Try.pinned (OpenSpec.ofChange cellPartsWrong)

/- THE SECOND FORM. 'bulk': how many values and letters a reading holds, each counted each time it is reached (what is shared counts as often as it is met; a slice's spare places count too). A statement '..UptoSaid' is the law's where the arguments, and the package variables that the reading takes, are together of bulk at most 1048576: NARROWER than '..Said'. Prove '..Said' where nothing that the law and all that it calls make is longer than what came in: it says more and counts as full. Else prove '..UptoSaid'. A law counts once. -/
mutual
def uptoBulk {H : Type} : DataW H → Nat
  | .lit (.string bytes) => bytes.length + 1
  | .lit _ => 1
  | .nil => 1
  | .ptr d => uptoBulk d + 1
  | .slice elems spare => uptoBulkAll elems + uptoBulkAll spare + 1
  | .agg parts => uptoBulkAll parts + 1
  | .iface _ d => uptoBulk d + 1
  | .map entries => uptoBulkEntries entries + 1
  | .held _ => 1
def uptoBulkAll {H : Type} : List (DataW H) → Nat
  | [] => 0
  | d :: r => uptoBulk d + uptoBulkAll r
def uptoBulkEntries {H : Type} : List (Lit × DataW H) → Nat
  | [] => 0
  | x :: r => uptoBulkEntry x + uptoBulkEntries r
def uptoBulkEntry {H : Type} : Lit × DataW H → Nat
  | (.string bytes, d) => bytes.length + uptoBulk d + 1
  | (_, d) => uptoBulk d + 1
 end
def uptoSmall : (H : Type) → List (DataW H) → Bool := fun _ ds => decide (uptoBulkAll ds ≤ 1048576)
def OpenSpec.upto (s : _root_.Go.ChangeSpec) : _root_.Go.OpenSpec := { _root_.Go.OpenSpec.ofChange s with cond := some uptoSmall }

/-- 'plimsolllaw08.CellTells', WHERE WHAT IT READS IS OF BULK AT MOST 1048576: true; the input reads as it did. -/
def cellTellsUptoRow : OpenClaim := { program := "ytigfbmkjbhfmfaa", sum := "3949d28a08fdc54adcbaafdf8331a30bcdf25828b762cda1a6e77536ef5bce3e", func := "plimsoll/plimsolllaw08.CellTells", spec := "cellTells", inPlace := ["math/bits.Add64"], apart := false, narrowed := true }
def CellTellsUptoSaid : Prop := cellTellsUptoRow.holds Try.pinned (OpenSpec.upto cellTellsSpec)

/-- 'plimsolllaw08.CellOf', WHERE WHAT IT READS IS OF BULK AT MOST 1048576: true; the input reads as it did. -/
def cellOfUptoRow : OpenClaim := { program := "ytigfbmkjbhfmfaa", sum := "3949d28a08fdc54adcbaafdf8331a30bcdf25828b762cda1a6e77536ef5bce3e", func := "plimsoll/plimsolllaw08.CellOf", spec := "cellOf", inPlace := ["math/bits.Add64"], apart := false, narrowed := true }
def CellOfUptoSaid : Prop := cellOfUptoRow.holds Try.pinned (OpenSpec.upto cellOfSpec)

/-- 'plimsolllaw08.CellRight', WHERE WHAT IT READS IS OF BULK AT MOST 1048576: true; the input reads as it did. -/
def cellRightUptoRow : OpenClaim := { program := "ytigfbmkjbhfmfaa", sum := "3949d28a08fdc54adcbaafdf8331a30bcdf25828b762cda1a6e77536ef5bce3e", func := "plimsoll/plimsolllaw08.CellRight", spec := "cellRight", inPlace := ["math/bits.Add64"], apart := false, narrowed := true }
def CellRightUptoSaid : Prop := cellRightUptoRow.holds Try.pinned (OpenSpec.upto cellRightSpec)

/-- 'plimsolllaw08.CellParts', WHERE WHAT IT READS IS OF BULK AT MOST 1048576: true; the input reads as it did. -/
def cellPartsUptoRow : OpenClaim := { program := "ytigfbmkjbhfmfaa", sum := "3949d28a08fdc54adcbaafdf8331a30bcdf25828b762cda1a6e77536ef5bce3e", func := "plimsoll/plimsolllaw08.CellParts", spec := "cellParts", inPlace := ["math/bits.Add64"], apart := false, narrowed := true }
def CellPartsUptoSaid : Prop := cellPartsUptoRow.holds Try.pinned (OpenSpec.upto cellPartsSpec)

end Rows
end Go.Proofs.Ytigfbmkjbhfmfaa

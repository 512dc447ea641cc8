/-
  NARROWER THAN 'FOR EVERY INPUT', by the rows' own cells (each row's printed sentence says how): QuantTells: laid · QuantRank: laid · QuantOrder: laid · QuantFirst: laid.
  DERIVED. THE GIVEN ROWS OF THIS SEAT. 4 by the template 'for every input the law returns true; each argument reads behind the call as it read before'; 0 by the template 'total and deterministic' (their statements: YtmnlmmbfjfgfeaaDoorTotals.lean).
  GIVEN WITH THE SEED: the statements are not yours to turn. If you find one false, say at which input.
  Laid BY PROGRAM, IN A SANDBOX (cutbox-rows.mjs): the forced cells as the released guide's own fill.sh prints them over the translation d2cad41eeecae33b… (all of the seat's roots in one cut). By AI agents, Wed Nov 11 2026. No macro, syntax, notation, axiom, sorry.
-/
import Derived.Test.YtmnlmmbfjfgfeaaDoorChecked
import GoSem.Claim
import GoSem.ClaimJoined
import GoSem.ClaimMapViews
import Derived.JoinedTies
import Derived.KernelRfl
namespace Go.Proofs.YtmnlmmbfjfgfeaaDoor
/- THE CELL 'sum', in the pinned program and in every row, IS THE sha256 OF THE DUMP (.gsa) THAT YtmnlmmbfjfgfeaaDoorProg.lean LOADS. Nothing in Lean hashes anything: it is a label: what it is worth is what the hold of that sum in a sandbox is worth. -/
noncomputable def Tryd.pinned : Pinned := { name := "ytmnlmmbfjfgfeaadoor", sum := "d2cad41eeecae33bb349bd27d188538e69946cb54b925b8b35861c34cea8cf6f", checked := Tryd.checked }
namespace Rows
def none {H : Type} : Left H := { results := [], args := [] }

/- WHAT THE LISTED PACKAGE-LEVEL VARIABLES READ AS WHEN THE CALL BEGINS. Each datum BY PROGRAM (the guide's laid-datum.mjs) off the statement by which the dump's own 'gosem.cut.vars' lays the variable. In a bare row this is a premise. The card (YtmnlmmbfjfgfeaaDoorCards.lean) ties it to the program's text. -/
def laid_math_bits_deBruijn64tab {H : Type} : DataW H := .agg [.lit (.int .u8 0), .lit (.int .u8 1), .lit (.int .u8 56), .lit (.int .u8 2), .lit (.int .u8 57), .lit (.int .u8 49), .lit (.int .u8 28), .lit (.int .u8 3), .lit (.int .u8 61), .lit (.int .u8 58), .lit (.int .u8 42), .lit (.int .u8 50), .lit (.int .u8 38), .lit (.int .u8 29), .lit (.int .u8 17), .lit (.int .u8 4), .lit (.int .u8 62), .lit (.int .u8 47), .lit (.int .u8 59), .lit (.int .u8 36), .lit (.int .u8 45), .lit (.int .u8 43), .lit (.int .u8 51), .lit (.int .u8 22), .lit (.int .u8 53), .lit (.int .u8 39), .lit (.int .u8 33), .lit (.int .u8 30), .lit (.int .u8 24), .lit (.int .u8 18), .lit (.int .u8 12), .lit (.int .u8 5), .lit (.int .u8 63), .lit (.int .u8 55), .lit (.int .u8 48), .lit (.int .u8 27), .lit (.int .u8 60), .lit (.int .u8 41), .lit (.int .u8 37), .lit (.int .u8 16), .lit (.int .u8 46), .lit (.int .u8 35), .lit (.int .u8 44), .lit (.int .u8 21), .lit (.int .u8 52), .lit (.int .u8 32), .lit (.int .u8 23), .lit (.int .u8 11), .lit (.int .u8 54), .lit (.int .u8 26), .lit (.int .u8 40), .lit (.int .u8 15), .lit (.int .u8 34), .lit (.int .u8 20), .lit (.int .u8 31), .lit (.int .u8 10), .lit (.int .u8 25), .lit (.int .u8 14), .lit (.int .u8 19), .lit (.int .u8 9), .lit (.int .u8 13), .lit (.int .u8 8), .lit (.int .u8 7), .lit (.int .u8 6)]
def laid_plimsoll_plimsollref02_one {H : Type} : DataW H := .agg [.lit (.int .u64 0), .lit (.int .u64 1)]

/-- 'plimsolllaw40.QuantTells': WHATEVER THE INPUT: true; the input reads as it did. -/
def quantTellsSpec : ChangeSpec := { name := "quantTells", fn := fun _ => fun
  | [d1, d2, d3, d4, d5] => { results := [.lit (.bool true)], args := [d1, d2, d3, d4, d5] }
  | _ => none }
def quantTellsRow : OpenClaim := { program := "ytmnlmmbfjfgfeaadoor", sum := "d2cad41eeecae33bb349bd27d188538e69946cb54b925b8b35861c34cea8cf6f", func := "plimsoll/plimsolllaw40.QuantTells", spec := "quantTells", inPlace := ["math/bits.Sub64"], unfollowed := true, recurses := true, named := ["math/bits.deBruijn64tab", "math/bits.divideError", "math/bits.overflowError", "plimsoll/plimsollref02.one"], apart := false, laid := [("math/bits.deBruijn64tab", laid_math_bits_deBruijn64tab), ("plimsoll/plimsollref02.one", laid_plimsoll_plimsollref02_one)] }
def QuantTellsSaid : Prop := quantTellsRow.holds Tryd.pinned (OpenSpec.ofChange quantTellsSpec)

/-- ITS FALSE NEIGHBOUR: 'it returns false'. Refute it at one input. -/
def quantTellsWrong : ChangeSpec := { name := "quantTells", fn := fun _ => fun
  | [d1, d2, d3, d4, d5] => { results := [.lit (.bool false)], args := [d1, d2, d3, d4, d5] }
  | _ => none }
def QuantTellsWrongFalsely : Prop := quantTellsRow.holds Tryd.pinned (OpenSpec.ofChange quantTellsWrong)

/-- 'plimsolllaw40.QuantRank': WHATEVER THE INPUT: true; the input reads as it did. -/
def quantRankSpec : ChangeSpec := { name := "quantRank", fn := fun _ => fun
  | [d1, d2, d3, d4] => { results := [.lit (.bool true)], args := [d1, d2, d3, d4] }
  | _ => none }
def quantRankRow : OpenClaim := { program := "ytmnlmmbfjfgfeaadoor", sum := "d2cad41eeecae33bb349bd27d188538e69946cb54b925b8b35861c34cea8cf6f", func := "plimsoll/plimsolllaw40.QuantRank", spec := "quantRank", inPlace := ["math/bits.Sub64", "math/bits.Add64"], unfollowed := true, recurses := true, named := ["math/bits.deBruijn64tab", "math/bits.divideError", "math/bits.overflowError"], apart := false, laid := [("math/bits.deBruijn64tab", laid_math_bits_deBruijn64tab)] }
def QuantRankSaid : Prop := quantRankRow.holds Tryd.pinned (OpenSpec.ofChange quantRankSpec)

/-- ITS FALSE NEIGHBOUR: 'it returns false'. Refute it at one input. -/
def quantRankWrong : ChangeSpec := { name := "quantRank", fn := fun _ => fun
  | [d1, d2, d3, d4] => { results := [.lit (.bool false)], args := [d1, d2, d3, d4] }
  | _ => none }
def QuantRankWrongFalsely : Prop := quantRankRow.holds Tryd.pinned (OpenSpec.ofChange quantRankWrong)

/-- 'plimsolllaw40.QuantOrder': WHATEVER THE INPUT: true; the input reads as it did. -/
def quantOrderSpec : ChangeSpec := { name := "quantOrder", fn := fun _ => fun
  | [d1, d2] => { results := [.lit (.bool true)], args := [d1, d2] }
  | _ => none }
def quantOrderRow : OpenClaim := { program := "ytmnlmmbfjfgfeaadoor", sum := "d2cad41eeecae33bb349bd27d188538e69946cb54b925b8b35861c34cea8cf6f", func := "plimsoll/plimsolllaw40.QuantOrder", spec := "quantOrder", inPlace := ["math/bits.Sub64", "math/bits.Add64"], unfollowed := true, recurses := true, named := ["math/bits.deBruijn64tab", "math/bits.divideError", "math/bits.overflowError"], apart := false, laid := [("math/bits.deBruijn64tab", laid_math_bits_deBruijn64tab)] }
def QuantOrderSaid : Prop := quantOrderRow.holds Tryd.pinned (OpenSpec.ofChange quantOrderSpec)

/-- ITS FALSE NEIGHBOUR: 'it returns false'. Refute it at one input. -/
def quantOrderWrong : ChangeSpec := { name := "quantOrder", fn := fun _ => fun
  | [d1, d2] => { results := [.lit (.bool false)], args := [d1, d2] }
  | _ => none }
def QuantOrderWrongFalsely : Prop := quantOrderRow.holds Tryd.pinned (OpenSpec.ofChange quantOrderWrong)

/-- 'plimsolllaw40.QuantFirst': WHATEVER THE INPUT: true; the input reads as it did. -/
def quantFirstSpec : ChangeSpec := { name := "quantFirst", fn := fun _ => fun
  | [d1, d2, d3] => { results := [.lit (.bool true)], args := [d1, d2, d3] }
  | _ => none }
def quantFirstRow : OpenClaim := { program := "ytmnlmmbfjfgfeaadoor", sum := "d2cad41eeecae33bb349bd27d188538e69946cb54b925b8b35861c34cea8cf6f", func := "plimsoll/plimsolllaw40.QuantFirst", spec := "quantFirst", inPlace := ["math/bits.Sub64", "math/bits.Add64"], unfollowed := true, recurses := true, named := ["math/bits.deBruijn64tab", "math/bits.divideError", "math/bits.overflowError"], apart := false, laid := [("math/bits.deBruijn64tab", laid_math_bits_deBruijn64tab)] }
def QuantFirstSaid : Prop := quantFirstRow.holds Tryd.pinned (OpenSpec.ofChange quantFirstSpec)

/-- ITS FALSE NEIGHBOUR: 'it returns false'. Refute it at one input. -/
def quantFirstWrong : ChangeSpec := { name := "quantFirst", fn := fun _ => fun
  | [d1, d2, d3] => { results := [.lit (.bool false)], args := [d1, d2, d3] }
  | _ => none }
def QuantFirstWrongFalsely : Prop := quantFirstRow.holds Tryd.pinned (OpenSpec.ofChange quantFirstWrong)

/- THE SECOND FORM. 'bulk': how many values and letters a reading holds, each counted each time it is reached (what is shared counts as often as it is met; a slice's spare places count too). A statement '..UptoSaid' is the law's where the arguments, and the package variables that the reading takes, are together of bulk at most 1048576: NARROWER than '..Said'. Prove '..Said' where nothing that the law and all that it calls make is longer than what came in: it says more and counts as full. Else prove '..UptoSaid'. A law counts once. -/
mutual
def uptoBulk {H : Type} : DataW H → Nat
  | .lit (.string bytes) => bytes.length + 1
  | .lit _ => 1
  | .nil => 1
  | .ptr d => uptoBulk d + 1
  | .slice elems spare => uptoBulkAll elems + uptoBulkAll spare + 1
  | .agg parts => uptoBulkAll parts + 1
  | .iface _ d => uptoBulk d + 1
  | .map entries => uptoBulkEntries entries + 1
  | .held _ => 1
def uptoBulkAll {H : Type} : List (DataW H) → Nat
  | [] => 0
  | d :: r => uptoBulk d + uptoBulkAll r
def uptoBulkEntries {H : Type} : List (Lit × DataW H) → Nat
  | [] => 0
  | x :: r => uptoBulkEntry x + uptoBulkEntries r
def uptoBulkEntry {H : Type} : Lit × DataW H → Nat
  | (.string bytes, d) => bytes.length + uptoBulk d + 1
  | (_, d) => uptoBulk d + 1
 end
def uptoSmall : (H : Type) → List (DataW H) → Bool := fun _ ds => decide (uptoBulkAll ds ≤ 1048576)
def OpenSpec.upto (s : _root_.Go.ChangeSpec) : _root_.Go.OpenSpec := { _root_.Go.OpenSpec.ofChange s with cond := some uptoSmall }

/-- 'plimsolllaw40.QuantTells', WHERE WHAT IT READS IS OF BULK AT MOST 1048576: true; the input reads as it did. -/
def quantTellsUptoRow : OpenClaim := { program := "ytmnlmmbfjfgfeaadoor", sum := "d2cad41eeecae33bb349bd27d188538e69946cb54b925b8b35861c34cea8cf6f", func := "plimsoll/plimsolllaw40.QuantTells", spec := "quantTells", inPlace := ["math/bits.Sub64"], unfollowed := true, recurses := true, named := ["math/bits.deBruijn64tab", "math/bits.divideError", "math/bits.overflowError", "plimsoll/plimsollref02.one"], apart := false, laid := [("math/bits.deBruijn64tab", laid_math_bits_deBruijn64tab), ("plimsoll/plimsollref02.one", laid_plimsoll_plimsollref02_one)], narrowed := true }
def QuantTellsUptoSaid : Prop := quantTellsUptoRow.holds Tryd.pinned (OpenSpec.upto quantTellsSpec)

/-- 'plimsolllaw40.QuantRank', WHERE WHAT IT READS IS OF BULK AT MOST 1048576: true; the input reads as it did. -/
def quantRankUptoRow : OpenClaim := { program := "ytmnlmmbfjfgfeaadoor", sum := "d2cad41eeecae33bb349bd27d188538e69946cb54b925b8b35861c34cea8cf6f", func := "plimsoll/plimsolllaw40.QuantRank", spec := "quantRank", inPlace := ["math/bits.Sub64", "math/bits.Add64"], unfollowed := true, recurses := true, named := ["math/bits.deBruijn64tab", "math/bits.divideError", "math/bits.overflowError"], apart := false, laid := [("math/bits.deBruijn64tab", laid_math_bits_deBruijn64tab)], narrowed := true }
def QuantRankUptoSaid : Prop := quantRankUptoRow.holds Tryd.pinned (OpenSpec.upto quantRankSpec)

/-- 'plimsolllaw40.QuantOrder', WHERE WHAT IT READS IS OF BULK AT MOST 1048576: true; the input reads as it did. -/
def quantOrderUptoRow : OpenClaim := { program := "ytmnlmmbfjfgfeaadoor", sum := "d2cad41eeecae33bb349bd27d188538e69946cb54b925b8b35861c34cea8cf6f", func := "plimsoll/plimsolllaw40.QuantOrder", spec := "quantOrder", inPlace := ["math/bits.Sub64", "math/bits.Add64"], unfollowed := true, recurses := true, named := ["math/bits.deBruijn64tab", "math/bits.divideError", "math/bits.overflowError"], apart := false, laid := [("math/bits.deBruijn64tab", laid_math_bits_deBruijn64tab)], narrowed := true }
def QuantOrderUptoSaid : Prop := quantOrderUptoRow.holds Tryd.pinned (OpenSpec.upto quantOrderSpec)

/-- 'plimsolllaw40.QuantFirst', WHERE WHAT IT READS IS OF BULK AT MOST 1048576: true; the input reads as it did. -/
def quantFirstUptoRow : OpenClaim := { program := "ytmnlmmbfjfgfeaadoor", sum := "d2cad41eeecae33bb349bd27d188538e69946cb54b925b8b35861c34cea8cf6f", func := "plimsoll/plimsolllaw40.QuantFirst", spec := "quantFirst", inPlace := ["math/bits.Sub64", "math/bits.Add64"], unfollowed := true, recurses := true, named := ["math/bits.deBruijn64tab", "math/bits.divideError", "math/bits.overflowError"], apart := false, laid := [("math/bits.deBruijn64tab", laid_math_bits_deBruijn64tab)], narrowed := true }
def QuantFirstUptoSaid : Prop := quantFirstUptoRow.holds Tryd.pinned (OpenSpec.upto quantFirstSpec)

end Rows
end Go.Proofs.YtmnlmmbfjfgfeaaDoor

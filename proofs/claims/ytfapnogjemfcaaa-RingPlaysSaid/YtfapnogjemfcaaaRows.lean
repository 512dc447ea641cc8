/-
  No cell of these rows narrows 'for every input' (looked for: loops, veiled, ifaces, maps, wideKeys, modest, calm, conditions, laid).
  DERIVED. THE GIVEN ROWS OF THIS SEAT. 5 by the template 'for every input the law returns true; each argument reads behind the call as it read before'; 0 by the template 'total and deterministic' (their statements: YtfapnogjemfcaaaTotals.lean).
  GIVEN WITH THE SEED: the statements are not yours to turn. If you find one false, say at which input.
  Laid BY PROGRAM, IN A SANDBOX (cutbox-rows.mjs): the forced cells as the released guide's own fill.sh prints them over the translation d5077221ce5a3efa… (all of the seat's roots in one cut). By AI agents, Wed Nov 11 2026. No macro, syntax, notation, axiom, sorry.
-/
import Derived.Test.YtfapnogjemfcaaaChecked
import GoSem.Claim
import GoSem.ClaimJoined
import GoSem.ClaimMapViews
import Derived.JoinedTies
import Derived.KernelRfl
namespace Go.Proofs.Ytfapnogjemfcaaa
/- THE CELL 'sum', in the pinned program and in every row, IS THE sha256 OF THE DUMP (.gsa) THAT YtfapnogjemfcaaaProg.lean LOADS. Nothing in Lean hashes anything: it is a label: what it is worth is what the hold of that sum in a sandbox is worth. -/
noncomputable def Try.pinned : Pinned := { name := "ytfapnogjemfcaaa", sum := "d5077221ce5a3efa613e8bdb7948abab045c44280c93d1dafdba2a6f5d28f91a", checked := Try.checked }
namespace Rows
def none {H : Type} : Left H := { results := [], args := [] }

/-- 'plimsolllaw11.RingLast': WHATEVER THE INPUT: true; the input reads as it did. -/
def ringLastSpec : ChangeSpec := { name := "ringLast", fn := fun _ => fun
  | [d1, d2] => { results := [.lit (.bool true)], args := [d1, d2] }
  | _ => none }
def ringLastRow : OpenClaim := { program := "ytfapnogjemfcaaa", sum := "d5077221ce5a3efa613e8bdb7948abab045c44280c93d1dafdba2a6f5d28f91a", func := "plimsoll/plimsolllaw11.RingLast", spec := "ringLast", apart := false }
def RingLastSaid : Prop := ringLastRow.holds Try.pinned (OpenSpec.ofChange ringLastSpec)

/-- ITS FALSE NEIGHBOUR: 'it returns false'. Refute it at one input. -/
def ringLastWrong : ChangeSpec := { name := "ringLast", fn := fun _ => fun
  | [d1, d2] => { results := [.lit (.bool false)], args := [d1, d2] }
  | _ => none }
def RingLastWrongFalsely : Prop := ringLastRow.holds Try.pinned (OpenSpec.ofChange ringLastWrong)

/-- 'plimsolllaw09.WindowTells': WHATEVER THE INPUT: true; the input reads as it did. -/
def windowTellsSpec : ChangeSpec := { name := "windowTells", fn := fun _ => fun
  | [d1, d2, d3, d4] => { results := [.lit (.bool true)], args := [d1, d2, d3, d4] }
  | _ => none }
def windowTellsRow : OpenClaim := { program := "ytfapnogjemfcaaa", sum := "d5077221ce5a3efa613e8bdb7948abab045c44280c93d1dafdba2a6f5d28f91a", func := "plimsoll/plimsolllaw09.WindowTells", spec := "windowTells", apart := false }
def WindowTellsSaid : Prop := windowTellsRow.holds Try.pinned (OpenSpec.ofChange windowTellsSpec)

/-- ITS FALSE NEIGHBOUR: 'it returns false'. Refute it at one input. -/
def windowTellsWrong : ChangeSpec := { name := "windowTells", fn := fun _ => fun
  | [d1, d2, d3, d4] => { results := [.lit (.bool false)], args := [d1, d2, d3, d4] }
  | _ => none }
def WindowTellsWrongFalsely : Prop := windowTellsRow.holds Try.pinned (OpenSpec.ofChange windowTellsWrong)

/-- 'plimsolllaw09.WindowOwn': WHATEVER THE INPUT: true; the input reads as it did. -/
def windowOwnSpec : ChangeSpec := { name := "windowOwn", fn := fun _ => fun
  | [d1, d2, d3, d4, d5, d6, d7] => { results := [.lit (.bool true)], args := [d1, d2, d3, d4, d5, d6, d7] }
  | _ => none }
def windowOwnRow : OpenClaim := { program := "ytfapnogjemfcaaa", sum := "d5077221ce5a3efa613e8bdb7948abab045c44280c93d1dafdba2a6f5d28f91a", func := "plimsoll/plimsolllaw09.WindowOwn", spec := "windowOwn", apart := false }
def WindowOwnSaid : Prop := windowOwnRow.holds Try.pinned (OpenSpec.ofChange windowOwnSpec)

/-- ITS FALSE NEIGHBOUR: 'it returns false'. Refute it at one input. -/
def windowOwnWrong : ChangeSpec := { name := "windowOwn", fn := fun _ => fun
  | [d1, d2, d3, d4, d5, d6, d7] => { results := [.lit (.bool false)], args := [d1, d2, d3, d4, d5, d6, d7] }
  | _ => none }
def WindowOwnWrongFalsely : Prop := windowOwnRow.holds Try.pinned (OpenSpec.ofChange windowOwnWrong)

/-- 'plimsolllaw09.WindowWithin': WHATEVER THE INPUT: true; the input reads as it did. -/
def windowWithinSpec : ChangeSpec := { name := "windowWithin", fn := fun _ => fun
  | [d1, d2, d3] => { results := [.lit (.bool true)], args := [d1, d2, d3] }
  | _ => none }
def windowWithinRow : OpenClaim := { program := "ytfapnogjemfcaaa", sum := "d5077221ce5a3efa613e8bdb7948abab045c44280c93d1dafdba2a6f5d28f91a", func := "plimsoll/plimsolllaw09.WindowWithin", spec := "windowWithin", apart := false }
def WindowWithinSaid : Prop := windowWithinRow.holds Try.pinned (OpenSpec.ofChange windowWithinSpec)

/-- ITS FALSE NEIGHBOUR: 'it returns false'. Refute it at one input. -/
def windowWithinWrong : ChangeSpec := { name := "windowWithin", fn := fun _ => fun
  | [d1, d2, d3] => { results := [.lit (.bool false)], args := [d1, d2, d3] }
  | _ => none }
def WindowWithinWrongFalsely : Prop := windowWithinRow.holds Try.pinned (OpenSpec.ofChange windowWithinWrong)

/-- 'plimsolllaw11.RingPlays': WHATEVER THE INPUT: true; the input reads as it did. -/
def ringPlaysSpec : ChangeSpec := { name := "ringPlays", fn := fun _ => fun
  | [d1, d2, d3] => { results := [.lit (.bool true)], args := [d1, d2, d3] }
  | _ => none }
def ringPlaysRow : OpenClaim := { program := "ytfapnogjemfcaaa", sum := "d5077221ce5a3efa613e8bdb7948abab045c44280c93d1dafdba2a6f5d28f91a", func := "plimsoll/plimsolllaw11.RingPlays", spec := "ringPlays", apart := false }
def RingPlaysSaid : Prop := ringPlaysRow.holds Try.pinned (OpenSpec.ofChange ringPlaysSpec)

/-- ITS FALSE NEIGHBOUR: 'it returns false'. Refute it at one input. -/
def ringPlaysWrong : ChangeSpec := { name := "ringPlays", fn := fun _ => fun
  | [d1, d2, d3] => { results := [.lit (.bool false)], args := [d1, d2, d3] }
  | _ => none }
def RingPlaysWrongFalsely : Prop := ringPlaysRow.holds Try.pinned (OpenSpec.ofChange ringPlaysWrong)

/- THE SECOND FORM. 'bulk': how many values and letters a reading holds, each counted each time it is reached (what is shared counts as often as it is met; a slice's spare places count too). A statement '..UptoSaid' is the law's where the arguments, and the package variables that the reading takes, are together of bulk at most 1048576: NARROWER than '..Said'. Prove '..Said' where nothing that the law and all that it calls make is longer than what came in: it says more and counts as full. Else prove '..UptoSaid'. A law counts once. -/
mutual
def uptoBulk {H : Type} : DataW H → Nat
  | .lit (.string bytes) => bytes.length + 1
  | .lit _ => 1
  | .nil => 1
  | .ptr d => uptoBulk d + 1
  | .slice elems spare => uptoBulkAll elems + uptoBulkAll spare + 1
  | .agg parts => uptoBulkAll parts + 1
  | .iface _ d => uptoBulk d + 1
  | .map entries => uptoBulkEntries entries + 1
  | .held _ => 1
def uptoBulkAll {H : Type} : List (DataW H) → Nat
  | [] => 0
  | d :: r => uptoBulk d + uptoBulkAll r
def uptoBulkEntries {H : Type} : List (Lit × DataW H) → Nat
  | [] => 0
  | x :: r => uptoBulkEntry x + uptoBulkEntries r
def uptoBulkEntry {H : Type} : Lit × DataW H → Nat
  | (.string bytes, d) => bytes.length + uptoBulk d + 1
  | (_, d) => uptoBulk d + 1
 end
def uptoSmall : (H : Type) → List (DataW H) → Bool := fun _ ds => decide (uptoBulkAll ds ≤ 1048576)
def OpenSpec.upto (s : _root_.Go.ChangeSpec) : _root_.Go.OpenSpec := { _root_.Go.OpenSpec.ofChange s with cond := some uptoSmall }

/-- 'plimsolllaw11.RingLast', WHERE WHAT IT READS IS OF BULK AT MOST 1048576: true; the input reads as it did. -/
def ringLastUptoRow : OpenClaim := { program := "ytfapnogjemfcaaa", sum := "d5077221ce5a3efa613e8bdb7948abab045c44280c93d1dafdba2a6f5d28f91a", func := "plimsoll/plimsolllaw11.RingLast", spec := "ringLast", apart := false, narrowed := true }
def RingLastUptoSaid : Prop := ringLastUptoRow.holds Try.pinned (OpenSpec.upto ringLastSpec)

/-- 'plimsolllaw09.WindowTells', WHERE WHAT IT READS IS OF BULK AT MOST 1048576: true; the input reads as it did. -/
def windowTellsUptoRow : OpenClaim := { program := "ytfapnogjemfcaaa", sum := "d5077221ce5a3efa613e8bdb7948abab045c44280c93d1dafdba2a6f5d28f91a", func := "plimsoll/plimsolllaw09.WindowTells", spec := "windowTells", apart := false, narrowed := true }
def WindowTellsUptoSaid : Prop := windowTellsUptoRow.holds Try.pinned (OpenSpec.upto windowTellsSpec)

/-- 'plimsolllaw09.WindowOwn', WHERE WHAT IT READS IS OF BULK AT MOST 1048576: true; the input reads as it did. -/
def windowOwnUptoRow : OpenClaim := { program := "ytfapnogjemfcaaa", sum := "d5077221ce5a3efa613e8bdb7948abab045c44280c93d1dafdba2a6f5d28f91a", func := "plimsoll/plimsolllaw09.WindowOwn", spec := "windowOwn", apart := false, narrowed := true }
def WindowOwnUptoSaid : Prop := windowOwnUptoRow.holds Try.pinned (OpenSpec.upto windowOwnSpec)

/-- 'plimsolllaw09.WindowWithin', WHERE WHAT IT READS IS OF BULK AT MOST 1048576: true; the input reads as it did. -/
def windowWithinUptoRow : OpenClaim := { program := "ytfapnogjemfcaaa", sum := "d5077221ce5a3efa613e8bdb7948abab045c44280c93d1dafdba2a6f5d28f91a", func := "plimsoll/plimsolllaw09.WindowWithin", spec := "windowWithin", apart := false, narrowed := true }
def WindowWithinUptoSaid : Prop := windowWithinUptoRow.holds Try.pinned (OpenSpec.upto windowWithinSpec)

/-- 'plimsolllaw11.RingPlays', WHERE WHAT IT READS IS OF BULK AT MOST 1048576: true; the input reads as it did. -/
def ringPlaysUptoRow : OpenClaim := { program := "ytfapnogjemfcaaa", sum := "d5077221ce5a3efa613e8bdb7948abab045c44280c93d1dafdba2a6f5d28f91a", func := "plimsoll/plimsolllaw11.RingPlays", spec := "ringPlays", apart := false, narrowed := true }
def RingPlaysUptoSaid : Prop := ringPlaysUptoRow.holds Try.pinned (OpenSpec.upto ringPlaysSpec)

end Rows
end Go.Proofs.Ytfapnogjemfcaaa

/-
  No cell of these rows narrows 'for every input' (looked for: loops, veiled, ifaces, maps, wideKeys, modest, calm, conditions, laid).
  DERIVED. THE GIVEN ROWS OF THIS SEAT. 3 by the template 'for every input the law returns true; each argument reads behind the call as it read before'; 0 by the template 'total and deterministic' (their statements: YtegokapgmhoecaaTotals.lean).
  GIVEN WITH THE SEED: the statements are not yours to turn. If you find one false, say at which input.
  Laid BY PROGRAM, IN A SANDBOX (cutbox-rows.mjs): the forced cells as the released guide's own fill.sh prints them over the translation ab0f29cce63ffc1e… (all of the seat's roots in one cut). By AI agents, Wed Nov 11 2026. No macro, syntax, notation, axiom, sorry.
-/
import Derived.Test.YtegokapgmhoecaaChecked
import GoSem.Claim
import GoSem.ClaimJoined
import GoSem.ClaimMapViews
import Derived.JoinedTies
import Derived.KernelRfl
namespace Go.Proofs.Ytegokapgmhoecaa
/- THE CELL 'sum', in the pinned program and in every row, IS THE sha256 OF THE DUMP (.gsa) THAT YtegokapgmhoecaaProg.lean LOADS. Nothing in Lean hashes anything: it is a label: what it is worth is what the hold of that sum in a sandbox is worth. -/
noncomputable def Try.pinned : Pinned := { name := "ytegokapgmhoecaa", sum := "ab0f29cce63ffc1e690f942e779be8644e7d953c8d5905cb66751b7f40dd91a6", checked := Try.checked }
namespace Rows
def none {H : Type} : Left H := { results := [], args := [] }

/-- 'plimsolllaw16.NamesIndex': WHATEVER THE INPUT: true; the input reads as it did. -/
def namesIndexSpec : ChangeSpec := { name := "namesIndex", fn := fun _ => fun
  | [d1, d2, d3] => { results := [.lit (.bool true)], args := [d1, d2, d3] }
  | _ => none }
def namesIndexRow : OpenClaim := { program := "ytegokapgmhoecaa", sum := "ab0f29cce63ffc1e690f942e779be8644e7d953c8d5905cb66751b7f40dd91a6", func := "plimsoll/plimsolllaw16.NamesIndex", spec := "namesIndex", inPlace := ["slices.overlaps[plimsoll/names.pair[string, int]]"], unfollowed := true, recurses := true, apart := false }
def NamesIndexSaid : Prop := namesIndexRow.holds Try.pinned (OpenSpec.ofChange namesIndexSpec)

/-- ITS FALSE NEIGHBOUR: 'it returns false'. Refute it at one input. -/
def namesIndexWrong : ChangeSpec := { name := "namesIndex", fn := fun _ => fun
  | [d1, d2, d3] => { results := [.lit (.bool false)], args := [d1, d2, d3] }
  | _ => none }
def NamesIndexWrongFalsely : Prop := namesIndexRow.holds Try.pinned (OpenSpec.ofChange namesIndexWrong)

/-- 'plimsolllaw16.NamesFree': WHATEVER THE INPUT: true; the input reads as it did. -/
def namesFreeSpec : ChangeSpec := { name := "namesFree", fn := fun _ => fun
  | [d1, d2] => { results := [.lit (.bool true)], args := [d1, d2] }
  | _ => none }
def namesFreeRow : OpenClaim := { program := "ytegokapgmhoecaa", sum := "ab0f29cce63ffc1e690f942e779be8644e7d953c8d5905cb66751b7f40dd91a6", func := "plimsoll/plimsolllaw16.NamesFree", spec := "namesFree", inPlace := ["slices.overlaps[plimsoll/names.pair[string, int]]"], unfollowed := true, recurses := true, apart := false }
def NamesFreeSaid : Prop := namesFreeRow.holds Try.pinned (OpenSpec.ofChange namesFreeSpec)

/-- ITS FALSE NEIGHBOUR: 'it returns false'. Refute it at one input. -/
def namesFreeWrong : ChangeSpec := { name := "namesFree", fn := fun _ => fun
  | [d1, d2] => { results := [.lit (.bool false)], args := [d1, d2] }
  | _ => none }
def NamesFreeWrongFalsely : Prop := namesFreeRow.holds Try.pinned (OpenSpec.ofChange namesFreeWrong)

/-- 'plimsolllaw16.NamesOnce': WHATEVER THE INPUT: true; the input reads as it did. -/
def namesOnceSpec : ChangeSpec := { name := "namesOnce", fn := fun _ => fun
  | [d1, d2] => { results := [.lit (.bool true)], args := [d1, d2] }
  | _ => none }
def namesOnceRow : OpenClaim := { program := "ytegokapgmhoecaa", sum := "ab0f29cce63ffc1e690f942e779be8644e7d953c8d5905cb66751b7f40dd91a6", func := "plimsoll/plimsolllaw16.NamesOnce", spec := "namesOnce", inPlace := ["slices.overlaps[plimsoll/names.pair[string, int]]"], unfollowed := true, recurses := true, apart := false }
def NamesOnceSaid : Prop := namesOnceRow.holds Try.pinned (OpenSpec.ofChange namesOnceSpec)

/-- ITS FALSE NEIGHBOUR: 'it returns false'. Refute it at one input. -/
def namesOnceWrong : ChangeSpec := { name := "namesOnce", fn := fun _ => fun
  | [d1, d2] => { results := [.lit (.bool false)], args := [d1, d2] }
  | _ => none }
def NamesOnceWrongFalsely : Prop := namesOnceRow.holds Try.pinned (OpenSpec.ofChange namesOnceWrong)

/- THE SECOND FORM. 'bulk': how many values and letters a reading holds, each counted each time it is reached (what is shared counts as often as it is met; a slice's spare places count too). A statement '..UptoSaid' is the law's where the arguments, and the package variables that the reading takes, are together of bulk at most 1048576: NARROWER than '..Said'. Prove '..Said' where nothing that the law and all that it calls make is longer than what came in: it says more and counts as full. Else prove '..UptoSaid'. A law counts once. -/
mutual
def uptoBulk {H : Type} : DataW H → Nat
  | .lit (.string bytes) => bytes.length + 1
  | .lit _ => 1
  | .nil => 1
  | .ptr d => uptoBulk d + 1
  | .slice elems spare => uptoBulkAll elems + uptoBulkAll spare + 1
  | .agg parts => uptoBulkAll parts + 1
  | .iface _ d => uptoBulk d + 1
  | .map entries => uptoBulkEntries entries + 1
  | .held _ => 1
def uptoBulkAll {H : Type} : List (DataW H) → Nat
  | [] => 0
  | d :: r => uptoBulk d + uptoBulkAll r
def uptoBulkEntries {H : Type} : List (Lit × DataW H) → Nat
  | [] => 0
  | x :: r => uptoBulkEntry x + uptoBulkEntries r
def uptoBulkEntry {H : Type} : Lit × DataW H → Nat
  | (.string bytes, d) => bytes.length + uptoBulk d + 1
  | (_, d) => uptoBulk d + 1
 end
def uptoSmall : (H : Type) → List (DataW H) → Bool := fun _ ds => decide (uptoBulkAll ds ≤ 1048576)
def OpenSpec.upto (s : _root_.Go.ChangeSpec) : _root_.Go.OpenSpec := { _root_.Go.OpenSpec.ofChange s with cond := some uptoSmall }

/-- 'plimsolllaw16.NamesIndex', WHERE WHAT IT READS IS OF BULK AT MOST 1048576: true; the input reads as it did. -/
def namesIndexUptoRow : OpenClaim := { program := "ytegokapgmhoecaa", sum := "ab0f29cce63ffc1e690f942e779be8644e7d953c8d5905cb66751b7f40dd91a6", func := "plimsoll/plimsolllaw16.NamesIndex", spec := "namesIndex", inPlace := ["slices.overlaps[plimsoll/names.pair[string, int]]"], unfollowed := true, recurses := true, apart := false, narrowed := true }
def NamesIndexUptoSaid : Prop := namesIndexUptoRow.holds Try.pinned (OpenSpec.upto namesIndexSpec)

/-- 'plimsolllaw16.NamesFree', WHERE WHAT IT READS IS OF BULK AT MOST 1048576: true; the input reads as it did. -/
def namesFreeUptoRow : OpenClaim := { program := "ytegokapgmhoecaa", sum := "ab0f29cce63ffc1e690f942e779be8644e7d953c8d5905cb66751b7f40dd91a6", func := "plimsoll/plimsolllaw16.NamesFree", spec := "namesFree", inPlace := ["slices.overlaps[plimsoll/names.pair[string, int]]"], unfollowed := true, recurses := true, apart := false, narrowed := true }
def NamesFreeUptoSaid : Prop := namesFreeUptoRow.holds Try.pinned (OpenSpec.upto namesFreeSpec)

/-- 'plimsolllaw16.NamesOnce', WHERE WHAT IT READS IS OF BULK AT MOST 1048576: true; the input reads as it did. -/
def namesOnceUptoRow : OpenClaim := { program := "ytegokapgmhoecaa", sum := "ab0f29cce63ffc1e690f942e779be8644e7d953c8d5905cb66751b7f40dd91a6", func := "plimsoll/plimsolllaw16.NamesOnce", spec := "namesOnce", inPlace := ["slices.overlaps[plimsoll/names.pair[string, int]]"], unfollowed := true, recurses := true, apart := false, narrowed := true }
def NamesOnceUptoSaid : Prop := namesOnceUptoRow.holds Try.pinned (OpenSpec.upto namesOnceSpec)

end Rows
end Go.Proofs.Ytegokapgmhoecaa

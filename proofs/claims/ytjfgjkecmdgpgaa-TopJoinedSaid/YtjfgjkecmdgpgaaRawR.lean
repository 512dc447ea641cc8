/- The contracts of the document's raw events: which are right, one more is put. -/
import Derived.Test.YtjfgjkecmdgpgaaRawC
set_option linter.unusedSimpArgs false
set_option linter.unusedVariables false
set_option linter.unusedSectionVars false
set_option maxRecDepth 20000
namespace Go.Proofs.Ytjfgjkecmdgpgaa
open Go Go.J
attribute [local irreducible] At AtQ AtM AtM1 PR Ct Pu Rd Res.blk Res.own Res.ex RVs RV
namespace Raw
open Ev Mrg
abbrev rcs (lost mark : Int) (p : Option Addr) (n c : Nat) : List Value := [.int .i64 lost, .int .i64 mark, .slice p n c]
end Raw
end Go.Proofs.Ytjfgjkecmdgpgaa

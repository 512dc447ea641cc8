/- The contract of the document's Sort. -/
import Derived.Test.YtjncahmbllmllaaLbS
import Derived.Test.YtjncahmbllmllaaJT
set_option linter.unusedSimpArgs false
set_option linter.unusedVariables false
set_option linter.unusedSectionVars false
set_option maxRecDepth 20000
set_option maxHeartbeats 4000000
namespace Go.Proofs.Ytjncahmbllmllaa
open Go Go.J
attribute [local irreducible] At AtQ AtM AtM1 PR Ct Pu Rd Res.blk Res.own Res.ex RVs RV
namespace Lb
structure QS where
  (i : Nat) (p : Option Addr) (c : Nat) (M : Mem)
end Lb
end Go.Proofs.Ytjncahmbllmllaa

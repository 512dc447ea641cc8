/- The document's Both and Less. -/
import Derived.Test.YtmkniohbcakglaaMergeR
import Derived.Test.YtmkniohbcakglaaJB
set_option linter.unusedSimpArgs false
set_option linter.unusedVariables false
set_option linter.unusedSectionVars false
set_option maxRecDepth 20000
namespace Go.Proofs.Ytmkniohbcakglaa
open Go Go.J
attribute [local irreducible] At AtQ AtM AtM1 PR Ct Pu Rd Res.blk Res.own Res.ex RVs RV
namespace Mrg
open Wide Ev
open Classical in
/-- a list and an error: the list, if there is none -/
noncomputable def out (a b : List Ev) (l : List Ev) : List Ev := if may a b = 0 then l else []
end Mrg
end Go.Proofs.Ytmkniohbcakglaa

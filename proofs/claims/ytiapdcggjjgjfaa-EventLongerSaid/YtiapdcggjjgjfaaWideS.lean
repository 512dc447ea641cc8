/- The document's numbers: the sum of many, which is less, a number many times. -/
import Derived.Test.YtiapdcggjjgjfaaWideR
set_option linter.unusedSimpArgs false
set_option linter.unusedVariables false
set_option linter.unusedSectionVars false
set_option maxRecDepth 20000
namespace Go.Proofs.Ytiapdcggjjgjfaa
open Go Go.J
attribute [local irreducible] At AtQ AtM AtM1 PR Ct Pu Rd Res.blk Res.own Res.ex RVs RV
namespace Wide
end Wide
end Go.Proofs.Ytiapdcggjjgjfaa

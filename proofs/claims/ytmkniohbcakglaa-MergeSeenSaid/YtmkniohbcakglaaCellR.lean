/- What events come to, as the document tells it. -/
import Derived.Test.YtmkniohbcakglaaCellO
set_option linter.unusedSimpArgs false
set_option linter.unusedVariables false
set_option linter.unusedSectionVars false
set_option maxRecDepth 20000
namespace Go.Proofs.Ytmkniohbcakglaa
open Go Go.J
attribute [local irreducible] At AtQ AtM AtM1 PR Ct Pu Rd Res.blk Res.own Res.ex RVs RV
namespace Cell
open Ev Wide
theorem of_one {e : Ev} : ofL [e] = if e.ok then (one e, 0) else (z, 2) := by
  have ha : Mrg.asc [e] := fun i hi => absurd hi (Nat.not_lt_zero i)
  by_cases h : e.ok
  · have ok : Mrg.aok [e] := fun i hi => by
      obtain rfl : i = 0 := by simp at hi; omega
      exact h
    rw [if_pos h]
    unfold ofL
    rw [show Mrg.chk [e] = 0 by unfold Mrg.chk; rw [if_pos ok, if_pos ha], if_neg (fun h => h rfl)]
    rfl
  · rw [if_neg h]
    exact of_bad (i := 0) (by simp) h
end Cell
end Go.Proofs.Ytmkniohbcakglaa

/- The document's numbers: the sum of many, which is less, a number many times. -/
import Derived.Test.YtlnhfhejcjfmjaaWideR
set_option linter.unusedSimpArgs false
set_option linter.unusedVariables false
set_option linter.unusedSectionVars false
set_option maxRecDepth 20000
namespace Go.Proofs.Ytlnhfhejcjfmjaa
open Go Go.J
attribute [local irreducible] At AtQ AtM AtM1 PR Ct Pu Rd Res.blk Res.own Res.ex RVs RV
namespace Wide
--IF plimsoll/plimsollref01.Sum
theorem top_dg (x s : Nat) : x / 256 ^ s = x / 256 ^ (s + 1) * 256 + dg x s := by
  unfold dg
  rw [Nat.pow_succ, ← Nat.div_div_eq_div_mul]
  omega
theorem lt_dg {x y s : Nat} (h : x / 256 ^ (s + 1) = y / 256 ^ (s + 1)) (hd : dg x s < dg y s) : x < y := by
  have h1 := top_dg x s
  have h2 := top_dg y s
  have h3 : x / 256 ^ s < y / 256 ^ s := by omega
  apply Classical.byContradiction
  intro hn
  have := Nat.div_le_div_right (c := 256 ^ s) (Nat.le_of_not_lt hn)
  omega
structure TS where
  (n : Nat) (a : Nat) (A : Nat) (v : Bool) (o : Nat)
end Wide
end Go.Proofs.Ytlnhfhejcjfmjaa

/- A law's arguments that are texts, or numbers. -/
import Derived.Test.YtjohofeaaelhmaaLs
import Derived.Test.YtjohofeaaelhmaaJD
set_option linter.unusedSimpArgs false
set_option linter.unusedVariables false
set_option linter.unusedSectionVars false
set_option maxRecDepth 20000
namespace Go.Proofs.Ytjohofeaaelhmaa
open Go Go.J
attribute [local irreducible] At AtQ AtM AtM1 PR Ct Pu Rd Res.blk Res.own Res.ex RVs RV
namespace Ls
open Go.RowKit
theorem dec_str {H : Type} {enc : TypeId × Value → H} {P : Program} {W : World} : ∀ cs, Go.J.Fit enc P W [.str] cs → ∃ a : List UInt8, cs = fS a ∧ a.length ≤ maxLen := by
  intro cs h
  obtain ⟨_, _, rfl, h1, h⟩ := h.cons
  obtain rfl := h.nil
  obtain ⟨l, rfl, hl⟩ := h1.str
  exact ⟨l, rfl, hl⟩
theorem dec_i64 {H : Type} {enc : TypeId × Value → H} {P : Program} {W : World} : ∀ cs, Go.J.Fit enc P W [.int .i64] cs → ∃ a : Int, cs = fI a ∧ (-9223372036854775808 ≤ a ∧ a ≤ 9223372036854775807) := by
  intro cs h
  obtain ⟨_, _, rfl, h1, h⟩ := h.cons
  obtain rfl := h.nil
  obtain ⟨a, rfl, wa⟩ := h1.int
  exact ⟨a, rfl, bounds_i64 wa⟩
end Ls
end Go.Proofs.Ytjohofeaaelhmaa

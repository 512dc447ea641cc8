/- A law's arguments that are calls of names and places. -/
import Derived.Test.YtegokapgmhoecaaNmI
import Derived.Test.YtegokapgmhoecaaJD
set_option linter.unusedSimpArgs false
set_option linter.unusedVariables false
set_option linter.unusedSectionVars false
set_option maxRecDepth 20000
namespace Go.Proofs.Ytegokapgmhoecaa
open Go Go.J
namespace Nm
open Go.RowKit
theorem dec_nact {H : Type} {enc : TypeId × Value → H} {P : Program} {W : World} : ∀ cs, Go.J.Fit enc P W [.int .i64, .str, .int .i64] cs → ∃ a : NAct, cs = fA a ∧ True := by
  intro cs h
  obtain ⟨_, _, rfl, h1, h⟩ := h.cons
  obtain ⟨_, _, rfl, h2, h⟩ := h.cons
  obtain ⟨_, _, rfl, h3, h⟩ := h.cons
  obtain rfl := h.nil
  obtain ⟨a, rfl, _⟩ := h1.int
  obtain ⟨t, rfl, _⟩ := h2.str
  obtain ⟨b, rfl, _⟩ := h3.int
  exact ⟨⟨a, t, b⟩, rfl, trivial⟩
end Nm
end Go.Proofs.Ytegokapgmhoecaa

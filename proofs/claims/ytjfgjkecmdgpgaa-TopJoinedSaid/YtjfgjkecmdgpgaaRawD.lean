/- A law's arguments that are raw events. -/
import Derived.Test.YtjfgjkecmdgpgaaRaw
import Derived.Test.YtjfgjkecmdgpgaaEvD
set_option linter.unusedSimpArgs false
set_option linter.unusedVariables false
set_option linter.unusedSectionVars false
set_option maxRecDepth 20000
namespace Go.Proofs.Ytjfgjkecmdgpgaa
open Go Go.J
attribute [local irreducible] At AtQ AtM AtM1 PR Ct Pu Rd Res.blk Res.own Res.ex RVs RV
namespace Raw
open Go.RowKit
def In (W : World) (r : Rw) : Prop := Sl (memOf W) Ev.cells 4 r.p r.c r.l ∧ ∀ e ∈ r.l, Ev.In e
theorem dec_rw {H : Type} {enc : TypeId × Value → H} {W : World} : ∀ cs, Go.J.Fit enc Try.prog W [.int .i64, .int .i64, .sl 22] cs → ∃ x : Rw, cs = x.cells ∧ In W x := by
  intro cs h
  obtain ⟨_, _, rfl, h1, h⟩ := h.cons
  obtain ⟨_, _, rfl, h2, h⟩ := h.cons
  obtain ⟨v, _, rfl, h3, h⟩ := h.cons
  obtain rfl := h.nil
  obtain ⟨a, rfl, _⟩ := h1.int
  obtain ⟨b, rfl, _⟩ := h2.int
  obtain ⟨p, c, l, rfl, g1, g2⟩ := Fit1.sl (f := Ev.cells) inferInstance Ev.In Try.underlying22 (by rfl) (dec_flat' [.int .i64, .int .u64, .int .i64, .bool] (by kernel_rfl) Ev.dec_ev) h3
  exact ⟨⟨a, b, p, c, l⟩, rfl, g1, g2⟩
end Raw
end Go.Proofs.Ytjfgjkecmdgpgaa

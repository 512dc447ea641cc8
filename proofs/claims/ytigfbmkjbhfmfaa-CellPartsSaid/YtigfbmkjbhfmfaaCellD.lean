/- A law's arguments that are cells. -/
import Derived.Test.YtigfbmkjbhfmfaaCellM
import Derived.Test.YtigfbmkjbhfmfaaEvD
set_option linter.unusedSimpArgs false
set_option linter.unusedVariables false
set_option linter.unusedSectionVars false
set_option maxRecDepth 20000
namespace Go.Proofs.Ytigfbmkjbhfmfaa
open Go Go.J
attribute [local irreducible] At AtQ AtM AtM1 PR Ct Pu Rd Res.blk Res.own Res.ex RVs RV
namespace Cell
open Go.RowKit
theorem dec_cell {H : Type} {enc : TypeId × Value → H} {P : Program} {W : World} : ∀ cs, Go.J.Fit enc P W [.int .i64, .int .i64, .int .u64, .int .i64, .bool, .int .i64, .int .u64, .int .i64, .bool, .int .u64, .int .u64, .int .i64, .int .i64, .int .i64] cs → ∃ a : Cell, cs = a.cells ∧ In a := by
  intro cs h
  obtain ⟨_, _, rfl, h0, h⟩ := h.cons
  obtain ⟨_, _, rfl, h1, h⟩ := h.cons
  obtain ⟨_, _, rfl, h2, h⟩ := h.cons
  obtain ⟨_, _, rfl, h3, h⟩ := h.cons
  obtain ⟨_, _, rfl, h4, h⟩ := h.cons
  obtain ⟨_, _, rfl, h5, h⟩ := h.cons
  obtain ⟨_, _, rfl, h6, h⟩ := h.cons
  obtain ⟨_, _, rfl, h7, h⟩ := h.cons
  obtain ⟨_, _, rfl, h8, h⟩ := h.cons
  obtain ⟨_, _, rfl, h9, h⟩ := h.cons
  obtain ⟨_, _, rfl, h10, h⟩ := h.cons
  obtain ⟨_, _, rfl, h11, h⟩ := h.cons
  obtain ⟨_, _, rfl, h12, h⟩ := h.cons
  obtain ⟨_, _, rfl, h13, h⟩ := h.cons
  obtain rfl := h.nil
  obtain ⟨x0, rfl, g0⟩ := h0.int
  obtain ⟨x1, rfl, g1⟩ := h1.int
  obtain ⟨x2, rfl, g2⟩ := h2.int
  obtain ⟨x3, rfl, g3⟩ := h3.int
  obtain ⟨x4, rfl⟩ := h4.bool
  obtain ⟨x5, rfl, g5⟩ := h5.int
  obtain ⟨x6, rfl, g6⟩ := h6.int
  obtain ⟨x7, rfl, g7⟩ := h7.int
  obtain ⟨x8, rfl⟩ := h8.bool
  obtain ⟨x9, rfl, g9⟩ := h9.int
  obtain ⟨x10, rfl, g10⟩ := h10.int
  obtain ⟨x11, rfl, g11⟩ := h11.int
  obtain ⟨x12, rfl, g12⟩ := h12.int
  obtain ⟨x13, rfl, g13⟩ := h13.int
  have b0 := bounds_i64 g0
  have b2 := bounds_u64 g2
  have b6 := bounds_u64 g6
  have b9 := bounds_u64 g9
  have b10 := bounds_u64 g10
  obtain ⟨n2, rfl⟩ : ∃ n : Nat, x2 = n := ⟨x2.toNat, by omega⟩
  obtain ⟨n6, rfl⟩ : ∃ n : Nat, x6 = n := ⟨x6.toNat, by omega⟩
  obtain ⟨n9, rfl⟩ : ∃ n : Nat, x9 = n := ⟨x9.toNat, by omega⟩
  obtain ⟨n10, rfl⟩ : ∃ n : Nat, x10 = n := ⟨x10.toNat, by omega⟩
  obtain ⟨I, hI⟩ : ∃ I : Nat, n9 = I / 18446744073709551616 ∧ n10 = I % 18446744073709551616 := ⟨n9 * 18446744073709551616 + n10, by omega, by omega⟩
  obtain ⟨hI1, hI2⟩ := hI
  refine ⟨⟨x0, ⟨x1, n2, x3, x4⟩, ⟨x5, n6, x7, x8⟩, I, x11, x12, x13⟩, ?_, b0, by show n2 < _; omega, by show n6 < _; omega, by show I < _; omega⟩
  rw [hI1, hI2]
end Cell
end Go.Proofs.Ytigfbmkjbhfmfaa

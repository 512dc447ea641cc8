/- What the laws of cell hold to stand: lives. CellTells, CellOf, CellRight as they are walked. -/
import Derived.Test.YtmkniohbcakglaaCellR
set_option linter.unusedSimpArgs false
set_option linter.unusedVariables false
set_option linter.unusedSectionVars false
set_option maxRecDepth 20000
namespace Go.Proofs.Ytmkniohbcakglaa
open Go Go.J
attribute [local irreducible] At AtQ AtM AtM1 PR Ct Pu Rd Res.blk Res.own Res.ex RVs RV
namespace Cell
open Ev Wide
abbrev eA : Ev := ⟨10, 5, 0, false⟩
abbrev eB : Ev := ⟨30, 3, 0, false⟩
abbrev eD : Ev := ⟨40, 9, 0, false⟩
abbrev xC : Cell := ⟨3, eA, eD, 9, 1, 0, 30⟩
abbrev xX : Cell := ⟨1, eA, eA, 0, 0, 0, 0⟩
abbrev xY : Cell := ⟨2, eB, eD, 6, 0, 0, 10⟩
abbrev xE : Cell := ⟨2, eA, eB, 3, 1, 0, 20⟩
abbrev xN : Cell := ⟨1, eA, eB, 0, 0, 0, 0⟩
theorem ofC {m : Mem} (p : Option Addr) (c : Nat) (l : List Ev) (k : Nat) (hk : l.length = k) (x : Cell) (w : Int) (hl : l.length ≤ 1000000) (hV : ∀ e ∈ l, e.V < 18446744073709551616) (h : ofL l = (x, w)) (sl0 : Sl m Ev.cells 4 p c l) :
    Ct Try.prog 22 #[.slice p k c] m [] (fun v m' B => v = .tuple #[x.v, .int .i64 w] ∧ B = []) := by
  have := of_ p c l hl hV sl0
  rw [h, hk] at this
  exact this.mono fun _ _ _ _ h => ⟨h.1, h.2.2⟩
theorem mrgC {a b : Cell} (x : Cell) (w : Int) (ia : In a) (ib : In b) (h : mrg a b = (x, w)) : Pu Try.prog 23 #[a.v, b.v] (.tuple #[x.v, .int .i64 w]) := by
  have := merge a b ia ib
  rwa [h] at this
theorem chkC (c : Cell) (w : Int) (hn : -9223372036854775808 ≤ c.n ∧ c.n ≤ 9223372036854775807) (h : chk c = w) : Pu Try.prog 34 #[c.v] (.int .i64 w) := h ▸ check c hn
instance (c : Cell) : Decidable (In c) := by unfold In; infer_instance
theorem l1 : ofL [eA, eB, eD] = (xC, 0) := by decide
theorem l2 : ofL [eA] = (xX, 0) := by decide
theorem l3 : ofL [eB, eD] = (xY, 0) := by decide
theorem l4 : mrg xX xY = (xC, 0) := by decide
theorem l5 : mrg xY xX = (z, 9) := by decide
theorem l6 : ofL [eB, eA] = (z, 9) := by decide
theorem l7 : addE xX eB = (xE, 0) := by decide
theorem l8 : allC z [xX, z, xY] = (xC, 0) := by decide
theorem l9 : chk xC = 0 := by decide
theorem l10 : chk xN = 2 := by decide
end Cell
end Go.Proofs.Ytmkniohbcakglaa

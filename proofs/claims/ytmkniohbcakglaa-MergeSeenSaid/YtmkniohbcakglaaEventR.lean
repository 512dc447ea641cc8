/- By how much a chain of readings rises. -/
import Derived.Test.YtmkniohbcakglaaEvent
set_option linter.unusedSimpArgs false
set_option linter.unusedVariables false
set_option linter.unusedSectionVars false
set_option maxRecDepth 20000
namespace Go.Proofs.Ytmkniohbcakglaa
open Go Go.J
attribute [local irreducible] At AtQ AtM AtM1 PR Ct Pu Rd Res.blk Res.own Res.ex RVs RV
namespace Ev
open Wide
def inc (l : List Ev) (j : Nat) : Nat := (btw (l[j - 1]!) (l[j]!)).1.I
def er (l : List Ev) (j : Nat) : Int := (btw (l[j - 1]!) (l[j]!)).2
def eU (l : List Ev) : Nat → Int
  | 0 => 0
  | k + 1 => if eU l k ≠ 0 then eU l k else if k = 0 then 0 else er l k
def sU (l : List Ev) : Nat → Nat
  | 0 => 0
  | k + 1 => sU l k + if k = 0 then 0 else inc l k
def rise (l : List Ev) : Nat × Int := if l.length = 1 then (0, (l[0]!).chk) else if eU l l.length ≠ 0 then (0, eU l l.length) else (sU l l.length, 0)
theorem eU_stay (l : List Ev) {k : Nat} (h : eU l k ≠ 0) (j : Nat) : eU l (k + j) = eU l k := by
  induction j with
  | zero => rfl
  | succ j ih => rw [← Nat.add_assoc, eU, ih, if_pos h]
theorem eU_ne (l : List Ev) {k n : Nat} (h : eU l k ≠ 0) (hk : k ≤ n) : eU l n = eU l k := by
  have := eU_stay l h (n - k)
  rwa [Nat.add_sub_cancel' hk] at this
theorem btw_I (p c : Ev) : (btw p c).1.I = 0 ∨ (btw p c).1.I = c.V ∨ (btw p c).1.I = c.V - p.V := by
  unfold btw
  repeat' split
  all_goals first | exact .inl rfl | exact .inr (.inl rfl) | exact .inr (.inr rfl)
theorem inc_lt (l : List Ev) (hV : ∀ e ∈ l, e.V < 18446744073709551616) {j : Nat} (hj : j < l.length) : inc l j < 18446744073709551616 := by
  have h1 := hV (l[j]!) (by rw [getElem!_pos l j hj]; exact List.getElem_mem hj)
  unfold inc
  generalize hk : (18446744073709551616 : Nat) = K at h1 ⊢
  rcases btw_I (l[j - 1]!) (l[j]!) with h | h | h <;> rw [h] <;> omega
theorem sU_lt (l : List Ev) (hV : ∀ e ∈ l, e.V < 18446744073709551616) : ∀ {k : Nat}, k ≤ l.length → sU l k ≤ k * 18446744073709551616
  | 0, _ => by rw [Nat.zero_mul]; exact Nat.le_refl _
  | k + 1, h => by
    have ih := sU_lt l hV (k := k) (by omega)
    have := inc_lt l hV (j := k) (by omega)
    have h2 : (if k = 0 then 0 else inc l k) < 18446744073709551616 := by
      by_cases h0 : k = 0
      · rw [if_pos h0]; decide
      · rw [if_neg h0]; exact this
    unfold sU
    rw [Nat.succ_mul]
    exact Nat.add_le_add ih (Nat.le_of_lt h2)
structure RS where
  (i : Nat) (L : List Nat) (p : Option Addr) (c : Nat)
structure RT where
  (i : Nat) (a : Nat)
end Ev
end Go.Proofs.Ytmkniohbcakglaa

/- The document's merges: where a time stands in a list, whether two lists may be merged, what one has and the other one has, or has not. -/
import Derived.Test.YtmkniohbcakglaaMerge
set_option linter.unusedSimpArgs false
set_option linter.unusedVariables false
set_option linter.unusedSectionVars false
set_option maxRecDepth 20000
namespace Go.Proofs.Ytmkniohbcakglaa
open Go Go.J
attribute [local irreducible] At AtQ AtM AtM1 PR Ct Pu Rd Res.blk Res.own Res.ex RVs RV
namespace Mrg
open Wide Ev
/-- where the first event of a time stands, from a place on -/
def ixF (l : List Ev) (t : Int) : Nat → Nat → Int
  | _, 0 => -1
  | i, k + 1 => if (l[i]!).T = t then (i : Int) else ixF l t (i + 1) k
def ix (l : List Ev) (t : Int) : Int := ixF l t 0 l.length
theorem ixF_spec (l : List Ev) (t : Int) : ∀ (k i : Nat), i + k = l.length → (ixF l t i k = -1 ∧ ∀ j, i ≤ j → j < l.length → (l[j]!).T ≠ t) ∨ (∃ j : Nat, ixF l t i k = (j : Int) ∧ i ≤ j ∧ j < l.length ∧ (l[j]!).T = t)
  | 0, i, h => .inl ⟨rfl, fun j h1 h2 => by omega⟩
  | k + 1, i, h => by
    unfold ixF
    by_cases ht : (l[i]!).T = t
    · rw [if_pos ht]; exact .inr ⟨i, rfl, Nat.le_refl _, by omega, ht⟩
    · rw [if_neg ht]
      rcases ixF_spec l t k (i + 1) (by omega) with ⟨h1, h2⟩ | ⟨j, h1, h2, h3, h4⟩
      · refine .inl ⟨h1, fun j hj hj2 => ?_⟩
        by_cases e : j = i
        · subst e; exact ht
        · exact h2 j (by omega) hj2
      · exact .inr ⟨j, h1, by omega, h3, h4⟩
theorem ix_spec (l : List Ev) (t : Int) : (ix l t = -1 ∧ ∀ j, j < l.length → (l[j]!).T ≠ t) ∨ (∃ j : Nat, ix l t = (j : Int) ∧ j < l.length ∧ (l[j]!).T = t) := by
  rcases ixF_spec l t l.length 0 (by omega) with ⟨h1, h2⟩ | ⟨j, h1, _, h3, h4⟩
  · exact .inl ⟨h1, fun j hj => h2 j (Nat.zero_le _) hj⟩
  · exact .inr ⟨j, h1, h3, h4⟩
/-- an event of the one stands in the other one, as another one -/
def clash (b : List Ev) (e : Ev) : Prop := ∃ j : Nat, ix b e.T = (j : Int) ∧ b[j]! ≠ e
def fits (a b : List Ev) : Prop := ∀ i, i < a.length → ¬ clash b (a[i]!)
open Classical in
noncomputable def may (a b : List Ev) : Int := if chk a ≠ 0 then chk a else if chk b ≠ 0 then chk b else if fits a b then 0 else 16
def sel (b : List Ev) (is : Bool) (e : Ev) : Bool := decide (0 ≤ ix b e.T) == is
theorem filter_take {f : Ev → Bool} {a : List Ev} {i : Nat} (h : i < a.length) : (a.take (i + 1)).filter f = (a.take i).filter f ++ if f (a[i]!) then [a[i]!] else [] := by
  have e : a.take (i + 1) = a.take i ++ [a[i]!] := by rw [List.take_add_one, getElem!_pos a i h]; simp [h]
  rw [e, List.filter_append, List.filter_cons]
  rfl
structure FT where
  (i : Nat) (L : List Ev) (p : Option Addr) (c : Nat)
end Mrg
end Go.Proofs.Ytmkniohbcakglaa

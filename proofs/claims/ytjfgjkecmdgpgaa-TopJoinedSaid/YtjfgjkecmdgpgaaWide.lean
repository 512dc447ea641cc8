/- The contracts of the package wide. -/
import Derived.Test.YtjfgjkecmdgpgaaRows
import Derived.Test.YtjfgjkecmdgpgaaJA
import Derived.Laws.MathBits
set_option linter.unusedSimpArgs false
set_option linter.unusedVariables false
set_option linter.unusedSectionVars false
set_option maxRecDepth 20000
namespace Go.Proofs.Ytjfgjkecmdgpgaa
open Go Go.J
attribute [local irreducible] At AtQ AtM AtM1 PR Ct Pu Rd Res.blk Res.own Res.ex RVs RV
namespace Wide
abbrev wd (x : Nat) : List Value := [.int .u64 ((x / 18446744073709551616 : Nat) : Int), .int .u64 ((x % 18446744073709551616 : Nat) : Int)]
abbrev wv (x : Nat) : Value := .agg (wd x).toArray
instance : Fl wd 2 := ⟨fun _ => rfl, fun x v h => by simp at h; rcases h with rfl | rfl <;> rfl, by decide⟩
def sV (x : Nat) : Nat := if x < 340282366920938463463374607431768211456 then x else 0
def sE (x : Nat) : Int := if x < 340282366920938463463374607431768211456 then 0 else 1
theorem sV_lt (x : Nat) : sV x < 340282366920938463463374607431768211456 := by unfold sV; split <;> omega
theorem wd_mk {x : Nat} {h l : Int} (hh : h = ((x / 18446744073709551616 : Nat) : Int)) (hl : l = ((x % 18446744073709551616 : Nat) : Int)) : Value.agg #[.int .u64 h, .int .u64 l] = wv x := by subst hh hl; rfl

theorem or_zero {a b : Int} (ha : a = 0) (hb : b = 0) : bits .or .u64 a b = 0 := by subst ha hb; rfl
theorem or_ne {a b : Int} (ha : 0 ≤ a ∧ a < 18446744073709551616) (hb : 0 ≤ b ∧ b < 18446744073709551616) (h : a ≠ 0 ∨ b ≠ 0) : bits .or .u64 a b ≠ 0 := by
  rw [u64_or a b ha.1 ha.2 hb.1 hb.2]
  intro e
  have e0 : a.toNat ||| b.toNat = 0 := by omega
  have e1 : a.toNat = 0 := by
    have := Nat.left_le_or (n := a.toNat) (m := b.toNat)
    omega
  have e2 : b.toNat = 0 := by
    have := Nat.right_le_or (n := a.toNat) (m := b.toNat)
    omega
  omega
structure SS where
  i : Nat
  a : Nat
theorem sum_take {l : List Nat} {i : Nat} (h : i < l.length) : (l.take (i + 1)).sum = (l.take i).sum + l[i]! := by
  have e : l.take (i + 1) = l.take i ++ [l[i]!] := by rw [List.take_add_one, getElem!_pos l i h]; simp [h]
  rw [e, List.sum_append]; simp
theorem sum_le {l : List Nat} (i : Nat) : (l.take i).sum ≤ l.sum := by
  have := congrArg List.sum (List.take_append_drop i l)
  rw [List.sum_append] at this
  omega
end Wide
end Go.Proofs.Ytjfgjkecmdgpgaa

/- The document's merge of two. -/
import Derived.Test.YtmkniohbcakglaaMergeB
set_option linter.unusedSimpArgs false
set_option linter.unusedVariables false
set_option linter.unusedSectionVars false
set_option maxRecDepth 20000
namespace Go.Proofs.Ytmkniohbcakglaa
open Go Go.J
attribute [local irreducible] At AtQ AtM AtM1 PR Ct Pu Rd Res.blk Res.own Res.ex RVs RV
namespace Mrg
open Wide Ev
def posF (l : List Ev) (t : Int) : Nat → Nat → Nat
  | i, 0 => i
  | i, k + 1 => if (l[i]!).T < t then posF l t (i + 1) k else i
def pos (l : List Ev) (t : Int) : Nat := posF l t 0 l.length
theorem posF_le (l : List Ev) (t : Int) : ∀ (k i : Nat), posF l t i k ≤ i + k
  | 0, i => Nat.le_refl _
  | k + 1, i => by
    unfold posF
    split
    · have := posF_le l t k (i + 1); omega
    · omega
def ins (l : List Ev) (e : Ev) : List Ev := l.take (pos l e.T) ++ ([e] ++ l.drop (pos l e.T))
def step (a : List Ev) (O : List Ev) (e : Ev) : List Ev := if 0 ≤ ix a e.T then O else ins O e
def two (a b : List Ev) : List Ev := b.foldl (step a) a
theorem foldl_take (a : List Ev) {b : List Ev} {k : Nat} (h : k < b.length) : (b.take (k + 1)).foldl (step a) a = step a ((b.take k).foldl (step a) a) (b[k]!) := by
  have e : b.take (k + 1) = b.take k ++ [b[k]!] := by rw [List.take_add_one, getElem!_pos b k h]; simp [h]
  rw [e, List.foldl_append]; rfl
theorem ins_len (l : List Ev) (e : Ev) : (ins l e).length = l.length + 1 := by
  have := posF_le l e.T l.length 0
  unfold ins pos
  simp only [List.length_append, List.length_take, List.length_drop, List.length_singleton]; omega
theorem step_len (a O : List Ev) (e : Ev) : (step a O e).length ≤ O.length + 1 := by
  unfold step; split
  · omega
  · rw [ins_len]; omega
structure TT where
  (k : Nat) (O : List Ev) (p : Option Addr) (c : Nat)
end Mrg
end Go.Proofs.Ytmkniohbcakglaa

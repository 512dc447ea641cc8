/- Labels in their order (plain), as one by one is put in. -/
import Derived.Test.YtjncahmbllmllaaLbP
import Derived.Test.YtjncahmbllmllaaJT
set_option linter.unusedSimpArgs false
set_option linter.unusedVariables false
set_option linter.unusedSectionVars false
set_option maxRecDepth 20000
set_option maxHeartbeats 4000000
namespace Go.Proofs.Ytjncahmbllmllaa
open Go Go.J
namespace Lb
/-- where a name goes, from so far down -/
def atF (P : List Lab) (t : List UInt8) : Nat → Nat
  | 0 => 0
  | k + 1 => if ltB t P[k]!.n = true then atF P t k else k + 1
theorem atF_le (P : List Lab) (t : List UInt8) : ∀ k, atF P t k ≤ k
  | 0 => Nat.le_refl 0
  | k + 1 => by
    unfold atF
    split
    · exact Nat.le_succ_of_le (atF_le P t k)
    · exact Nat.le_refl _
theorem atF_dn {P : List Lab} {t : List UInt8} {k : Nat} (h : ltB t P[k]!.n = true) : atF P t (k + 1) = atF P t k := by
  show (if _ then _ else _) = _; rw [if_pos h]
theorem atF_st {P : List Lab} {t : List UInt8} {k : Nat} (h : ltB t P[k]!.n = false) : atF P t (k + 1) = k + 1 := by
  show (if _ then _ else _) = _; rw [if_neg (by rw [h]; decide)]
def sins (P : List Lab) (x : Lab) : List Lab := P.take (atF P x.n P.length) ++ [x] ++ P.drop (atF P x.n P.length)
def srtL (l : List Lab) : List Lab := l.foldl sins []
theorem len_sins (P : List Lab) (x : Lab) : (sins P x).length = P.length + 1 := by
  have := atF_le P x.n P.length
  unfold sins; simp; omega
theorem len_fold : ∀ (l P : List Lab), (l.foldl sins P).length = P.length + l.length
  | [], _ => rfl
  | x :: l, P => by rw [List.foldl_cons, len_fold l, len_sins, List.length_cons]; omega
theorem len_srt (l : List Lab) : (srtL l).length = l.length := by unfold srtL; rw [len_fold]; simp
theorem srt_snoc {l : List Lab} {i : Nat} (h : i < l.length) : srtL (l.take (i + 1)) = sins (srtL (l.take i)) l[i]! := by
  unfold srtL; rw [Ls.take_snoc h, List.foldl_append]; rfl
/-- one that is on its way down -/
def way (P : List Lab) (x : Lab) (R : List Lab) (j : Nat) : List Lab := P.take j ++ x :: (P.drop j ++ R)
theorem len_way {P R : List Lab} {x : Lab} {j : Nat} : (way P x R j).length = P.length + 1 + R.length := by
  unfold way; simp; omega
theorem way_x {P R : List Lab} {x : Lab} {j : Nat} (h : j ≤ P.length) : (way P x R j)[j]! = x := by
  have hl : (P.take j).length = j := by rw [List.length_take]; omega
  rw [getElem!_pos _ j (by rw [len_way]; omega)]
  unfold way
  rw [List.getElem_append_right (by omega)]
  simp [hl]
theorem way_p {P R : List Lab} {x : Lab} {j : Nat} (h : j < P.length) : (way P x R (j + 1))[j]! = P[j]! := by
  have hl : (P.take (j + 1)).length = j + 1 := by rw [List.length_take]; omega
  rw [getElem!_pos _ j (by rw [len_way]; omega), getElem!_pos P j h]
  unfold way
  rw [List.getElem_append_left (by omega), List.getElem_take]
theorem way_sw {P R : List Lab} {x : Lab} {j : Nat} (h : j < P.length) : ((way P x R (j + 1)).set (j + 1) P[j]!).set j x = way P x R j := by
  have e1 : way P x R (j + 1) = P.take j ++ (P[j]! :: x :: (P.drop (j + 1) ++ R)) := by
    unfold way; rw [Ls.take_snoc h, List.append_assoc]; rfl
  have e2 : way P x R j = P.take j ++ (x :: P[j]! :: (P.drop (j + 1) ++ R)) := by
    unfold way; rw [Ls.drop_cons h]; rfl
  have hl : (P.take j).length = j := by rw [List.length_take]; omega
  rw [e1, e2, List.set_append_right _ _ (by omega), List.set_append_right _ _ (by omega), hl]
  simp
theorem way_top {P R : List Lab} {x : Lab} : way P x R P.length = P ++ x :: R := by unfold way; simp
theorem way_end {P R : List Lab} {x : Lab} {j : Nat} (h : atF P x.n P.length = j) : way P x R j = sins P x ++ R := by unfold way sins; rw [h]; simp
end Lb
end Go.Proofs.Ytjncahmbllmllaa

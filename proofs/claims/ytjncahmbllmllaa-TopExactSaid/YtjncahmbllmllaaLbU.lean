/- Labels (plain): what Sort makes of any order of right ones; bytes there and back. -/
import Derived.Test.YtjncahmbllmllaaLbB
import Derived.Test.YtjncahmbllmllaaLbT
import Derived.Test.YtjncahmbllmllaaJT
set_option linter.unusedSimpArgs false
set_option linter.unusedVariables false
set_option linter.unusedSectionVars false
set_option maxRecDepth 20000
set_option maxHeartbeats 4000000
namespace Go.Proofs.Ytjncahmbllmllaa
open Go Go.J
namespace Lb
theorem perm_sins (P : List Lab) (x : Lab) : (sins P x).Perm (x :: P) := by
  unfold sins
  rw [List.append_assoc]
  refine List.Perm.trans (List.perm_middle (l₁ := P.take (atF P x.n P.length)) (a := x) (l₂ := P.drop (atF P x.n P.length))) ?_
  rw [List.take_append_drop]
theorem perm_fold : ∀ (l P : List Lab), (l.foldl sins P).Perm (l ++ P)
  | [], P => List.Perm.refl _
  | x :: l, P => by
    refine List.Perm.trans (perm_fold l (sins P x)) ?_
    refine List.Perm.trans (List.Perm.append_left l (perm_sins P x)) ?_
    exact List.perm_middle
theorem perm_srt (l : List Lab) : (srtL l).Perm l := by
  have := perm_fold l []
  rw [List.append_nil] at this
  exact this
/-- no name is above a later one's -/
def Asc (l : List Lab) : Prop := l.Pairwise fun a b => ltB b.n a.n = false
theorem le_lt {a b c : List UInt8} (h1 : ltB b a = false) (h2 : ltB b c = true) : ltB a c = true := by
  rcases ltB_tri a b with h | h | h
  · exact ltB_trans h h2
  · subst h; exact h2
  · rw [h] at h1; cases h1
theorem lt_le {a b c : List UInt8} (h1 : ltB a b = true) (h2 : ltB c b = false) : ltB a c = true := by
  rcases ltB_tri b c with h | h | h
  · exact ltB_trans h1 h
  · subst h; exact h1
  · rw [h] at h2; cases h2
theorem atF_hi (P : List Lab) (t : List UInt8) : ∀ k, ∀ j, atF P t k ≤ j → j < k → ltB t P[j]!.n = true
  | 0, _, _, h => absurd h (Nat.not_lt_zero _)
  | k + 1, j, h1, h2 => by
    cases e : ltB t P[k]!.n with
    | true =>
      rw [atF_dn e] at h1
      by_cases hj : j = k
      · subst hj; exact e
      · exact atF_hi P t k j h1 (by omega)
    | false =>
      rw [atF_st e] at h1
      omega
theorem atF_lo (P : List Lab) (t : List UInt8) : ∀ k, 0 < atF P t k → ltB t P[atF P t k - 1]!.n = false
  | 0, h => absurd h (Nat.lt_irrefl 0)
  | k + 1, h => by
    cases e : ltB t P[k]!.n with
    | true => rw [atF_dn e] at h ⊢; exact atF_lo P t k h
    | false => rw [atF_st e]; exact e
theorem asc_sins {P : List Lab} (h : Asc P) (x : Lab) : Asc (sins P x) := by
  have hle := atF_le P x.n P.length
  have hhi := atF_hi P x.n P.length
  have hlo := atF_lo P x.n P.length
  unfold sins
  generalize atF P x.n P.length = k at hle hhi hlo
  have hp : (P.take k ++ P.drop k).Pairwise fun a b => ltB b.n a.n = false := by rw [List.take_append_drop]; exact h
  rw [List.pairwise_append] at hp
  obtain ⟨h1, h2, h3⟩ := hp
  have hx1 : ∀ a ∈ P.take k, ltB x.n a.n = false := fun a ha => by
    obtain ⟨i, hi, rfl⟩ := List.mem_iff_getElem.1 ha
    rw [List.length_take] at hi
    have hi' : i < k := by omega
    have hl := hlo (by omega)
    cases e : ltB x.n (P.take k)[i].n with
    | false => rfl
    | true =>
      rw [List.getElem_take] at e
      by_cases hik : i = k - 1
      · subst hik; rw [getElem!_pos P (k - 1) (by omega), e] at hl; cases hl
      · have hq := (List.pairwise_iff_getElem.1 h) i (k - 1) (by omega) (by omega) (by omega)
        have := lt_le e hq
        rw [getElem!_pos P (k - 1) (by omega), this] at hl; cases hl
  have hx2 : ∀ b ∈ P.drop k, ltB b.n x.n = false := fun b hb => by
    obtain ⟨i, hi, rfl⟩ := List.mem_iff_getElem.1 hb
    rw [List.length_drop] at hi
    have := hhi (k + i) (by omega) (by omega)
    rw [List.getElem_drop]
    rw [getElem!_pos P (k + i) (by omega)] at this
    exact ltB_asymm this
  unfold Asc
  rw [List.append_assoc, List.pairwise_append]
  refine ⟨h1, ?_, fun a ha b hb => ?_⟩
  · rw [List.singleton_append, List.pairwise_cons]
    exact ⟨fun b hb => hx2 b hb, h2⟩
  · rw [List.singleton_append, List.mem_cons] at hb
    rcases hb with rfl | hb
    · exact hx1 a ha
    · exact h3 a ha b hb
theorem asc_fold : ∀ (l P : List Lab), Asc P → Asc (l.foldl sins P)
  | [], _, h => h
  | x :: l, P, h => asc_fold l (sins P x) (asc_sins h x)
theorem asc_srt (l : List Lab) : Asc (srtL l) := asc_fold l [] List.Pairwise.nil
theorem uniq : ∀ (l m : List Lab), l.Pairwise (fun a b => ltB a.n b.n = true) → Asc m → m.Perm l → m = l
  | [], m, _, _, hp => List.Perm.eq_nil hp
  | a :: l, [], _, _, hp => absurd (List.Perm.length_eq hp) (by simp)
  | a :: l, b :: m, h1, h2, hp => by
    have h1' := List.pairwise_cons.1 h1
    have h2' := List.pairwise_cons.1 h2
    have e : b = a := by
      by_cases e : b = a
      · exact e
      · have hb : b ∈ l := by
          have := hp.subset (List.mem_cons_self (a := b) (l := m))
          rcases List.mem_cons.1 this with k | k
          · exact absurd k e
          · exact k
        have ha : a ∈ m := by
          have := hp.symm.subset (List.mem_cons_self (a := a) (l := l))
          rcases List.mem_cons.1 this with k | k
          · exact absurd k.symm e
          · exact k
        have g1 := h1'.1 b hb
        have g2 := h2'.1 a ha
        rw [g1] at g2; cases g2
    subst e
    rw [uniq l m h1'.2 h2'.2 (List.Perm.cons_inv hp)]
theorem right_pw {l : List Lab} (h : right l) : l.Pairwise fun a b => ltB a.n b.n = true := by
  rw [List.pairwise_iff_getElem]
  intro i j hi hj hij
  have key : ∀ (d i : Nat), i + d + 1 < l.length → ltB l[i]!.n l[i + d + 1]!.n = true := by
    intro d
    induction d with
    | zero =>
      intro i hi
      have := (of_decide_eq_true (h.2.2.1 (i + 0 + 1) hi)).2.2 (by omega)
      rw [show i + 0 + 1 - 1 = i by omega] at this
      exact this
    | succ d ih =>
      intro i hi
      have h1 := ih i (by omega)
      have h2 := (of_decide_eq_true (h.2.2.1 (i + (d + 1) + 1) hi)).2.2 (by omega)
      rw [show i + (d + 1) + 1 - 1 = i + d + 1 by omega] at h2
      exact ltB_trans h1 h2
  have := key (j - i - 1) i (by omega)
  rw [show i + (j - i - 1) + 1 = j by omega, getElem!_pos l i hi, getElem!_pos l j hj] at this
  exact this
theorem srt_right {l m : List Lab} (h : right l) (hp : m.Perm l) : srtL m = l := uniq l (srtL m) (right_pw h) (asc_srt m) (List.Perm.trans (perm_srt m) hp)
/-- from one on, round -/
def rot (l : List Lab) (k : Nat) : List Lab := l.drop k ++ l.take k
theorem rot_perm (l : List Lab) (k : Nat) : (rot l k).Perm l := by
  have := List.perm_append_comm (l₁ := l.drop k) (l₂ := l.take k)
  rwa [List.take_append_drop] at this
theorem rot_len (l : List Lab) (k : Nat) : (rot l k).length = l.length := (rot_perm l k).length_eq
theorem rot_at {l : List Lab} {k i : Nat} (hk : k ≤ l.length) (hi : i < l.length) : l[(i + k) % l.length]! = (rot l k)[i]! := by
  have hr := rot_len l k
  rw [getElem!_pos (rot l k) i (by omega), getElem!_pos l ((i + k) % l.length) (Nat.mod_lt _ (by omega))]
  unfold rot
  by_cases h : i < l.length - k
  · rw [List.getElem_append_left (by rw [List.length_drop]; exact h), List.getElem_drop]
    congr 1
    rw [Nat.mod_eq_of_lt (by omega)]; omega
  · rw [List.getElem_append_right (by rw [List.length_drop]; omega), List.getElem_take]
    congr 1
    rw [List.length_drop, Nat.mod_eq_sub_mod (by omega), Nat.mod_eq_of_lt (by omega)]; omega
end Lb
end Go.Proofs.Ytjncahmbllmllaa

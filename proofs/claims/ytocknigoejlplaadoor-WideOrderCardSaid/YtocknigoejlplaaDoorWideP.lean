/- A number's digits, and the number of digits (no program). -/
import Derived.Test.YtocknigoejlplaaDoorRows
import Derived.Lib.ItoaNum
set_option linter.unusedSimpArgs false
set_option linter.unusedVariables false
set_option linter.unusedSectionVars false
set_option maxRecDepth 20000
namespace Go.Proofs.YtocknigoejlplaaDoor
namespace Wide
abbrev dd := Lib.decDigits
theorem dd_small {u : Nat} (h : u < 10) : dd u = [UInt8.ofNat (48 + u)] := Lib.decDigits_one h
theorem dd_big {u : Nat} (h : ¬ u < 10) : dd u = dd (u / 10) ++ [UInt8.ofNat (48 + u % 10)] := by
  show Lib.decDigits u = _
  rw [Lib.decDigits, dif_neg h]
def pad : Nat → Nat → List UInt8
  | 0, _ => []
  | k + 1, r => pad k (r / 10) ++ [UInt8.ofNat (48 + r % 10)]
theorem pad_len : ∀ k r, (pad k r).length = k
  | 0, _ => rfl
  | k + 1, r => by simp [pad, pad_len k]
theorem dd_pad : ∀ (k q r : Nat), 0 < q → r < 10 ^ k → dd (q * 10 ^ k + r) = dd q ++ pad k r
  | 0, q, r, _, hr => by
    have : r = 0 := by simpa using hr
    subst this; simp [pad]
  | k + 1, q, r, hq, hr => by
    have hp : 0 < 10 ^ k := Nat.pow_pos (by decide)
    have e : q * 10 ^ (k + 1) = 10 * (q * 10 ^ k) := by rw [Nat.pow_succ, ← Nat.mul_assoc, Nat.mul_comm]
    have hqp : 10 ^ k ≤ q * 10 ^ k := Nat.le_mul_of_pos_left _ hq
    have ih := dd_pad k q (r / 10) hq (by rw [Nat.pow_succ] at hr; omega)
    rw [dd_big (by omega), e, show (10 * (q * 10 ^ k) + r) / 10 = q * 10 ^ k + r / 10 by omega, show (10 * (q * 10 ^ k) + r) % 10 = r % 10 by omega, ih, List.append_assoc]
    rfl
theorem dd_len_le : ∀ (k u : Nat), 0 < k → u < 10 ^ k → (dd u).length ≤ k
  | 0, _, h, _ => absurd h (Nat.lt_irrefl _)
  | k + 1, u, _, hu => by
    by_cases h : u < 10
    · rw [dd_small h]; simp
    · rw [dd_big h]
      rcases k with _ | k
      · simp at hu; omega
      · have := dd_len_le (k + 1) (u / 10) (by omega) (by rw [Nat.pow_succ] at hu; omega)
        simp only [List.length_append, List.length_singleton]; omega
theorem dd_ne (u : Nat) : dd u ≠ [] := by
  by_cases h : u < 10
  · rw [dd_small h]; simp
  · rw [dd_big h]; simp
theorem dd_pos (u : Nat) : 0 < (dd u).length := List.length_pos_iff.2 (dd_ne u)
/-- a text's digits -/
def dgt (c : UInt8) : Nat := (c.toNat + 208) % 256 % 10
def isd (c : UInt8) : Prop := 48 ≤ c.toNat ∧ c.toNat ≤ 57
instance (c : UInt8) : Decidable (isd c) := inferInstanceAs (Decidable (_ ∧ _))
def pv (s : List UInt8) : Nat := s.foldl (fun a c => a * 10 + dgt c) 0
theorem pv_snoc (t : List UInt8) (c : UInt8) : pv (t ++ [c]) = pv t * 10 + dgt c := by simp [pv, List.foldl_append]
theorem dgt_of {d : Nat} (h : d < 10) : dgt (UInt8.ofNat (48 + d)) = d := by
  unfold dgt
  rw [UInt8.toNat_ofNat', Nat.mod_eq_of_lt (show 48 + d < 2 ^ 8 by omega)]
  omega
theorem isd_of {d : Nat} (h : d < 10) : isd (UInt8.ofNat (48 + d)) := by
  unfold isd
  rw [UInt8.toNat_ofNat', Nat.mod_eq_of_lt (show 48 + d < 2 ^ 8 by omega)]
  omega
theorem of_dgt {c : UInt8} (h : isd c) : UInt8.ofNat (48 + dgt c) = c := by
  apply UInt8.toNat_inj.1
  have := UInt8.toNat_lt c
  unfold isd at h
  unfold dgt
  rw [UInt8.toNat_ofNat', show 48 + (c.toNat + 208) % 256 % 10 = c.toNat by omega, Nat.mod_eq_of_lt this]
theorem pv_dd (u : Nat) : pv (dd u) = u := by
  induction u using Nat.strongRecOn with
  | _ u ih =>
    by_cases h : u < 10
    · rw [dd_small h, show [UInt8.ofNat (48 + u)] = [] ++ [UInt8.ofNat (48 + u)] from rfl, pv_snoc, dgt_of h]
      show 0 * 10 + u = u
      omega
    · rw [dd_big h, pv_snoc, ih (u / 10) (by omega), dgt_of (Nat.mod_lt _ (by decide))]
      omega
theorem dd_isd (u : Nat) : ∀ c ∈ dd u, isd c := by
  induction u using Nat.strongRecOn with
  | _ u ih =>
    by_cases h : u < 10
    · rw [dd_small h]
      intro c hc
      rw [List.mem_singleton.1 hc]; exact isd_of h
    · rw [dd_big h]
      intro c hc
      rcases List.mem_append.1 hc with hc | hc
      · exact ih (u / 10) (by omega) c hc
      · rw [List.mem_singleton.1 hc]; exact isd_of (Nat.mod_lt _ (by decide))
/-- the first digit of what is not zero -/
theorem dd_lead (u : Nat) (hu : 0 < u) : (dd u).head? ≠ some 48 := by
  induction u using Nat.strongRecOn with
  | _ u ih =>
    by_cases h : u < 10
    · rw [dd_small h]
      intro e
      have e1 : UInt8.ofNat (48 + u) = 48 := Option.some.inj e
      have e2 := congrArg UInt8.toNat e1
      rw [UInt8.toNat_ofNat', Nat.mod_eq_of_lt (show 48 + u < 2 ^ 8 by omega)] at e2
      have : (48 : UInt8).toNat = 48 := rfl
      omega
    · rw [dd_big h, List.head?_append]
      have i := ih (u / 10) (by omega) (by omega)
      cases hd : (dd (u / 10)).head? with
      | none => exact absurd (List.head?_eq_none_iff.1 hd) (dd_ne _)
      | some c => rw [hd] at i; exact i
theorem dd_lead1 (u : Nat) (h : (dd u).head? = some 48) : (dd u).length = 1 := by
  by_cases h0 : u < 10
  · rw [dd_small h0]; rfl
  · exact absurd h (dd_lead u (by omega))
/-- a right text is that of its number -/
theorem dd_pv : ∀ (n : Nat) (s : List UInt8), s.length = n → s ≠ [] → (∀ c ∈ s, isd c) → (s.length = 1 ∨ s.head? ≠ some 48) → dd (pv s) = s := by
  intro n
  induction n with
  | zero => intro s hl hs; exact absurd (List.length_eq_zero_iff.1 hl) hs
  | succ n ih =>
    intro s hl hs hd h0
    obtain ⟨t, c, rfl⟩ : ∃ t c, s = t ++ [c] := ⟨s.dropLast, s.getLast hs, (List.dropLast_concat_getLast hs).symm⟩
    have hc := hd c (by simp)
    rw [pv_snoc]
    have hdl : dgt c < 10 := Nat.mod_lt _ (by decide)
    by_cases ht : t = []
    · subst ht
      show dd (0 * 10 + dgt c) = _
      rw [Nat.zero_mul, Nat.zero_add, dd_small hdl, of_dgt hc]; rfl
    · have hh : (t ++ [c]).head? = t.head? := by
        cases t with
        | nil => exact absurd rfl ht
        | cons a b => rfl
      have h1 : ¬ (t ++ [c]).length = 1 := by
        have := List.length_pos_iff.2 ht
        simp; omega
      have h2 : t.head? ≠ some 48 := by rw [← hh]; exact h0.resolve_left h1
      have i := ih t (by simpa using hl) ht (fun x hx => hd x (by simp [hx])) (.inr h2)
      have hp : 0 < pv t := by
        apply Nat.pos_of_ne_zero
        intro e
        rw [e] at i
        rw [← i] at h2
        exact h2 (by rw [dd_small (by decide)]; rfl)
      rw [dd_big (by omega), show (pv t * 10 + dgt c) / 10 = pv t by omega, show (pv t * 10 + dgt c) % 10 = dgt c by omega, i, of_dgt hc]
theorem pv_take {s : List UInt8} {i : Nat} (h : i < s.length) : pv (s.take (i + 1)) = pv (s.take i) * 10 + dgt (s[i]!) := by
  rw [List.take_add_one, List.getElem?_eq_getElem h, getElem!_pos s i h]
  exact pv_snoc _ _
theorem pv_mono {s : List UInt8} (i : Nat) : pv (s.take i) ≤ pv s := by
  have : ∀ (r : List UInt8) (a : Nat), a ≤ r.foldl (fun a c => a * 10 + dgt c) a := by
    intro r
    induction r with
    | nil => intro a; exact Nat.le_refl _
    | cons c r ih => intro a; exact Nat.le_trans (by omega) (ih (a * 10 + dgt c))
  conv => rhs; rw [← List.take_append_drop i s]
  unfold pv
  rw [List.foldl_append]
  exact this _ _
/-- what a text's number is, and whether it has one -/
def pok (s : List UInt8) : Prop := dd (pv s) = s ∧ pv s < 340282366920938463463374607431768211456
instance (s : List UInt8) : Decidable (pok s) := inferInstanceAs (Decidable (_ ∧ _))
def pV (s : List UInt8) : Nat := if pok s then pv s else 0
def pE (s : List UInt8) : Int := if pok s then 0 else 4
theorem pok_dd {u : Nat} (h : u < 340282366920938463463374607431768211456) : pok (dd u) := by
  unfold pok
  rw [pv_dd]
  exact ⟨rfl, h⟩
theorem pok_isd {s : List UInt8} (h : pok s) : ∀ c ∈ s, isd c := by
  rw [← h.1]; exact dd_isd _
theorem pok_len {s : List UInt8} (h : pok s) : s.length ≤ 39 := by
  rw [← h.1]
  exact dd_len_le 39 _ (by decide) (Nat.lt_trans h.2 (by decide))
theorem pok_take {s : List UInt8} (h : pok s) (i : Nat) : pv (s.take i) < 340282366920938463463374607431768211456 := Nat.lt_of_le_of_lt (pv_mono i) h.2
/-- a text of eighteen digits more -/
theorem dd_text (x : Nat) (h : 18446744073709551616 ≤ x) : dd x = dd (x / 1000000000000000000) ++ (dd (1000000000000000000 + x % 1000000000000000000)).drop ((dd (1000000000000000000 + x % 1000000000000000000)).length - 18) ∧ (dd (1000000000000000000 + x % 1000000000000000000)).length = 19 := by
  have p : (10 : Nat) ^ 18 = 1000000000000000000 := rfl
  have hr : x % 1000000000000000000 < 10 ^ 18 := by rw [p]; exact Nat.mod_lt _ (by decide)
  have e1 := dd_pad 18 (x / 1000000000000000000) (x % 1000000000000000000) (by omega) hr
  have e2 := dd_pad 18 1 (x % 1000000000000000000) (by decide) hr
  rw [p] at e1 e2
  have e3 : x / 1000000000000000000 * 1000000000000000000 + x % 1000000000000000000 = x := Nat.div_add_mod' x _
  rw [e3] at e1
  rw [Nat.one_mul, dd_small (show 1 < 10 by decide)] at e2
  have hl : (dd (1000000000000000000 + x % 1000000000000000000)).length = 19 := by rw [e2]; simp [pad_len]
  refine ⟨?_, hl⟩
  rw [hl, e1, e2, show 19 - 18 = 1 from rfl]
  exact congrArg (_ ++ ·) (List.drop_left (l₁ := [UInt8.ofNat (48 + 1)])).symm
end Wide
end Go.Proofs.YtocknigoejlplaaDoor

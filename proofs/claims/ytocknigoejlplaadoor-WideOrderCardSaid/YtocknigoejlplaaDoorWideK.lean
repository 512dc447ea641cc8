/- The plain law of a division by digits of 32 bits (no program). -/
import Derived.Test.YtocknigoejlplaaDoorRows
import Derived.Lib.ItoaNum
import Derived.Lib.BitFns
set_option linter.unusedSimpArgs false
set_option linter.unusedVariables false
set_option linter.unusedSectionVars false
set_option maxRecDepth 20000
namespace Go.Proofs.YtocknigoejlplaaDoor
namespace Wide
/-- the state of a digit's search: q is not below the digit -/
structure Kn (u d y1 y0 q r : Nat) : Prop where
  eq : q * y1 + r = u
  ge : (u * 4294967296 + d) / (y1 * 4294967296 + y0) ≤ q
  lt : r < 4294967296
structure KnH (u d y1 y0 : Nat) : Prop where
  hu : u < y1 * 4294967296 + y0
  hd : d < 4294967296
  h1 : 2147483648 ≤ y1
  h2 : y1 < 4294967296
  h0 : y0 < 4294967296
theorem kn_ex (q y1 y0 : Nat) : q * (y1 * 4294967296 + y0) = q * y1 * 4294967296 + q * y0 := by rw [Nat.mul_add, ← Nat.mul_assoc]
theorem kn_digit {u d y1 y0 : Nat} (h : KnH u d y1 y0) : (u * 4294967296 + d) / (y1 * 4294967296 + y0) < 4294967296 := by
  have := h.hu; have := h.hd; have := h.h1
  rw [Nat.div_lt_iff_lt_mul (by omega)]
  omega
theorem kn_init {u d y1 y0 : Nat} (h : KnH u d y1 y0) : Kn u d y1 y0 (u / y1) (u % y1) := by
  have := h.hu; have := h.hd; have hy := h.h1; have := h.h2
  refine ⟨by rw [Nat.mul_comm]; exact Nat.div_add_mod u y1, ?_, Nat.lt_trans (Nat.mod_lt _ (by omega)) h.h2⟩
  apply Nat.le_of_lt_succ
  rw [Nat.div_lt_iff_lt_mul (by omega), kn_ex]
  have e := Nat.div_add_mod u y1
  have l := Nat.mod_lt u (show 0 < y1 by omega)
  rw [Nat.succ_mul, Nat.mul_comm (u / y1) y1]
  omega
theorem kn_stop {u d y1 y0 q r : Nat} (h : KnH u d y1 y0) (k : Kn u d y1 y0 q r) (hn : q * y0 ≤ r * 4294967296 + d) : (u * 4294967296 + d) / (y1 * 4294967296 + y0) = q := by
  have := h.h1; have := k.eq
  apply Nat.le_antisymm k.ge
  rw [Nat.le_div_iff_mul_le (by omega), kn_ex]
  omega
theorem kn_lt {u d y1 y0 q r : Nat} (h : KnH u d y1 y0) (k : Kn u d y1 y0 q r) (hn : 4294967296 ≤ q ∨ r * 4294967296 + d < q * y0) : (u * 4294967296 + d) / (y1 * 4294967296 + y0) < q := by
  have h1 := h.h1; have h2 := k.eq
  rcases hn with hn | hn
  · exact Nat.lt_of_lt_of_le (kn_digit h) hn
  · rw [Nat.div_lt_iff_lt_mul (by omega), kn_ex, ← h2, Nat.add_mul, Nat.add_assoc]
    exact Nat.add_lt_add_left hn _
theorem kn_le {u d y1 y0 q r : Nat} (h : KnH u d y1 y0) (k : Kn u d y1 y0 q r) : q ≤ 4294967297 := by
  have h1 := h.h1; have h2 := h.hu; have h3 := h.h0; have h4 := k.eq
  apply Classical.byContradiction
  intro hn
  have : 4294967298 * y1 ≤ q * y1 := Nat.mul_le_mul_right _ (by omega)
  omega
theorem kn_step {u d y1 y0 q r : Nat} (h : KnH u d y1 y0) (k : Kn u d y1 y0 q r) (hn : 4294967296 ≤ q ∨ r * 4294967296 + d < q * y0) (hr : r + y1 < 4294967296) : 0 < q ∧ Kn u d y1 y0 (q - 1) (r + y1) := by
  have l := kn_lt h k hn
  have hq0 : 0 < q := Nat.lt_of_le_of_lt (Nat.zero_le _) l
  obtain ⟨p, rfl⟩ : ∃ p, q = p + 1 := ⟨q - 1, by omega⟩
  have := k.eq
  rw [Nat.succ_mul] at this
  rw [Nat.add_sub_cancel]
  exact ⟨by omega, by omega, by omega, hr⟩
theorem kn_break {u d y1 y0 q r : Nat} (h : KnH u d y1 y0) (k : Kn u d y1 y0 q r) (hn : 4294967296 ≤ q ∨ r * 4294967296 + d < q * y0) (hr : 4294967296 ≤ r + y1) : (u * 4294967296 + d) / (y1 * 4294967296 + y0) = q - 1 := by
  have l := kn_lt h k hn
  have le := kn_le h k
  have h1 := h.h1; have h3 := h.h0
  have hq0 : 0 < q := Nat.lt_of_le_of_lt (Nat.zero_le _) l
  obtain ⟨p, rfl⟩ : ∃ p, q = p + 1 := ⟨q - 1, by omega⟩
  have e := k.eq
  rw [Nat.succ_mul] at e
  rw [Nat.add_sub_cancel]
  apply Nat.le_antisymm (by omega)
  rw [Nat.le_div_iff_mul_le (by omega), kn_ex]
  have : p * y0 ≤ 4294967296 * 4294967295 := Nat.mul_le_mul (by omega) (by omega)
  omega
/-- what is left of a digit, as the machine reckons -/
theorem kn_left {T Y q : Nat} (hY : 0 < Y) (hq : T / Y = q) : q * Y ≤ T ∧ T - q * Y = T % Y := by
  have := Nat.div_add_mod T Y
  rw [hq, Nat.mul_comm] at this
  omega
/-- both digits together -/
theorem kn_all {u d1 d0 Y : Nat} (hY : 0 < Y) :
    (u * 18446744073709551616 + (d1 * 4294967296 + d0)) / Y = (u * 4294967296 + d1) / Y * 4294967296 + ((u * 4294967296 + d1) % Y * 4294967296 + d0) / Y ∧
    (u * 18446744073709551616 + (d1 * 4294967296 + d0)) % Y = ((u * 4294967296 + d1) % Y * 4294967296 + d0) % Y := by
  obtain ⟨T, hT⟩ : ∃ T, T = u * 4294967296 + d1 := ⟨_, rfl⟩
  have e : u * 18446744073709551616 + (d1 * 4294967296 + d0) = Y * (T / Y * 4294967296) + (T % Y * 4294967296 + d0) := by
    have := Nat.div_add_mod T Y
    rw [← Nat.mul_assoc]
    omega
  rw [← hT, e, Nat.mul_add_div hY, Nat.mul_add_mod]
  exact ⟨rfl, rfl⟩
/-- a quotient and what is left, of what both were shifted by -/
theorem shift_div (V y k : Nat) (hk : 0 < k) : V * k / (y * k) = V / y ∧ V * k % (y * k) / k = V % y := by
  rw [Nat.mul_div_mul_right _ _ hk, Nat.mul_mod_mul_right, Nat.mul_div_cancel _ hk]
  exact ⟨rfl, rfl⟩
/-- how far y is shifted -/
theorem lead (y : Nat) (h0 : 0 < y) (h : y < 18446744073709551616) : Lib.bitLen y ≤ 64 ∧ 0 < Lib.bitLen y ∧ 9223372036854775808 ≤ y * 2 ^ (64 - Lib.bitLen y) ∧ y * 2 ^ (64 - Lib.bitLen y) < 18446744073709551616 := by
  have hb := Lib.bitLenAux_bounds 64 y h (by omega)
  have hl := Lib.bitLen_le y 64 (Nat.le_refl _) h
  have e : Lib.bitLen y = Lib.bitLenAux 64 y := rfl
  rw [← e] at hb
  obtain ⟨b, hbl⟩ : ∃ b, Lib.bitLen y = b := ⟨_, rfl⟩
  rw [hbl] at hb hl ⊢
  obtain ⟨h1, h2, h3⟩ := hb
  refine ⟨hl, h1, ?_, ?_⟩
  · calc 9223372036854775808 = 2 ^ (b - 1) * 2 ^ (64 - b) := by rw [← Nat.pow_add, show b - 1 + (64 - b) = 63 by omega]
      _ ≤ _ := Nat.mul_le_mul_right _ h2
  · calc y * 2 ^ (64 - b) < 2 ^ b * 2 ^ (64 - b) := Nat.mul_lt_mul_of_pos_right h3 (Nat.pow_pos (by decide))
      _ = _ := by rw [← Nat.pow_add, show b + (64 - b) = 64 by omega]
/-- the upper part of what is shifted -/
theorem shift_up (h l s b : Nat) (hsb : s + b = 64) : (h * 18446744073709551616 + l) * 2 ^ s / 18446744073709551616 = h * 2 ^ s + l / 2 ^ b ∧ (h * 18446744073709551616 + l) * 2 ^ s % 18446744073709551616 = l * 2 ^ s % 18446744073709551616 := by
  have e : (18446744073709551616 : Nat) = 2 ^ b * 2 ^ s := by rw [← Nat.pow_add, show b + s = 64 by omega]
  have e2 : (h * 18446744073709551616 + l) * 2 ^ s = 18446744073709551616 * (h * 2 ^ s) + l * 2 ^ s := by
    rw [Nat.add_mul, Nat.mul_right_comm, Nat.mul_comm (h * 2 ^ s)]
  have e3 : l * 2 ^ s / 18446744073709551616 = l / 2 ^ b := by
    rw [e, Nat.mul_div_mul_right _ _ (Nat.pow_pos (by decide))]
  rw [e2, Nat.mul_add_div (by decide), Nat.mul_add_mod, e3]
  exact ⟨rfl, rfl⟩
end Wide
end Go.Proofs.YtocknigoejlplaaDoor

/- Check sums: the plain law. A step can be turned back, and four bytes are told from the sum. -/
import Derived.Test.YtjohofeaaelhmaaJA
set_option linter.unusedSimpArgs false
set_option linter.unusedVariables false
set_option linter.unusedSectionVars false
set_option maxRecDepth 20000
namespace Go.Proofs.Ytjohofeaaelhmaa
open Go Go.J
namespace Seal
/-- one halving -/
def half (r : Nat) : Nat := r / 2 ^^^ (if r % 2 = 1 then 2197175160 else 0)
def R : Nat → Nat
  | 0 => 1
  | k + 1 => half (R k)
/-- one round of the table, so many places of it -/
def inn (s r : Nat) : Nat → List Nat → List Nat
  | 0, l => l
  | n + 1, l => (inn s r n l).set (2 * s * n + s) ((inn s r n l)[2 * s * n]! ^^^ r)
def T : Nat → List Nat
  | 0 => List.replicate 256 0
  | k + 1 => inn (128 / 2 ^ k) (R (k + 1)) (2 ^ k) (T k)
def tab : List Nat := T 8
theorem inn_len (s r : Nat) : ∀ (n : Nat) (l : List Nat), (inn s r n l).length = l.length
  | 0, _ => rfl
  | n + 1, l => by rw [inn, List.length_set, inn_len s r n l]
theorem T_len : ∀ k, (T k).length = 256
  | 0 => by simp [T]
  | k + 1 => by rw [T, inn_len, T_len k]
theorem half_lt {r : Nat} (h : r < 4294967296) : half r < 4294967296 := by
  unfold half
  refine Nat.xor_lt_two_pow (n := 32) (by omega) ?_
  split <;> decide
theorem R_lt : ∀ k, R k < 4294967296
  | 0 => by decide
  | k + 1 => half_lt (R_lt k)
theorem all_set {l : List Nat} {i v b : Nat} (h : ∀ x ∈ l, x < b) (hv : v < b) : ∀ x ∈ l.set i v, x < b := fun x hx => by
  rcases List.mem_or_eq_of_mem_set hx with h1 | h1
  · exact h x h1
  · rw [h1]; exact hv
theorem get_lt {l : List Nat} {b : Nat} (h : ∀ x ∈ l, x < b) (hb : 0 < b) (i : Nat) : l[i]! < b := by
  by_cases hi : i < l.length
  · rw [getElem!_pos l i hi]; exact h _ (List.getElem_mem hi)
  · rw [getElem!_neg l i hi]; exact hb
theorem inn_lt {s r : Nat} (hr : r < 4294967296) : ∀ (n : Nat) (l : List Nat), (∀ x ∈ l, x < 4294967296) → ∀ x ∈ inn s r n l, x < 4294967296
  | 0, _, h => h
  | n + 1, l, h => by
    have ih := inn_lt (s := s) hr n l h
    exact all_set ih (Nat.xor_lt_two_pow (n := 32) (get_lt ih (by decide) _) hr)
theorem T_lt : ∀ k, ∀ x ∈ T k, x < 4294967296
  | 0 => fun x hx => by rw [T] at hx; rw [(List.mem_replicate.1 hx).2]; decide
  | k + 1 => inn_lt (R_lt _) _ _ (T_lt k)
theorem tab_lt (i : Nat) : tab[i]! < 4294967296 := get_lt (T_lt 8) (by decide) i
theorem tab_len : tab.length = 256 := T_len 8
/-- no two bytes of the table have one upper byte -/
theorem tab_top : ∀ i, i < 256 → ∀ j, j < 256 → tab[i]! / 16777216 = tab[j]! / 16777216 → i = j := by
  have h : (tab.map (· / 16777216)).Nodup := by decide +kernel
  intro i hi j hj e
  have li : i < (tab.map (· / 16777216)).length := by rw [List.length_map, tab_len]; exact hi
  have lj : j < (tab.map (· / 16777216)).length := by rw [List.length_map, tab_len]; exact hj
  rw [getElem!_pos tab i (by rw [tab_len]; exact hi), getElem!_pos tab j (by rw [tab_len]; exact hj)] at e
  have := List.getElem_map (f := (· / 16777216)) (l := tab) (i := i) (h := li)
  exact (List.getElem_inj (h₀ := li) (h₁ := lj) h).1 (by rw [List.getElem_map, List.getElem_map]; exact e)
def stp (r : Nat) (c : UInt8) : Nat := r / 256 ^^^ tab[r % 256 ^^^ c.toNat]!
def sum (l : List UInt8) : Nat := l.foldl stp 4294967295 ^^^ 4294967295
theorem stp_lt {r : Nat} (h : r < 4294967296) (c : UInt8) : stp r c < 4294967296 := Nat.xor_lt_two_pow (n := 32) (by omega) (tab_lt _)
theorem fold_lt : ∀ (l : List UInt8) {r : Nat}, r < 4294967296 → l.foldl stp r < 4294967296
  | [], _, h => h
  | c :: l, _, h => fold_lt l (stp_lt h c)
theorem sum_lt (l : List UInt8) : sum l < 4294967296 := Nat.xor_lt_two_pow (n := 32) (fold_lt l (by decide)) (by decide)
theorem xor_div (a b n : Nat) : (a ^^^ b) / 2 ^ n = a / 2 ^ n ^^^ b / 2 ^ n := by
  rw [← Nat.shiftRight_eq_div_pow, ← Nat.shiftRight_eq_div_pow, ← Nat.shiftRight_eq_div_pow, Nat.shiftRight_xor_distrib]
theorem xor_right {a b c : Nat} (h : a ^^^ c = b ^^^ c) : a = b := by
  have := congrArg (· ^^^ c) h
  simpa [Nat.xor_assoc] using this
theorem xor_left {a b c : Nat} (h : c ^^^ a = c ^^^ b) : a = b := xor_right (c := c) (by rw [Nat.xor_comm, h, Nat.xor_comm])
theorem ix_lt (r : Nat) (c : UInt8) : r % 256 ^^^ c.toNat < 256 := Nat.xor_lt_two_pow (n := 8) (Nat.mod_lt _ (by decide)) c.toNat_lt
/-- what the upper bytes of a step tell -/
theorem stp_top {r r' : Nat} {c c' : UInt8} (hr : r < 4294967296) (hr' : r' < 4294967296) {j : Nat} (hj : j ≤ 3) (h : stp r c / 2 ^ (8 * j) = stp r' c' / 2 ^ (8 * j)) : r % 256 ^^^ c.toNat = r' % 256 ^^^ c'.toNat ∧ r / 2 ^ (8 * (j + 1)) = r' / 2 ^ (8 * (j + 1)) := by
  have h24 : stp r c / 2 ^ 24 = stp r' c' / 2 ^ 24 := by
    have e : 2 ^ 24 = 2 ^ (8 * j) * 2 ^ (24 - 8 * j) := by rw [← Nat.pow_add]; congr 1; omega
    rw [e, ← Nat.div_div_eq_div_mul, ← Nat.div_div_eq_div_mul, h]
  have top : ∀ {r : Nat} {c : UInt8}, r < 4294967296 → stp r c / 2 ^ 24 = tab[r % 256 ^^^ c.toNat]! / 16777216 := fun {r c} hr => by
    unfold stp
    rw [xor_div, Nat.div_div_eq_div_mul, Nat.div_eq_of_lt (by omega : r < 256 * 2 ^ 24), Nat.zero_xor]
  have hk := tab_top _ (ix_lt r c) _ (ix_lt r' c') (by rw [← top hr, ← top hr', h24])
  refine ⟨hk, ?_⟩
  unfold stp at h
  rw [hk, xor_div, xor_div] at h
  have := xor_right h
  rw [Nat.div_div_eq_div_mul, Nat.div_div_eq_div_mul] at this
  rw [show 8 * (j + 1) = 8 + 8 * j by omega, Nat.pow_add]
  exact this
theorem stp_inj {r r' : Nat} {c : UInt8} (hr : r < 4294967296) (hr' : r' < 4294967296) (h : stp r c = stp r' c) : r = r' := by
  obtain ⟨h1, h2⟩ := stp_top (j := 0) hr hr' (by decide) (by rw [h])
  have h3 := xor_right h1
  omega
theorem fold_inj : ∀ (l : List UInt8) {r r' : Nat}, r < 4294967296 → r' < 4294967296 → l.foldl stp r = l.foldl stp r' → r = r'
  | [], _, _, _, _, h => h
  | c :: l, _, _, hr, hr', h => stp_inj hr hr' (fold_inj l (stp_lt hr c) (stp_lt hr' c) h)
theorem byte_of {r : Nat} {c c' : UInt8} (h : r % 256 ^^^ c.toNat = r % 256 ^^^ c'.toNat) : c = c' := UInt8.toNat_inj.1 (xor_left h)
theorem four {r : Nat} {a b c d a' b' c' d' : UInt8} (hr : r < 4294967296) (h : [a, b, c, d].foldl stp r = [a', b', c', d'].foldl stp r) : a = a' ∧ b = b' ∧ c = c' ∧ d = d' := by
  simp only [List.foldl_cons, List.foldl_nil] at h
  have l1 := stp_lt hr a; have l1' := stp_lt hr a'
  have l2 := stp_lt l1 b; have l2' := stp_lt l1' b'
  have l3 := stp_lt l2 c; have l3' := stp_lt l2' c'
  obtain ⟨k4, g3⟩ := stp_top (j := 0) l3 l3' (by decide) (by rw [h])
  obtain ⟨k3, g2⟩ := stp_top (j := 1) l2 l2' (by decide) g3
  obtain ⟨k2, g1⟩ := stp_top (j := 2) l1 l1' (by decide) g2
  obtain ⟨k1, _⟩ := stp_top (j := 3) hr hr (by decide) g1
  have ea := byte_of k1
  subst ea
  have eb := byte_of k2
  subst eb
  have ec := byte_of k3
  subst ec
  exact ⟨rfl, rfl, rfl, byte_of k4⟩
/-- four bytes, one behind the other, are told -/
theorem found {p q : List UInt8} {a b c d a' b' c' d' : UInt8} (h : sum (p ++ [a, b, c, d] ++ q) = sum (p ++ [a', b', c', d'] ++ q)) : a = a' ∧ b = b' ∧ c = c' ∧ d = d' := by
  unfold sum at h
  have h1 := xor_right h
  rw [List.foldl_append, List.foldl_append, List.foldl_append, List.foldl_append] at h1
  have hp := fold_lt p (r := 4294967295) (by decide)
  exact four hp (fold_inj q (fold_lt _ hp) (fold_lt _ hp) h1)
end Seal
end Go.Proofs.Ytjohofeaaelhmaa

/- What is read: the contracts of codec's reader and of the document's. -/
import Derived.Test.YtjncahmbllmllaaCodec
import Derived.Test.YtjncahmbllmllaaJT
set_option linter.unusedSimpArgs false
set_option linter.unusedVariables false
set_option linter.unusedSectionVars false
set_option maxRecDepth 20000
set_option maxHeartbeats 4000000
namespace Go.Proofs.Ytjncahmbllmllaa
open Go Go.J
attribute [local irreducible] At AtQ AtM AtM1 PR Ct Pu Rd Res.blk Res.own Res.ex RVs RV Cod.W
namespace Cod
/-- a number's bytes, from the i-th one on -/
def dec : Nat → List UInt8 → Option (Nat × List UInt8)
  | _, [] => none
  | i, c :: r => if 9 < i ∨ (i = 9 ∧ 1 < c.toNat) then none else if 128 ≤ c.toNat then (match dec (i + 1) r with
      | some x => some (c.toNat % 128 + 128 * x.1, x.2)
      | none => none) else if c.toNat = 0 ∧ 0 < i then none else some (c.toNat, r)
theorem dec_ten (l : List UInt8) (i : Nat) (h : 9 < i) : dec i l = none := by
  cases l with
  | nil => rfl
  | cons c r => rw [dec, if_pos (.inl h)]
theorem ofNat_toNat (c : UInt8) : UInt8.ofNat c.toNat = c := by simp
theorem dec_spec : ∀ (l : List UInt8) (i n : Nat) (s : List UInt8), dec i l = some (n, s) → l = uintB n ++ s ∧ n < 2 ^ (64 - 7 * i) ∧ (0 < i → n ≠ 0) ∧ i ≤ 9
  | [], _, _, _, h => by cases h
  | c :: r, i, n, s, h => by
    have hc := c.toNat_lt
    unfold dec at h
    by_cases h1 : 9 < i ∨ (i = 9 ∧ 1 < c.toNat)
    · rw [if_pos h1] at h; cases h
    · rw [if_neg h1] at h
      by_cases h2 : 128 ≤ c.toNat
      · rw [if_pos h2] at h
        cases hd : dec (i + 1) r with
        | none => rw [hd] at h; cases h
        | some x =>
          obtain ⟨n', s'⟩ := x
          rw [hd] at h
          simp only [Option.some.injEq, Prod.mk.injEq] at h
          obtain ⟨h3, rfl⟩ := h
          obtain ⟨g1, g2, g3, g4⟩ := dec_spec r (i + 1) n' s' hd
          have g5 := g3 (by omega)
          have hpow : 2 ^ (64 - 7 * i) = 128 * 2 ^ (64 - 7 * (i + 1)) := by
            rw [show (128 : Nat) = 2 ^ 7 from rfl, ← Nat.pow_add]; congr 1; omega
          refine ⟨?_, by rw [hpow]; omega, fun _ => by omega, by omega⟩
          subst h3
          rw [uintB_ge (by omega), g1, show (c.toNat % 128 + 128 * n') % 128 + 128 = c.toNat by omega, show (c.toNat % 128 + 128 * n') / 128 = n' by omega, ofNat_toNat]
          rfl
      · rw [if_neg h2] at h
        by_cases h3 : c.toNat = 0 ∧ 0 < i
        · rw [if_pos h3] at h; cases h
        · rw [if_neg h3] at h
          simp only [Option.some.injEq, Prod.mk.injEq] at h
          obtain ⟨rfl, rfl⟩ := h
          refine ⟨by rw [uintB_lt (by omega), ofNat_toNat]; rfl, ?_, fun hi => by omega, by omega⟩
          by_cases h9 : i = 9
          · subst h9
            show _ < 2
            omega
          · have : 2 ^ 7 ≤ 2 ^ (64 - 7 * i) := Nat.pow_le_pow_right (by decide) (by omega)
            omega
theorem dec_back : ∀ (k n i : Nat) (s : List UInt8), 9 - i = k → i ≤ 9 → n < 2 ^ (64 - 7 * i) → (0 < i → n ≠ 0) → dec i (uintB n ++ s) = some (n, s)
  | 0, n, i, s, hk, h0, h1, h2 => by
    have h9 : i = 9 := by omega
    subst h9
    have hn : n < 2 := h1
    rw [uintB_lt (by omega), List.singleton_append, dec]
    have e : (UInt8.ofNat n).toNat = n := by
      have := bI_of (n := n) (by omega)
      unfold bI at this; omega
    rw [e, if_neg (by omega), if_neg (by omega), if_neg (by have := h2 (by omega); omega)]
  | k + 1, n, i, s, hk, h0, h1, h2 => by
    by_cases hn : n < 128
    · rw [uintB_lt hn, List.singleton_append, dec]
      have e : (UInt8.ofNat n).toNat = n := by
        have := bI_of (n := n) (by omega)
        unfold bI at this; omega
      rw [e, if_neg (by omega), if_neg (by omega), if_neg (by intro h; have := h2 h.2; omega)]
    · have hpow : 2 ^ (64 - 7 * i) = 128 * 2 ^ (64 - 7 * (i + 1)) := by
        rw [show (128 : Nat) = 2 ^ 7 from rfl, ← Nat.pow_add]; congr 1; omega
      have := dec_back k (n / 128) (i + 1) s (by omega) (by omega) (by rw [hpow] at h1; omega) (fun _ => by omega)
      rw [uintB_ge hn, List.cons_append, dec, this]
      have e : (UInt8.ofNat (n % 128 + 128)).toNat = n % 128 + 128 := by
        have := bI_of (n := n % 128 + 128) (by omega)
        unfold bI at this; omega
      rw [e, if_neg (by omega), if_pos (by omega)]
      simp only [Option.some.injEq, Prod.mk.injEq, and_true]
      omega
theorem dec_uint {n : Nat} (h : n < 18446744073709551616) (s : List UInt8) : dec 0 (uintB n ++ s) = some (n, s) := dec_back 9 n 0 s rfl (by decide) h (fun h => absurd h (by decide))

abbrev RS := List UInt8 × Bool
def rU (s : RS) : Nat × RS := match dec 0 s.1 with
  | some x => (x.1, (x.2, s.2))
  | none => (0, ([], true))
theorem rU_lt (s : RS) : (rU s).1 < 18446744073709551616 := by
  unfold rU
  cases h : dec 0 s.1 with
  | none => simp
  | some x =>
    obtain ⟨n, r⟩ := x
    have := (dec_spec _ _ _ _ h).2.1
    simpa using this
abbrev rd (b : Nat) (s : RS) : Res := .blk b 84 [.string (str s.1), .bool s.2]
abbrev rv (s : RS) : Value := .agg #[.string (str s.1), .bool s.2]

theorem fail {m : Mem} (b : Nat) (s : RS) : Ct Try.prog 50 #[ptr b] m [rd b s] (fun v m' B => v = .tuple #[] ∧ m = m' ∧ B = [rd b ([], true)]) := by
  refine Ct.enterV (by rfl) Try.func50 rfl Try.ntmps50 rfl (fun w0 Rest => ?_)
  (repeat' (first | refine zss ?_ | refine zs0 ?_ | (refine zsp ?_ ?_ <;> (intro hc; (try simp only [zhcs, reduceCtorEq] at hc); (try (exfalso; first | contradiction | omega | exact absurd rfl hc | exact absurd (by decide) hc))))))
  all_goals ((first | (with_reducible apply At.retB0 (B := [.blk b _ _])) | (with_reducible apply At.retR0 (B := [.blk b _ _]))); exact rfl; exact zml; exact zkp; exact ⟨rfl, rfl, rfl⟩)

/-- what is had of the first i bytes, none of which is the last one -/
structure Part (l : List UInt8) (i A : Nat) : Prop where
  le : i ≤ l.length
  lt : A < 128 ^ i
  dec : dec 0 l = (match dec i (l.drop i) with
    | some x => some (A + 128 ^ i * x.1, x.2)
    | none => none)
  pre : ∀ n', n' ≠ 0 ∨ i = 0 → uintB (A + 128 ^ i * n') = l.take i ++ uintB n'
theorem Part.zero (l : List UInt8) : Part l 0 0 := by
  refine ⟨Nat.zero_le _, by decide, ?_, fun n' _ => by simp⟩
  rw [List.drop_zero]
  cases Cod.dec 0 l with
  | none => rfl
  | some x => simp
theorem drop_cons {l : List UInt8} {i : Nat} (h : i < l.length) : l.drop i = l[i]! :: l.drop (i + 1) := by
  rw [getElem!_pos l i h, List.drop_eq_getElem_cons h]
theorem take_snoc {l : List UInt8} {i : Nat} (h : i < l.length) : l.take (i + 1) = l.take i ++ [l[i]!] := by
  rw [List.take_add_one, getElem!_pos l i h]; simp [h]
theorem Part.none1 {l : List UInt8} {i A : Nat} (h : Part l i A) (hi : l.length ≤ i ∨ 9 < i) : Cod.dec 0 l = none := by
  rw [h.dec]
  have : Cod.dec i (l.drop i) = none := by
    rcases hi with hi | hi
    · rw [List.drop_eq_nil_of_le hi]; rfl
    · exact dec_ten _ _ hi
  rw [this]
theorem Part.none2 {l : List UInt8} {i A : Nat} (h : Part l i A) (hi : i < l.length) (hc : (i = 9 ∧ 1 < (l[i]!).toNat) ∨ ((l[i]!).toNat = 0 ∧ 0 < i)) : Cod.dec 0 l = none := by
  rw [h.dec, drop_cons hi]
  have : Cod.dec i (l[i]! :: l.drop (i + 1)) = none := by
    unfold Cod.dec
    rcases hc with hc | hc
    · rw [if_pos (.inr hc)]
    · by_cases h9 : 9 < i ∨ (i = 9 ∧ 1 < (l[i]!).toNat)
      · rw [if_pos h9]
      · rw [if_neg h9, if_neg (by omega), if_pos hc]
  rw [this]
theorem Part.some1 {l : List UInt8} {i A : Nat} (h : Part l i A) (hi : i < l.length) (h9 : ¬ (9 < i ∨ (i = 9 ∧ 1 < (l[i]!).toNat))) (h1 : (l[i]!).toNat < 128) (h2 : ¬ ((l[i]!).toNat = 0 ∧ 0 < i)) :
    Cod.dec 0 l = some (A + 128 ^ i * (l[i]!).toNat, l.drop (i + 1)) ∧ uintB (A + 128 ^ i * (l[i]!).toNat) = l.take (i + 1) := by
  refine ⟨?_, ?_⟩
  · rw [h.dec, drop_cons hi]
    unfold Cod.dec
    rw [if_neg h9, if_neg (by omega), if_neg h2]
  · rw [h.pre _ (by omega), uintB_lt h1, take_snoc hi, ofNat_toNat]
theorem Part.more {l : List UInt8} {i A : Nat} (h : Part l i A) (hi : i < l.length) (h9 : ¬ (9 < i ∨ (i = 9 ∧ 1 < (l[i]!).toNat))) (h1 : 128 ≤ (l[i]!).toNat) : Part l (i + 1) (A + 128 ^ i * ((l[i]!).toNat % 128)) := by
  have hc := (l[i]!).toNat_lt
  refine ⟨hi, ?_, ?_, fun n' hn => ?_⟩
  · have := h.lt
    have h2 : 128 ^ i * ((l[i]!).toNat % 128) ≤ 128 ^ i * 127 := Nat.mul_le_mul_left _ (by omega)
    rw [Nat.pow_succ]; omega
  · rw [h.dec, drop_cons hi]
    conv => lhs; unfold Cod.dec
    rw [if_neg h9, if_pos h1]
    cases Cod.dec (i + 1) (l.drop (i + 1)) with
    | none => rfl
    | some x =>
      simp only [Option.some.injEq, Prod.mk.injEq, and_true]
      rw [Nat.pow_succ, Nat.mul_add, Nat.add_assoc, Nat.mul_assoc]
  · have hn' : n' ≠ 0 := by omega
    have := h.pre ((l[i]!).toNat % 128 + 128 * n') (by omega)
    rw [uintB_ge (n := (l[i]!).toNat % 128 + 128 * n') (by omega), show ((l[i]!).toNat % 128 + 128 * n') % 128 + 128 = (l[i]!).toNat by omega, show ((l[i]!).toNat % 128 + 128 * n') / 128 = n' by omega, ofNat_toNat] at this
    rw [Nat.pow_succ, Nat.add_assoc, Nat.mul_assoc, ← Nat.mul_add, this, take_snoc hi, List.append_assoc]
    rfl
theorem pow7 (i : Nat) : (2 : Nat) ^ (7 * i) = 128 ^ i := by rw [Nat.pow_mul]
theorem pow7I (i : Nat) : (2 : Int) ^ (7 * (i : Int)).toNat = ((128 ^ i : Nat) : Int) := by
  rw [show (7 * (i : Int)).toNat = 7 * i by omega, ← pow7, Int.natCast_pow]; rfl
theorem pow_le9 {i : Nat} (h : i ≤ 9) : 128 ^ i ≤ 9223372036854775808 := Nat.le_trans (Nat.pow_le_pow_right (by decide) h) (by decide)
theorem pow_le8 {i : Nat} (h : i ≤ 8) : 128 ^ i ≤ 72057594037927936 := Nat.le_trans (Nat.pow_le_pow_right (by decide) h) (by decide)
theorem part_bd {i c : Nat} (hi : i ≤ 9) (h9 : ¬ (i = 9 ∧ 1 < c)) (hc : c < 256) : 128 ^ i * (c % 128) ≤ 9223372036854775808 := by
  by_cases h : i ≤ 8
  · exact Nat.le_trans (Nat.mul_le_mul (pow_le8 h) (show c % 128 ≤ 127 by omega)) (by decide)
  · have e : i = 9 := by omega
    subst e
    exact Nat.le_trans (Nat.mul_le_mul (pow_le9 (Nat.le_refl 9)) (show c % 128 ≤ 1 by omega)) (by decide)
theorem shl7 {i c : Nat} (hi : i ≤ 9) (h9 : ¬ (i = 9 ∧ 1 < c)) (hc : c < 256) : IntKind.u64.wrap (((c % 128 : Nat) : Int) * 2 ^ (7 * (i : Int)).toNat) = ((128 ^ i * (c % 128) : Nat) : Int) := by
  rw [pow7I, IntKind.wrap_u64, ← Int.natCast_mul, Nat.mul_comm]
  have := part_bd hi h9 hc
  have hy : 128 ^ i * (c % 128) < 18446744073709551616 := by omega
  exact Int.emod_eq_of_lt (Int.natCast_nonneg _) (Int.ofNat_lt.2 hy)
theorem andnot128 (c : UInt8) : bits .andNot .u8 (bI c) 128 = ((c.toNat % 128 : Nat) : Int) := by
  have := bI_bd c
  rw [u8_andNot _ _ (by omega) (by omega) (by omega) (by omega)]
  have e : (bI c).toNat = c.toNat := by unfold bI; omega
  rw [e]
  congr 1
  exact Nat.and_two_pow_sub_one_eq_mod c.toNat 7
theorem and128 (c : UInt8) : bits .and .u8 (bI c) 128 = 128 * ((c.toNat / 128 : Nat) : Int) := by
  have := bI_bd c
  have hc := c.toNat_lt
  rw [u8_and _ _ (by omega) (by omega) (by omega) (by omega)]
  have e : (bI c).toNat = c.toNat := by unfold bI; omega
  rw [e, show ((128 : Int)).toNat = 2 ^ 7 from rfl, nat_bit]
  show ((c.toNat / 128 % 2 * 128 : Nat) : Int) = _
  omega
theorem or_part {i A x : Nat} (hi : i ≤ 9) (hA : A < 128 ^ i) (hx : 128 ^ i * x < 18446744073709551616) : bits .or .u64 (A : Int) ((128 ^ i * x : Nat) : Int) = ((A + 128 ^ i * x : Nat) : Int) := by
  have := pow_le9 hi
  rw [u64_or_nat _ _ (by omega) (by omega), Nat.or_comm, nat_join (7 * i) _ _ (by rw [pow7]; exact Nat.mul_mod_right _ _) (by rw [pow7]; exact hA), Nat.add_comm]

structure RI where
  i : Nat
  A : Nat
theorem ruintP {m : Mem} (b : Nat) (s : RS) (hl : s.1.length ≤ 30000000000) : Ct Try.prog 30 #[ptr b] m [rd b s] (fun v m' B => v = .int .u64 ((rU s).1 : Int) ∧ m = m' ∧ B = [rd b (rU s).2]) := by
  refine Ct.enterV (by rfl) Try.func30 rfl Try.ntmps30 rfl (fun w0 Rest => ?_)
  (repeat' (first | refine zss ?_ | refine zsO ?_ | (refine zsp ?_ ?_ <;> (intro hc; (try simp only [zhcs, reduceCtorEq] at hc); (try (exfalso; first | contradiction | omega | exact absurd rfl hc | exact absurd (by decide) hc))))))
  (refine At.loopk (σ := RI) [0, 11] (fun q F0 => (3, .int .u64 (q.A : Int)) :: (12, .int .i64 (q.i : Int)) :: F0) (fun q => m) (fun q => rd b s :: Rest) (fun q => (q.i : Int) ≤ min (s.1.length : Int) 10 ∧ Part s.1 q.i q.A) (fun q => 10 - q.i) ⟨0, 0⟩ (by rfl) ?_ zsubs zml zente ?_)
  · exact ⟨by show (0 : Int) ≤ _; omega, Part.zero _⟩
  intro q ⟨hi, hp⟩
  by_cases hlt : (q.i : Int) < min (s.1.length : Int) 10
  · have hi2 : q.i < s.1.length := by omega
    have hbI : bI (s.1[q.i]!) = ((s.1[q.i]!).toNat : Int) := rfl
    have hcb := (s.1[q.i]!).toNat_lt
    by_cases h9 : q.i = 9 ∧ 1 < (s.1[q.i]!).toNat
    · have hn := hp.none2 hi2 (.inl h9)
      have e : rU s = (0, ([], true)) := by unfold rU; rw [hn]
      rw [e]
      (repeat' (first | refine zss ?_ | ((first | (with_reducible first | apply At.val | apply AtQ.val)); (first | exact pr_andnot (by rfl) (by rfl) (andnot128 _) | exact pr_and (by rfl) (by rfl) (and128 _)); exact rfl) | refine zsO ?_ | ((with_reducible first | apply At.c1 | apply At.c0); exact rfl; exact rfl; exact fail b s; exact ztk; kernel_rfl; rintro v' m' B' hm' ⟨rfl, rfl, rfl⟩; skip; (try (have hq0 : hm' = Mem.le_refl _ := rfl; clear hq0 hm'))) | (refine zsp ?_ ?_ <;> (intro hc; (try simp only [zhcs, reduceCtorEq] at hc); (try (exfalso; first | omega | contradiction | omega | exact absurd rfl hc | exact absurd (by decide) hc))))))
      all_goals ((with_reducible apply At.retB1 (B := [.blk b _ _])); exact rfl; exact rfl; exact zml; exact zkp; exact ⟨rfl, rfl, rfl⟩)
    · have hbd := part_bd (c := (s.1[q.i]!).toNat) (show q.i ≤ 9 by omega) h9 hcb
      have hp9 := pow_le9 (show q.i ≤ 9 by omega)
      have hlt' := hp.lt
      (repeat' (first | refine zss ?_ | ((first | (with_reducible first | apply At.val | apply AtQ.val)); (first | exact pr_andnot (by rfl) (by rfl) (andnot128 _) | exact pr_and (by rfl) (by rfl) (and128 _) | exact pr_shlv (by rfl) (by rfl) (by omega) (by simp only [IntKind.bits]; omega) (shl7 (by omega) h9 hcb) | exact pr_or (by rfl) (by rfl) (or_part (by omega) hlt' (by omega))); exact rfl) | refine zsO ?_ | ((with_reducible first | apply At.c1 | apply At.c0); exact rfl; exact rfl; exact fail b s; exact ztk; kernel_rfl; rintro v' m' B' hm' ⟨rfl, rfl, rfl⟩; skip; (try (have hq0 : hm' = Mem.le_refl _ := rfl; clear hq0 hm'))) | (refine zsp ?_ ?_ <;> (intro hc; (try simp only [zhcs, reduceCtorEq] at hc); (try (exfalso; first | omega | contradiction | omega | exact absurd rfl hc | exact absurd (by decide) hc))))))
      all_goals first
        | (have hn := hp.none2 hi2 (.inr (by omega)); have e : rU s = (0, ([], true)) := (by unfold rU; rw [hn]); rw [e]; ((with_reducible apply At.retB1 (B := [.blk b _ _])); exact rfl; exact rfl; exact zml; exact zkp; exact ⟨rfl, rfl, rfl⟩))
        | (have hs1 := (hp.some1 hi2 (by omega) (by omega) (by omega)).1; have e : rU s = (q.A + 128 ^ q.i * (s.1[q.i]!).toNat, (s.1.drop (q.i + 1), s.2)) := (by unfold rU; rw [hs1]); rw [e]; ((with_reducible apply At.retB1 (B := [.blk b _ _])); exact rfl; exact rfl; exact zml; exact zkp; exact ⟨by rw [Nat.mod_eq_of_lt (by omega)], rfl, rfl⟩))
        | ((with_reducible refine At.reachk (⟨q.i + 1, q.A + 128 ^ q.i * ((s.1[q.i]!).toNat % 128)⟩) ?_ ?_ ?_ ?_); exact zsubs; exact zml; exact zente; exact ⟨⟨by show ((q.i + 1 : Nat) : Int) ≤ _; omega, hp.more hi2 (by omega) (by omega)⟩, by show 10 - (q.i + 1) < 10 - q.i; omega⟩)
  · have hn := hp.none1 (by omega)
    have e : rU s = (0, ([], true)) := by unfold rU; rw [hn]
    rw [e]
    (repeat' (first | refine zss ?_ | refine zsO ?_ | ((with_reducible first | apply At.c1 | apply At.c0); exact rfl; exact rfl; exact fail b s; exact ztk; kernel_rfl; rintro v' m' B' hm' ⟨rfl, rfl, rfl⟩; skip; (try (have hq0 : hm' = Mem.le_refl _ := rfl; clear hq0 hm'))) | (refine zsp ?_ ?_ <;> (intro hc; (try simp only [zhcs, reduceCtorEq] at hc); (try (exfalso; first | omega | contradiction | omega | exact absurd rfl hc | exact absurd (by decide) hc))))))
    all_goals ((with_reducible apply At.retB1 (B := [.blk b _ _])); exact rfl; exact rfl; exact zml; exact zkp; exact ⟨rfl, rfl, rfl⟩)
theorem left {m : Mem} (b : Nat) (s : RS) : Rd Try.prog 33 #[ptr b] m [rd b s] (.int .i64 (s.1.length : Int)) := by
  unfold Rd
  refine Ct.enterV (by rfl) Try.func33 rfl Try.ntmps33 rfl (fun w0 Rest => ?_)
  (repeat' (first | refine zss ?_ | refine zs0 ?_ | (refine zsp ?_ ?_ <;> (intro hc; (try simp only [zhcs, reduceCtorEq] at hc); (try (exfalso; first | contradiction | omega | exact absurd rfl hc | exact absurd (by decide) hc))))))
  all_goals ((with_reducible apply At.retB1 (B := [.blk b _ _])); exact rfl; exact rfl; exact zml; exact zkp; exact ⟨rfl, rfl, rfl⟩)
theorem bad {m : Mem} (b : Nat) (s : RS) : Rd Try.prog 31 #[ptr b] m [rd b s] (.bool s.2) := by
  unfold Rd
  refine Ct.enterV (by rfl) Try.func31 rfl Try.ntmps31 rfl (fun w0 Rest => ?_)
  (repeat' (first | refine zss ?_ | refine zs0 ?_ | (refine zsp ?_ ?_ <;> (intro hc; (try simp only [zhcs, reduceCtorEq] at hc); (try (exfalso; first | contradiction | omega | exact absurd rfl hc | exact absurd (by decide) hc))))))
  all_goals ((with_reducible apply At.retB1 (B := [.blk b _ _])); exact rfl; exact rfl; exact zml; exact zkp; exact ⟨rfl, rfl, rfl⟩)
theorem open_ {m : Mem} (l : List UInt8) : Ct Try.prog 29 #[.string (str l)] m [] (fun v m' B => m = m' ∧ ∃ b, v = ptr b ∧ B = [rd b (l, false)]) := by
  refine Ct.enterV (by rfl) Try.func29 rfl Try.ntmps29 rfl (fun w0 Rest => ?_)
  (repeat' (first | refine zss ?_ | refine zs0 ?_ | ((with_reducible apply At.box (d := 5)); exact rfl; exact rfl; exact rfl; intro b5) | (refine zsp ?_ ?_ <;> (intro hc; (try simp only [zhcs, reduceCtorEq] at hc); (try (exfalso; first | contradiction | omega | exact absurd rfl hc | exact absurd (by decide) hc))))))
  all_goals ((with_reducible apply At.retB1 (B := [.blk _ _ _])); exact rfl; exact rfl; exact zml; exact zkp; exact ⟨rfl, _, rfl, rfl⟩)

def rR (n : Int) (s : RS) : List UInt8 × RS := if s.2 = true ∨ n < 0 ∨ (s.1.length : Int) < n then ([], ([], true)) else (s.1.take n.toNat, (s.1.drop n.toNat, false))
theorem rawR {m : Mem} (b : Nat) (s : RS) (n : Int) (hl : s.1.length ≤ 30000000000) : Ct Try.prog 51 #[ptr b, .int .i64 n] m [rd b s] (fun v m' B => v = .string (str (rR n s).1) ∧ m = m' ∧ B = [rd b (rR n s).2]) := by
  obtain ⟨l, bd⟩ := s
  by_cases hbad : bd = true ∨ n < 0 ∨ (l.length : Int) < n
  · have e : rR n (l, bd) = ([], ([], true)) := if_pos hbad
    rw [e]
    cases bd with
    | true =>
      refine Ct.enterV (by rfl) Try.func51 rfl Try.ntmps51 rfl (fun w0 Rest => ?_)
      (repeat' (first | refine zss ?_ | refine zs0 ?_ | ((with_reducible first | apply At.c1 | apply At.c0); exact rfl; exact rfl; exact fail b (l, true); exact ztk; kernel_rfl; rintro v' m' B' hm' ⟨rfl, rfl, rfl⟩; skip; (try (have hq0 : hm' = Mem.le_refl _ := rfl; clear hq0 hm'))) | (refine zsp ?_ ?_ <;> (intro hc; (try simp only [zhcs, reduceCtorEq] at hc); (try (exfalso; first | contradiction | omega | exact absurd rfl hc | exact absurd (by decide) hc))))))
      all_goals ((with_reducible apply At.retB1 (B := [.blk b _ _])); exact rfl; exact rfl; exact zml; exact zkp; exact ⟨rfl, rfl, rfl⟩)
    | false =>
      refine Ct.enterV (by rfl) Try.func51 rfl Try.ntmps51 rfl (fun w0 Rest => ?_)
      (repeat' (first | refine zss ?_ | refine zs0 ?_ | ((with_reducible first | apply At.c1 | apply At.c0); exact rfl; exact rfl; exact fail b (l, false); exact ztk; kernel_rfl; rintro v' m' B' hm' ⟨rfl, rfl, rfl⟩; skip; (try (have hq0 : hm' = Mem.le_refl _ := rfl; clear hq0 hm'))) | (refine zsp ?_ ?_ <;> (intro hc; (try simp only [zhcs, reduceCtorEq] at hc); (try (exfalso; first | (simp at hbad; omega) | contradiction | omega | exact absurd rfl hc | exact absurd (by decide) hc))))))
      all_goals ((with_reducible apply At.retB1 (B := [.blk b _ _])); exact rfl; exact rfl; exact zml; exact zkp; exact ⟨rfl, rfl, rfl⟩)
  · have e : rR n (l, bd) = (l.take n.toNat, (l.drop n.toNat, false)) := if_neg hbad
    rw [e]
    obtain rfl : bd = false := by cases bd <;> simp_all
    have hb2 : 0 ≤ n ∧ n ≤ (l.length : Int) := by simp at hbad; omega
    refine Ct.enterV (by rfl) Try.func51 rfl Try.ntmps51 rfl (fun w0 Rest => ?_)
    (repeat' (first | refine zss ?_ | refine zs0 ?_ | (refine zsp ?_ ?_ <;> (intro hc; (try simp only [zhcs, reduceCtorEq] at hc); (try (exfalso; first | omega | contradiction | omega | exact absurd rfl hc | exact absurd (by decide) hc))))))
    all_goals ((with_reducible apply At.retB1 (B := [.blk b _ _])); exact rfl; exact rfl; exact zml; exact zkp; exact ⟨rfl, rfl, rfl⟩)
def unzig (n : Nat) : Int := if n % 2 = 1 then -((n / 2 : Nat) : Int) - 1 else ((n / 2 : Nat) : Int)
def rI (s : RS) : Int × RS := (unzig (rU s).1, (rU s).2)
theorem unzig_bd {n : Nat} (h : n < 18446744073709551616) : -9223372036854775808 ≤ unzig n ∧ unzig n ≤ 9223372036854775807 := by unfold unzig; split <;> omega
theorem i64_xor0 {y : Int} (h0 : 0 ≤ y) (h1 : y < 9223372036854775808) : bits .xor .i64 y 0 = y := by
  unfold bits
  simp only
  have : (BitVec.ofInt IntKind.i64.bits y ^^^ BitVec.ofInt IntKind.i64.bits 0) = BitVec.ofInt IntKind.i64.bits y := by simp
  rw [this, BitVec.toNat_ofInt, IntKind.wrap_i64]
  simp only [IntKind.bits]
  omega
theorem i64_xorm {y : Int} (h0 : 0 ≤ y) (h1 : y < 9223372036854775808) : bits .xor .i64 y (-1) = -y - 1 := by
  unfold bits
  simp only
  have : (BitVec.ofInt IntKind.i64.bits y ^^^ BitVec.ofInt IntKind.i64.bits (-1)) = ~~~ BitVec.ofInt IntKind.i64.bits y := by
    have e : BitVec.ofInt IntKind.i64.bits (-1) = BitVec.allOnes IntKind.i64.bits := by show BitVec.ofInt 64 (-1) = BitVec.allOnes 64; decide
    rw [e]
    exact BitVec.xor_allOnes
  rw [this, BitVec.toNat_not, BitVec.toNat_ofInt, IntKind.wrap_i64]
  simp only [IntKind.bits]
  omega
theorem rU_le (s : RS) : (rU s).2.1.length ≤ s.1.length := by
  unfold rU
  cases h : dec 0 s.1 with
  | none => simp
  | some x =>
    obtain ⟨n, r⟩ := x
    have := congrArg List.length (dec_spec _ _ _ _ h).1
    simp at this ⊢; omega
def rT (most : Int) (s : RS) : List UInt8 × RS := if most < 0 ∨ most < ((rU s).1 : Int) ∨ ((rU s).2.1.length : Int) < ((rU s).1 : Int) then ([], ([], true)) else rR ((rU s).1 : Int) (rU s).2
theorem textR {m : Mem} (b : Nat) (s : RS) (most : Int) (hm : -9223372036854775808 ≤ most ∧ most ≤ 9223372036854775807) (hl : s.1.length ≤ 30000000000) : Ct Try.prog 32 #[ptr b, .int .i64 most] m [rd b s] (fun v m' B => v = .string (str (rT most s).1) ∧ m = m' ∧ B = [rd b (rT most s).2]) := by
  have hU := rU_lt s
  have hle := rU_le s
  by_cases hc0 : most < 0 ∨ most < ((rU s).1 : Int) ∨ ((rU s).2.1.length : Int) < ((rU s).1 : Int)
  · have e : rT most s = ([], ([], true)) := if_pos hc0
    rw [e]
    refine Ct.enterV (by rfl) Try.func32 rfl Try.ntmps32 rfl (fun w0 Rest => ?_)
    (repeat' (first | refine zss ?_ | refine zs0 ?_ | ((with_reducible first | apply At.c1 | apply At.c0); exact rfl; exact rfl; exact ruintP b s hl; exact ztk; kernel_rfl; rintro v' m' B' hm' ⟨rfl, rfl, rfl⟩; skip; (try (have hq0 : hm' = Mem.le_refl _ := rfl; clear hq0 hm'))) | ((with_reducible first | apply At.c1 | apply At.c0); exact rfl; exact rfl; exact fail b (rU s).2; exact ztk; kernel_rfl; rintro v' m' B' hm' ⟨rfl, rfl, rfl⟩; skip; (try (have hq0 : hm' = Mem.le_refl _ := rfl; clear hq0 hm'))) | (refine zsp ?_ ?_ <;> (intro hc; (try simp only [zhcs, reduceCtorEq] at hc); (try (exfalso; first | omega | contradiction | omega | exact absurd rfl hc | exact absurd (by decide) hc))))))
    all_goals ((with_reducible apply At.retB1 (B := [.blk b _ _])); exact rfl; exact rfl; exact zml; exact zkp; exact ⟨rfl, rfl, rfl⟩)
  · have e : rT most s = rR ((rU s).1 : Int) (rU s).2 := if_neg hc0
    rw [e]
    refine Ct.enterV (by rfl) Try.func32 rfl Try.ntmps32 rfl (fun w0 Rest => ?_)
    (repeat' (first | refine zss ?_ | refine zs0 ?_ | ((with_reducible first | apply At.c1 | apply At.c0); exact rfl; exact rfl; exact ruintP b s hl; exact ztk; kernel_rfl; rintro v' m' B' hm' ⟨rfl, rfl, rfl⟩; skip; (try (have hq0 : hm' = Mem.le_refl _ := rfl; clear hq0 hm'))) | ((with_reducible first | apply At.c1 | apply At.c0); exact rfl; exact rfl; exact rawR b (rU s).2 ((rU s).1 : Int) (by omega); exact ztk; kernel_rfl; rintro v' m' B' hm' ⟨rfl, rfl, rfl⟩; skip; (try (have hq0 : hm' = Mem.le_refl _ := rfl; clear hq0 hm'))) | (refine zsp ?_ ?_ <;> (intro hc; (try simp only [zhcs, reduceCtorEq] at hc); (try (exfalso; first | omega | contradiction | omega | exact absurd rfl hc | exact absurd (by decide) hc))))))
    all_goals ((with_reducible apply At.retB1 (B := [.blk b _ _])); exact rfl; exact rfl; exact zml; exact zkp; exact ⟨rfl, rfl, rfl⟩)
/-- a fixed number out of its bytes -/
def num (l : List UInt8) : Nat := l.foldl (fun n c => 256 * n + c.toNat) 0
theorem num_snoc (l : List UInt8) (c : UInt8) : num (l ++ [c]) = 256 * num l + c.toNat := by simp [num]
theorem num_lt : ∀ l : List UInt8, num l < 256 ^ l.length := fun l => by
  have : ∀ (k : Nat) (l : List UInt8), l.length = k → num l < 256 ^ k := by
    intro k
    induction k with
    | zero => intro l h; rw [List.eq_nil_of_length_eq_zero h]; decide
    | succ k ih =>
      intro l h
      have hne : l ≠ [] := by intro e; subst e; simp at h
      have e := List.dropLast_concat_getLast hne
      rw [← e, num_snoc, Nat.pow_succ]
      have := ih l.dropLast (by simp [h])
      have := (l.getLast hne).toNat_lt
      omega
  exact this _ _ rfl
def rF (w : Int) (s : RS) : Nat × RS := if 1 ≤ w ∧ w ≤ 8 then (num (rR w s).1, (rR w s).2) else (0, ([], true))
structure FI where
  i : Nat
  a : Nat
theorem shl8_or {a c : Nat} (ha : a < 72057594037927936) (hc : c < 256) : bits .or .u64 ((a : Int) * 256) (c : Int) = ((256 * a + c : Nat) : Int) := by
  rw [show (a : Int) * 256 = ((256 * a : Nat) : Int) by omega, u64_or_nat _ _ (by omega) (by omega), nat_join 8 _ _ (by show 256 * a % 256 = 0; omega) (by show c < 256; omega)]
theorem shl8_or' {a c : Nat} {y : Int} (hy : y = (c : Int)) (ha : a < 72057594037927936) (hc : c < 256) : bits .or .u64 ((a : Int) * 2 ^ Int.toNat 8) y = ((256 * a + c : Nat) : Int) := by
  subst hy
  rw [show (2 : Int) ^ Int.toNat 8 = 256 from rfl]
  exact shl8_or ha hc
theorem num_take {l : List UInt8} {i : Nat} (h : i < l.length) : num (l.take (i + 1)) = 256 * num (l.take i) + (l[i]!).toNat := by rw [take_snoc h, num_snoc]
theorem num_bd {l : List UInt8} {i : Nat} (h : i < l.length) (h8 : l.length ≤ 8) : num (l.take i) < 72057594037927936 := by
  have h1 := num_lt (l.take i)
  have h2 : 256 ^ (l.take i).length ≤ 256 ^ 7 := Nat.pow_le_pow_right (by decide) (by simp; omega)
  exact Nat.lt_of_lt_of_le h1 (Nat.le_trans h2 (by decide))
theorem map_get {l : List UInt8} {i : Nat} (h : i < l.length) : (l.map bI)[i]! = ((l[i]!).toNat : Int) := by
  rw [getElem!_pos _ i (by simpa using h), getElem!_pos l i h, List.getElem_map]; rfl
theorem rR_len {w : Int} {s : RS} (hw : 1 ≤ w ∧ w ≤ 8) : (rR w s).1.length ≤ 8 := by
  unfold rR
  split
  · simp
  · simp; omega
/-! ### the document's reader -/
structure RJ where
  i : Nat
  A : Nat
end Cod
end Go.Proofs.Ytjncahmbllmllaa

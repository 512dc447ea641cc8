/- Part 15 of what the law's proof needs: rules of the walk, contracts of functions, plain laws. No condition. -/
import Derived.Test.YtkoijdmlehkhbaaGreatDoorTrLWZ14
import Derived.Lib.TrailingZeros
import Derived.Shelf.Spec.TrailingZeros
set_option linter.unusedSimpArgs false
set_option linter.unusedVariables false
set_option linter.unusedSectionVars false
set_option maxRecDepth 20000
set_option maxHeartbeats 4000000
namespace Go.Proofs.YtkoijdmlehkhbaaGreatDoor
open Go Go.J
attribute [local irreducible] At AtQ AtM AtM1 PR Ct Pu Rd Res.blk Res.own Res.ex RVs RV
namespace Wide
structure KS where
  (q : Nat) (r : Nat)
theorem u_in {a : Int} (h : 0 ≤ a ∧ a < 18446744073709551616) : IntKind.wrap .u64 a = a := by rw [IntKind.wrap_u64]; omega
theorem u_inN {a : Nat} (h : a < 18446744073709551616) : IntKind.wrap .u64 (a : Int) = (a : Int) := u_in (by omega)
theorem u_quo {a b : Nat} (h : a / b < 18446744073709551616) : IntKind.wrap .u64 ((a : Int).tdiv (b : Int)) = ((a / b : Nat) : Int) := by rw [← Int.ofNat_tdiv]; exact u_inN h
theorem u_rem (a b : Nat) : (a : Int).tmod (b : Int) = ((a % b : Nat) : Int) := (Int.ofNat_tmod a b).symm
theorem u_mul {a b : Nat} (h : a * b < 18446744073709551616) : IntKind.wrap .u64 ((a : Int) * (b : Int)) = ((a * b : Nat) : Int) := by rw [← Int.natCast_mul]; exact u_inN h
theorem u_mulw (a b : Nat) : IntKind.wrap .u64 ((a : Int) * (b : Int)) = ((a * b % 18446744073709551616 : Nat) : Int) := by rw [← Int.natCast_mul, IntKind.wrap_u64, Int.natCast_emod]; rfl
theorem u_add {a b : Nat} (h : a + b < 18446744073709551616) : IntKind.wrap .u64 ((a : Int) + (b : Int)) = ((a + b : Nat) : Int) := by rw [← Int.natCast_add]; exact u_inN h
theorem u_shl (a k : Nat) : IntKind.wrap .u64 ((a : Int) * 2 ^ ((k : Int)).toNat) = ((a * 2 ^ k % 18446744073709551616 : Nat) : Int) := by
  rw [Int.toNat_natCast, show ((2 : Int) ^ k) = ((2 ^ k : Nat) : Int) by rw [Int.natCast_pow]; rfl]
  exact u_mulw _ _
theorem u_shr (a k : Nat) : (a : Int) / 2 ^ ((k : Int)).toNat = ((a / 2 ^ k : Nat) : Int) := by
  rw [Int.toNat_natCast, show ((2 : Int) ^ k) = ((2 ^ k : Nat) : Int) by rw [Int.natCast_pow]; rfl, Int.natCast_ediv]
theorem u_shr32 (a : Nat) : (a : Int) / 2 ^ ((32 : Int)).toNat = ((a / 4294967296 : Nat) : Int) := u_shr a 32
theorem u_low (a : Nat) (h : a < 18446744073709551616) : bits .and .u64 (a : Int) 4294967295 = ((a % 4294967296 : Nat) : Int) := by rw [and_low32 _ (by omega) (by omega)]; rfl
theorem u_left {T P R : Nat} (h1 : P ≤ T) (h2 : T - P = R) (hR : R < 18446744073709551616) : IntKind.wrap .u64 (((T % 18446744073709551616 : Nat) : Int) - ((P % 18446744073709551616 : Nat) : Int)) = (R : Int) := by rw [IntKind.wrap_u64]; omega
theorem u_top (u d : Nat) : IntKind.wrap .u64 (((u * 4294967296 % 18446744073709551616 : Nat) : Int) + (d : Int)) = (((u * 4294967296 + d) % 18446744073709551616 : Nat) : Int) := by rw [IntKind.wrap_u64]; omega
set_option maxHeartbeats 4000000 in
theorem div64 (h l y V : Nat) (hV : V = h * 18446744073709551616 + l) (hy : h < y) (hyb : y < 18446744073709551616) (hl : l < 18446744073709551616) :
    Pu Tryz.prog 89 #[.int .u64 (h : Int), .int .u64 (l : Int), .int .u64 (y : Int)] (.tuple #[.int .u64 ((V / y : Nat) : Int), .int .u64 ((V % y : Nat) : Int)]) := Pu.intro fun m => by
  by_cases h0 : h = 0
  · subst h0
    rw [Nat.zero_mul, Nat.zero_add] at hV
    subst hV
    have f1 := u_quo (a := V) (b := y) (Nat.lt_of_le_of_lt (Nat.div_le_self _ _) hl)
    have f2 := u_rem V y
    refine Ct.enterV (by rfl) Tryz.func89 rfl Tryz.ntmps89 rfl (fun w0 Rest => ?_)
    (repeat' (first | refine zss ?_ | ((first | (with_reducible first | apply At.val | apply AtQ.val)); (first | exact pr_quo (by rfl) (by rfl) (by omega) f1 | exact pr_rem (by rfl) (by rfl) (by omega) f2 | exact zprA); exact rfl) | refine zs0 ?_ | (refine zsp ?_ ?_ <;> (intro hc; (try simp only [zhcs, reduceCtorEq] at hc); (try (exfalso; first | omega | contradiction | omega | exact absurd rfl hc | exact absurd (by decide) hc))))))
    all_goals ((with_reducible apply At.retB2 (B := [])); (iterate 3 exact rfl); exact zml; exact zkp; exact ⟨rfl, rfl, rfl⟩)
  · obtain ⟨hb1, hb0, hY1, hY2⟩ := lead y (by omega) hyb
    have hlz := lz y hyb
    obtain ⟨b, hb⟩ : ∃ b, b = Lib.bitLen y := ⟨_, rfl⟩
    rw [← hb] at hb1 hb0 hY1 hY2 hlz
    obtain ⟨s, hs⟩ : ∃ s, s = 64 - b := ⟨_, rfl⟩
    have hsb : s + b = 64 := by omega
    rw [show (64 - (b : Int)) = (s : Int) by omega] at hlz
    rw [← hs] at hY1 hY2
    have hk : 0 < 2 ^ s := Nat.pow_pos (by decide)
    obtain ⟨up, lo⟩ := shift_up h l s b hsb
    rw [← hV] at up lo
    obtain ⟨sd, sm⟩ := shift_div V y (2 ^ s) hk
    have hsh := u_shl y s
    rw [Nat.mod_eq_of_lt hY2] at hsh
    have hA : h * 2 ^ s < y * 2 ^ s := Nat.mul_lt_mul_of_pos_right hy hk
    have hfA := u_shl h s
    rw [Nat.mod_eq_of_lt (by omega)] at hfA
    have hfC := u_shr l b
    have hC : l / 2 ^ b < 2 ^ s := by
      rw [Nat.div_lt_iff_lt_mul (Nat.pow_pos (by decide)), ← Nat.pow_add, hsb]; exact hl
    have hor : bits .or .u64 ((h * 2 ^ s : Nat) : Int) ((l / 2 ^ b : Nat) : Int) = ((h * 2 ^ s + l / 2 ^ b : Nat) : Int) := by
      have : l / 2 ^ b ≤ l := Nat.div_le_self _ _
      rw [u64_or_nat _ _ (by omega) (by omega), nat_join s _ _ (Nat.mul_mod_left _ _) hC]
    have hfE := u_shl l s
    have hu : V * 2 ^ s / 18446744073709551616 < y * 2 ^ s := by
      rw [Nat.div_lt_iff_lt_mul (by decide), Nat.mul_right_comm]
      exact Nat.mul_lt_mul_of_pos_right (by omega) hk
    have hsplit := Nat.div_add_mod (V * 2 ^ s) 18446744073709551616
    rw [up] at hu hsplit
    rw [lo] at hsplit
    generalize h * 2 ^ s = A at *
    generalize l / 2 ^ b = C at *
    generalize l * 2 ^ s % 18446744073709551616 = E at *
    generalize V * 2 ^ s = W at *
    generalize y * 2 ^ s = Y at *
    have hEl : E < 18446744073709551616 := by rw [← lo]; exact Nat.mod_lt _ (by decide)
    obtain ⟨u, hue⟩ : ∃ u, u = A + C := ⟨_, rfl⟩
    rw [← hue] at hor hu hsplit
    obtain ⟨y1, hy1⟩ : ∃ y1, y1 = Y / 4294967296 := ⟨_, rfl⟩
    obtain ⟨y0, hy0⟩ : ∃ y0, y0 = Y % 4294967296 := ⟨_, rfl⟩
    obtain ⟨d1, hd1⟩ : ∃ d1, d1 = E / 4294967296 := ⟨_, rfl⟩
    obtain ⟨d0, hd0⟩ : ∃ d0, d0 = E % 4294967296 := ⟨_, rfl⟩
    have hYy : y1 * 4294967296 + y0 = Y := by omega
    have hEd : E = d1 * 4294967296 + d0 := by omega
    have K1 : KnH u d1 y1 y0 := ⟨by omega, by omega, by omega, by omega, by omega⟩
    obtain ⟨a1, a2⟩ := kn_all (u := u) (d1 := d1) (d0 := d0) (Y := Y) (by omega)
    rw [← hEd, Nat.mul_comm u, hsplit] at a1 a2
    obtain ⟨q1, hq1⟩ : ∃ q1, (u * 4294967296 + d1) / Y = q1 := ⟨_, rfl⟩
    obtain ⟨r1, hr1⟩ : ∃ r1, (u * 4294967296 + d1) % Y = r1 := ⟨_, rfl⟩
    obtain ⟨l1, l2⟩ := kn_left (T := u * 4294967296 + d1) (by omega) hq1
    have hr1Y : r1 < Y := by rw [← hr1]; exact Nat.mod_lt _ (by omega)
    rw [hr1] at l2
    rw [hq1, hr1] at a1
    rw [hr1] at a2
    have K2 : KnH r1 d0 y1 y0 := ⟨by omega, by omega, by omega, by omega, by omega⟩
    obtain ⟨q0, hq0⟩ : ∃ q0, (r1 * 4294967296 + d0) / Y = q0 := ⟨_, rfl⟩
    obtain ⟨r0, hr0⟩ : ∃ r0, (r1 * 4294967296 + d0) % Y = r0 := ⟨_, rfl⟩
    obtain ⟨k1, k2⟩ := kn_left (T := r1 * 4294967296 + d0) (by omega) hq0
    have hr0Y : r0 < Y := by rw [← hr0]; exact Nat.mod_lt _ (by omega)
    rw [hr0] at k2
    rw [hq0] at a1
    rw [hr0] at a2
    have hqb1 := kn_digit K1
    have hqb0 := kn_digit K2
    rw [hYy, hq1] at hqb1
    rw [hYy, hq0] at hqb0
    have I1 := kn_init K1
    have I2 := kn_init K2
    have e1 : u / y1 * y1 + u % y1 = u := I1.eq
    have e2 : r1 / y1 * y1 + r1 % y1 = r1 := I2.eq
    have hy10 : y1 ≠ 0 := by omega
    have g1 := u_shr32 Y
    have g2 := u_low Y hY2
    have g3 := u_shr32 E
    have g4 := u_low E hEl
    rw [← hy1] at g1
    rw [← hy0] at g2
    rw [← hd1] at g3
    rw [← hd0] at g4
    have m1 := u_quo (a := u) (b := y1) (Nat.lt_of_le_of_lt (Nat.div_le_self _ _) (by omega))
    have m2 := u_mul (a := u / y1) (b := y1) (by omega)
    have m3 : IntKind.wrap .u64 ((u : Int) - ((u / y1 * y1 : Nat) : Int)) = ((u % y1 : Nat) : Int) := by
      generalize u / y1 * y1 = X at e1 ⊢
      generalize u % y1 = Z at e1 ⊢
      rw [IntKind.wrap_u64]; omega
    have n1 := u_quo (a := r1) (b := y1) (Nat.lt_of_le_of_lt (Nat.div_le_self _ _) (by omega))
    have n2 := u_mul (a := r1 / y1) (b := y1) (by omega)
    have n3 : IntKind.wrap .u64 ((r1 : Int) - ((r1 / y1 * y1 : Nat) : Int)) = ((r1 % y1 : Nat) : Int) := by
      generalize r1 / y1 * y1 = X at e2 ⊢
      generalize r1 % y1 = Z at e2 ⊢
      rw [IntKind.wrap_u64]; omega
    have t1 := u_mulw u 4294967296
    have t2 := u_top u d1
    have t3 := u_mulw q1 Y
    have t4 := u_left l1 l2 (by omega)
    have v1 := u_mulw r1 4294967296
    have v2 := u_top r1 d0
    have v3 := u_mulw q0 Y
    have v4 := u_left k1 k2 (by omega)
    have v5 := u_mul (a := q1) (b := 4294967296) (by omega)
    have v6 := u_add (a := q1 * 4294967296) (b := q0) (by omega)
    have v7 := u_shr r0 s
    have z1 : V / y = q1 * 4294967296 + q0 := sd.symm.trans a1
    have z2 : V % y = r0 / 2 ^ s := by rw [← sm, a2]
    rw [z1, z2]
    clear z1 z2 sd sm a1 a2 up lo hsplit hV I1 I2 e1 e2 hb
    have hsub : IntKind.wrap .u64 (64 - (s : Int)) = (b : Int) := by rw [IntKind.wrap_u64]; omega
    refine Ct.enterV (by rfl) Tryz.func89 rfl Tryz.ntmps89 rfl (fun w0 Rest => ?_)
    (repeat' (first | ((refine At.cutb (id := 0) (σ := Nat) [2, 8, 9, 10, 11, 13, 14] (fun s F0 => (15, .int .u64 (s : Int)) :: F0) (fun s => m) (fun s => Rest) (fun s => s = q1) (by rfl) ?_ ?_)) | refine zss ?_ | ((first | (with_reducible first | apply At.val | apply AtQ.val)); (first | exact pr_sub (by rfl) (by rfl) hsub | exact pr_shlv (by rfl) (by rfl) (by omega) (by simp only [IntKind.bits]; omega) hsh | exact pr_shlv (by rfl) (by rfl) (by omega) (by simp only [IntKind.bits]; omega) hfA | exact pr_shlv (by rfl) (by rfl) (by omega) (by simp only [IntKind.bits]; omega) hfE | exact pr_shrv (by rfl) (by rfl) (by omega) (by simp only [IntKind.bits]; omega) g1 | exact pr_shrv (by rfl) (by rfl) (by omega) (by simp only [IntKind.bits]; omega) g3 | exact pr_shrv (by rfl) (by rfl) (by omega) (by simp only [IntKind.bits]; omega) hfC | exact pr_and (by rfl) (by rfl) g2 | exact pr_and (by rfl) (by rfl) g4 | exact pr_or (by rfl) (by rfl) hor | exact pr_quo (by rfl) (by rfl) (by omega) m1 | exact pr_mul (by rfl) (by rfl) m2 | exact pr_sub (by rfl) (by rfl) m3 | exact zprA); exact rfl) | refine zs0 ?_ | ((with_reducible first | apply AtM1.callp | apply AtQ.callp | apply At.callp); kernel_rfl; exact rfl; exact rfl; exact hlz) | (refine zsp ?_ ?_ <;> (intro hc; (try simp only [zhcs, reduceCtorEq] at hc); (try (exfalso; first | omega | contradiction | omega | exact absurd rfl hc | exact absurd (by decide) hc))))))
    · clear m1 m2 m3 n1 n2 n3 t1 t2 t3 t4 v1 v2 v3 v4 v5 v6 v7 g1 g2 g3 g4 hsh hfA hfC hfE hor hsub hlz k1 k2 l1 l2
      (refine At.loopk (σ := KS) [2, 8, 9, 10, 11, 13, 14] (fun s F0 => (15, .int .u64 (s.q : Int)) :: (16, .int .u64 (s.r : Int)) :: F0) (fun s => m) (fun s => Rest) (fun s => Kn u d1 y1 y0 s.q s.r) (fun s => s.q) ⟨u / y1, u % y1⟩ (by rfl) ?_ zsubs zml zente ?_)
      · exact kn_init K1
      rintro ⟨q, r⟩ kn
      dsimp only at kn ⊢
      have hle := kn_le K1 kn
      have hlt := kn.lt
      by_cases hC : 4294967296 ≤ q ∨ r * 4294967296 + d1 < q * y0
      · obtain ⟨hpos, hst⟩ : 0 < q ∧ (r + y1 < 4294967296 → Kn u d1 y1 y0 (q - 1) (r + y1)) := ⟨Nat.lt_of_le_of_lt (Nat.zero_le _) (kn_lt K1 kn hC), fun hr => (kn_step K1 kn hC hr).2⟩
        have o1 : IntKind.wrap .u64 ((q : Int) - 1) = ((q - 1 : Nat) : Int) := by rw [IntKind.wrap_u64]; omega
        have o2 := u_add (a := r) (b := y1) (by omega)
        by_cases hr : r + y1 < 4294967296
        · by_cases hq : 4294967296 ≤ q
          · (repeat' (first | refine zss ?_ | ((first | (with_reducible first | apply At.val | apply AtQ.val)); (first | exact pr_sub (by rfl) (by rfl) o1 | exact pr_add (by rfl) (by rfl) o2 | exact zprA); exact rfl) | refine zs0 ?_ | (refine zsp ?_ ?_ <;> (intro hc; (try simp only [zhcs, reduceCtorEq] at hc); (try (exfalso; first | omega | contradiction | omega | exact absurd rfl hc | exact absurd (by decide) hc))))))
            all_goals ((with_reducible refine At.reachk (⟨q - 1, r + y1⟩) ?_ ?_ ?_ ?_); exact zsubs; exact zml; exact zente; exact ⟨hst hr, by dsimp only; omega⟩)
          · have hn := hC.resolve_left hq
            have p1 := u_mul (a := q) (b := y0) (by have : q * y0 ≤ 4294967295 * 4294967295 := Nat.mul_le_mul (by omega) (by omega); omega)
            have p2 : IntKind.wrap .u64 (4294967296 * (r : Int)) = ((r * 4294967296 : Nat) : Int) := by rw [IntKind.wrap_u64]; omega
            have p3 := u_add (a := r * 4294967296) (b := d1) (by omega)
            generalize q * y0 = X at hn p1
            (repeat' (first | refine zss ?_ | ((first | (with_reducible first | apply At.val | apply AtQ.val)); (first | exact pr_sub (by rfl) (by rfl) o1 | exact pr_add (by rfl) (by rfl) o2 | exact pr_mul (by rfl) (by rfl) p1 | exact pr_mul (by rfl) (by rfl) p2 | exact pr_add (by rfl) (by rfl) p3 | exact zprA); exact rfl) | refine zs0 ?_ | (refine zsp ?_ ?_ <;> (intro hc; (try simp only [zhcs, reduceCtorEq] at hc); (try (exfalso; first | omega | contradiction | omega | exact absurd rfl hc | exact absurd (by decide) hc))))))
            all_goals ((with_reducible refine At.reachk (⟨q - 1, r + y1⟩) ?_ ?_ ?_ ?_); exact zsubs; exact zml; exact zente; exact ⟨hst hr, by dsimp only; omega⟩)
        · have hbr := kn_break K1 kn hC (by omega)
          rw [hYy, hq1] at hbr
          by_cases hq : 4294967296 ≤ q
          · (repeat' (first | refine zss ?_ | ((first | (with_reducible first | apply At.val | apply AtQ.val)); (first | exact pr_sub (by rfl) (by rfl) o1 | exact pr_add (by rfl) (by rfl) o2 | exact zprA); exact rfl) | refine zs0 ?_ | (refine zsp ?_ ?_ <;> (intro hc; (try simp only [zhcs, reduceCtorEq] at hc); (try (exfalso; first | omega | contradiction | omega | exact absurd rfl hc | exact absurd (by decide) hc))))))
            all_goals ((with_reducible refine At.reachk ((q - 1)) ?_ ?_ ?_ ?_); exact zsubs; exact zml; exact zente; exact hbr.symm)
          · have hn := hC.resolve_left hq
            have p1 := u_mul (a := q) (b := y0) (by have : q * y0 ≤ 4294967295 * 4294967295 := Nat.mul_le_mul (by omega) (by omega); omega)
            have p2 : IntKind.wrap .u64 (4294967296 * (r : Int)) = ((r * 4294967296 : Nat) : Int) := by rw [IntKind.wrap_u64]; omega
            have p3 := u_add (a := r * 4294967296) (b := d1) (by omega)
            generalize q * y0 = X at hn p1
            (repeat' (first | refine zss ?_ | ((first | (with_reducible first | apply At.val | apply AtQ.val)); (first | exact pr_sub (by rfl) (by rfl) o1 | exact pr_add (by rfl) (by rfl) o2 | exact pr_mul (by rfl) (by rfl) p1 | exact pr_mul (by rfl) (by rfl) p2 | exact pr_add (by rfl) (by rfl) p3 | exact zprA); exact rfl) | refine zs0 ?_ | (refine zsp ?_ ?_ <;> (intro hc; (try simp only [zhcs, reduceCtorEq] at hc); (try (exfalso; first | omega | contradiction | omega | exact absurd rfl hc | exact absurd (by decide) hc))))))
            all_goals ((with_reducible refine At.reachk ((q - 1)) ?_ ?_ ?_ ?_); exact zsubs; exact zml; exact zente; exact hbr.symm)
      · have hbr := kn_stop K1 kn (by omega)
        rw [hYy, hq1] at hbr
        have hq : q < 4294967296 := by omega
        have hn : ¬ r * 4294967296 + d1 < q * y0 := fun x => hC (.inr x)
        have p1 := u_mul (a := q) (b := y0) (by have : q * y0 ≤ 4294967295 * 4294967295 := Nat.mul_le_mul (by omega) (by omega); omega)
        have p2 : IntKind.wrap .u64 (4294967296 * (r : Int)) = ((r * 4294967296 : Nat) : Int) := by rw [IntKind.wrap_u64]; omega
        have p3 := u_add (a := r * 4294967296) (b := d1) (by omega)
        clear hC
        generalize q * y0 = X at hn p1
        (repeat' (first | refine zss ?_ | ((first | (with_reducible first | apply At.val | apply AtQ.val)); (first | exact pr_mul (by rfl) (by rfl) p1 | exact pr_mul (by rfl) (by rfl) p2 | exact pr_add (by rfl) (by rfl) p3 | exact zprA); exact rfl) | refine zs0 ?_ | (refine zsp ?_ ?_ <;> (intro hc; (try simp only [zhcs, reduceCtorEq] at hc); (try (exfalso; first | omega | contradiction | omega | exact absurd rfl hc | exact absurd (by decide) hc))))))
        all_goals ((with_reducible refine At.reachk (q) ?_ ?_ ?_ ?_); exact zsubs; exact zml; exact zente; exact hbr.symm)
    · rintro z rfl
      clear m1 m2 m3 g1 g2 g3 g4 hsh hfA hfC hfE hor hsub hlz
      (repeat' (first | ((refine At.cutb (id := 2) (σ := Nat) [2, 8, 14, 15, 17] (fun s F0 => (18, .int .u64 (s : Int)) :: F0) (fun s => m) (fun s => Rest) (fun s => s = q0) (by rfl) ?_ ?_)) | refine zss ?_ | ((first | (with_reducible first | apply At.val | apply AtQ.val)); (first | exact pr_mul (by rfl) (by rfl) t1 | exact pr_add (by rfl) (by rfl) t2 | exact pr_mul (by rfl) (by rfl) t3 | exact pr_sub (by rfl) (by rfl) t4 | exact pr_quo (by rfl) (by rfl) (by omega) n1 | exact pr_mul (by rfl) (by rfl) n2 | exact pr_sub (by rfl) (by rfl) n3 | exact zprA); exact rfl) | refine zs0 ?_ | (refine zsp ?_ ?_ <;> (intro hc; (try simp only [zhcs, reduceCtorEq] at hc); (try (exfalso; first | omega | contradiction | omega | exact absurd rfl hc | exact absurd (by decide) hc))))))
      · clear n1 n2 n3 v1 v2 v3 v4 v5 v6 v7 k1 k2 l1 l2
        (refine At.loopk (σ := KS) [2, 8, 9, 10, 14, 15, 17] (fun s F0 => (18, .int .u64 (s.q : Int)) :: (16, .int .u64 (s.r : Int)) :: F0) (fun s => m) (fun s => Rest) (fun s => Kn r1 d0 y1 y0 s.q s.r) (fun s => s.q) ⟨r1 / y1, r1 % y1⟩ (by rfl) ?_ zsubs zml zente ?_)
        · exact kn_init K2
        rintro ⟨q, r⟩ kn
        dsimp only at kn ⊢
        have hle := kn_le K2 kn
        have hlt := kn.lt
        by_cases hC : 4294967296 ≤ q ∨ r * 4294967296 + d0 < q * y0
        · obtain ⟨hpos, hst⟩ : 0 < q ∧ (r + y1 < 4294967296 → Kn r1 d0 y1 y0 (q - 1) (r + y1)) := ⟨Nat.lt_of_le_of_lt (Nat.zero_le _) (kn_lt K2 kn hC), fun hr => (kn_step K2 kn hC hr).2⟩
          have o1 : IntKind.wrap .u64 ((q : Int) - 1) = ((q - 1 : Nat) : Int) := by rw [IntKind.wrap_u64]; omega
          have o2 := u_add (a := r) (b := y1) (by omega)
          by_cases hr : r + y1 < 4294967296
          · by_cases hq : 4294967296 ≤ q
            · (repeat' (first | refine zss ?_ | ((first | (with_reducible first | apply At.val | apply AtQ.val)); (first | exact pr_sub (by rfl) (by rfl) o1 | exact pr_add (by rfl) (by rfl) o2 | exact zprA); exact rfl) | refine zs0 ?_ | (refine zsp ?_ ?_ <;> (intro hc; (try simp only [zhcs, reduceCtorEq] at hc); (try (exfalso; first | omega | contradiction | omega | exact absurd rfl hc | exact absurd (by decide) hc))))))
              all_goals ((with_reducible refine At.reachk (⟨q - 1, r + y1⟩) ?_ ?_ ?_ ?_); exact zsubs; exact zml; exact zente; exact ⟨hst hr, by dsimp only; omega⟩)
            · have hn := hC.resolve_left hq
              have p1 := u_mul (a := q) (b := y0) (by have : q * y0 ≤ 4294967295 * 4294967295 := Nat.mul_le_mul (by omega) (by omega); omega)
              have p2 : IntKind.wrap .u64 (4294967296 * (r : Int)) = ((r * 4294967296 : Nat) : Int) := by rw [IntKind.wrap_u64]; omega
              have p3 := u_add (a := r * 4294967296) (b := d0) (by omega)
              generalize q * y0 = X at hn p1
              (repeat' (first | refine zss ?_ | ((first | (with_reducible first | apply At.val | apply AtQ.val)); (first | exact pr_sub (by rfl) (by rfl) o1 | exact pr_add (by rfl) (by rfl) o2 | exact pr_mul (by rfl) (by rfl) p1 | exact pr_mul (by rfl) (by rfl) p2 | exact pr_add (by rfl) (by rfl) p3 | exact zprA); exact rfl) | refine zs0 ?_ | (refine zsp ?_ ?_ <;> (intro hc; (try simp only [zhcs, reduceCtorEq] at hc); (try (exfalso; first | omega | contradiction | omega | exact absurd rfl hc | exact absurd (by decide) hc))))))
              all_goals ((with_reducible refine At.reachk (⟨q - 1, r + y1⟩) ?_ ?_ ?_ ?_); exact zsubs; exact zml; exact zente; exact ⟨hst hr, by dsimp only; omega⟩)
          · have hbr := kn_break K2 kn hC (by omega)
            rw [hYy, hq0] at hbr
            by_cases hq : 4294967296 ≤ q
            · (repeat' (first | refine zss ?_ | ((first | (with_reducible first | apply At.val | apply AtQ.val)); (first | exact pr_sub (by rfl) (by rfl) o1 | exact pr_add (by rfl) (by rfl) o2 | exact zprA); exact rfl) | refine zs0 ?_ | (refine zsp ?_ ?_ <;> (intro hc; (try simp only [zhcs, reduceCtorEq] at hc); (try (exfalso; first | omega | contradiction | omega | exact absurd rfl hc | exact absurd (by decide) hc))))))
              all_goals ((with_reducible refine At.reachk ((q - 1)) ?_ ?_ ?_ ?_); exact zsubs; exact zml; exact zente; exact hbr.symm)
            · have hn := hC.resolve_left hq
              have p1 := u_mul (a := q) (b := y0) (by have : q * y0 ≤ 4294967295 * 4294967295 := Nat.mul_le_mul (by omega) (by omega); omega)
              have p2 : IntKind.wrap .u64 (4294967296 * (r : Int)) = ((r * 4294967296 : Nat) : Int) := by rw [IntKind.wrap_u64]; omega
              have p3 := u_add (a := r * 4294967296) (b := d0) (by omega)
              generalize q * y0 = X at hn p1
              (repeat' (first | refine zss ?_ | ((first | (with_reducible first | apply At.val | apply AtQ.val)); (first | exact pr_sub (by rfl) (by rfl) o1 | exact pr_add (by rfl) (by rfl) o2 | exact pr_mul (by rfl) (by rfl) p1 | exact pr_mul (by rfl) (by rfl) p2 | exact pr_add (by rfl) (by rfl) p3 | exact zprA); exact rfl) | refine zs0 ?_ | (refine zsp ?_ ?_ <;> (intro hc; (try simp only [zhcs, reduceCtorEq] at hc); (try (exfalso; first | omega | contradiction | omega | exact absurd rfl hc | exact absurd (by decide) hc))))))
              all_goals ((with_reducible refine At.reachk ((q - 1)) ?_ ?_ ?_ ?_); exact zsubs; exact zml; exact zente; exact hbr.symm)
        · have hbr := kn_stop K2 kn (by omega)
          rw [hYy, hq0] at hbr
          have hq : q < 4294967296 := by omega
          have hn : ¬ r * 4294967296 + d0 < q * y0 := fun x => hC (.inr x)
          have p1 := u_mul (a := q) (b := y0) (by have : q * y0 ≤ 4294967295 * 4294967295 := Nat.mul_le_mul (by omega) (by omega); omega)
          have p2 : IntKind.wrap .u64 (4294967296 * (r : Int)) = ((r * 4294967296 : Nat) : Int) := by rw [IntKind.wrap_u64]; omega
          have p3 := u_add (a := r * 4294967296) (b := d0) (by omega)
          clear hC
          generalize q * y0 = X at hn p1
          (repeat' (first | refine zss ?_ | ((first | (with_reducible first | apply At.val | apply AtQ.val)); (first | exact pr_mul (by rfl) (by rfl) p1 | exact pr_mul (by rfl) (by rfl) p2 | exact pr_add (by rfl) (by rfl) p3 | exact zprA); exact rfl) | refine zs0 ?_ | (refine zsp ?_ ?_ <;> (intro hc; (try simp only [zhcs, reduceCtorEq] at hc); (try (exfalso; first | omega | contradiction | omega | exact absurd rfl hc | exact absurd (by decide) hc))))))
          all_goals ((with_reducible refine At.reachk (q) ?_ ?_ ?_ ?_); exact zsubs; exact zml; exact zente; exact hbr.symm)
      · rintro z rfl
        (repeat' (first | refine zss ?_ | ((first | (with_reducible first | apply At.val | apply AtQ.val)); (first | exact pr_mul (by rfl) (by rfl) v1 | exact pr_add (by rfl) (by rfl) v2 | exact pr_mul (by rfl) (by rfl) v3 | exact pr_sub (by rfl) (by rfl) v4 | exact pr_mul (by rfl) (by rfl) v5 | exact pr_add (by rfl) (by rfl) v6 | exact pr_shrv (by rfl) (by rfl) (by omega) (by simp only [IntKind.bits]; omega) v7 | exact zprA); exact rfl) | refine zs0 ?_ | (refine zsp ?_ ?_ <;> (intro hc; (try simp only [zhcs, reduceCtorEq] at hc); (try (exfalso; first | omega | contradiction | omega | exact absurd rfl hc | exact absurd (by decide) hc))))))
        all_goals ((with_reducible apply At.retB2 (B := [])); (iterate 3 exact rfl); exact zml; exact zkp; exact ⟨rfl, rfl, rfl⟩)
end Wide
end Go.Proofs.YtkoijdmlehkhbaaGreatDoor
namespace Go.Proofs.YtkoijdmlehkhbaaGreatDoor
open Go
namespace Ra
/-- how many noughts a number of 128 bits ends in -/
def nt (x : Nat) : Nat := if x % 18446744073709551616 = 0 then 64 + Lib.ctz 64 (x / 18446744073709551616) else Lib.ctz 64 (x % 18446744073709551616)
/-- what is left of it without them -/
def od (x : Nat) : Nat := x / 2 ^ nt x
theorem ctz_at {y : Nat} (h0 : y ≠ 0) (h : y < 18446744073709551616) : ∃ k, y = 2 ^ Lib.ctz 64 y * (2 * k + 1) ∧ Lib.ctz 64 y < 64 := by
  unfold Lib.ctz
  rw [if_neg h0]
  exact Lib.ctzFrom_spec 64 y (Nat.pos_of_ne_zero h0) h
theorem nt_spec {x : Nat} (h0 : x ≠ 0) (hx : x < 340282366920938463463374607431768211456) : ∃ k, x = 2 ^ nt x * (2 * k + 1) ∧ nt x < 128 := by
  unfold nt
  have hd := Nat.div_add_mod x 18446744073709551616
  by_cases h : x % 18446744073709551616 = 0
  · rw [if_pos h]
    rw [h, Nat.add_zero] at hd
    obtain ⟨k, h1, h2⟩ := ctz_at (y := x / 18446744073709551616) (fun e => h0 (by rw [e] at hd; omega)) (by omega)
    refine ⟨k, ?_, by omega⟩
    rw [Nat.pow_add, Nat.mul_assoc, ← h1]
    exact hd.symm
  · rw [if_neg h]
    obtain ⟨k, h1, h2⟩ := ctz_at (y := x % 18446744073709551616) h (by omega)
    generalize Lib.ctz 64 (x % 18446744073709551616) = c at h1 h2
    refine ⟨x / 18446744073709551616 * 2 ^ (63 - c) + k, ?_, by omega⟩
    have e : (18446744073709551616 : Nat) = 2 ^ c * (2 * 2 ^ (63 - c)) := by
      rw [← Nat.pow_succ', ← Nat.pow_add, show c + (63 - c).succ = 64 by omega]
    rw [show 2 * (x / 18446744073709551616 * 2 ^ (63 - c) + k) + 1 = x / 18446744073709551616 * (2 * 2 ^ (63 - c)) + (2 * k + 1) by
      rw [Nat.mul_add, Nat.mul_left_comm, Nat.add_assoc]]
    rw [Nat.mul_add, ← h1, Nat.mul_left_comm, ← e, Nat.mul_comm]
    exact hd.symm
theorem od_spec {x : Nat} (h0 : x ≠ 0) (hx : x < 340282366920938463463374607431768211456) : x = 2 ^ nt x * od x ∧ od x % 2 = 1 := by
  obtain ⟨k, h1, _⟩ := nt_spec h0 hx
  have e : od x = 2 * k + 1 := by
    unfold od
    conv => lhs; lhs; rw [h1]
    exact Nat.mul_div_cancel_left _ (Nat.two_pow_pos _)
  rw [e]
  exact ⟨h1, by omega⟩
theorem odd_co {a : Nat} (h : a % 2 = 1) (i : Nat) : (2 ^ i).Coprime a := by
  refine Nat.Coprime.pow_left i ?_
  show Nat.gcd 2 a = 1
  rw [Nat.gcd_rec, h]; rfl
theorem gcd_od {a b : Nat} (h : a % 2 = 1) (h0 : b ≠ 0) (hb : b < 340282366920938463463374607431768211456) : Nat.gcd a (od b) = Nat.gcd a b := by
  conv => rhs; rw [(od_spec h0 hb).1]
  rw [Nat.gcd_comm a (2 ^ nt b * od b), Nat.Coprime.gcd_mul_left_cancel _ (odd_co h _), Nat.gcd_comm]
/-- a step of the halving -/
theorem gcd_step {a b : Nat} (h : a % 2 = 1) (h0 : b ≠ 0) (hb : b < 340282366920938463463374607431768211456) :
    Nat.gcd (min a (od b)) (max a (od b) - min a (od b)) = Nat.gcd a b ∧ min a (od b) % 2 = 1 ∧ min a (od b) + (max a (od b) - min a (od b)) < a + b := by
  obtain ⟨h1, h2⟩ := od_spec h0 hb
  have hle : od b ≤ b := by
    conv => rhs; rw [h1]
    exact Nat.le_mul_of_pos_left _ (Nat.two_pow_pos _)
  rw [← gcd_od h h0 hb]
  generalize od b = c at h2 hle
  rcases Nat.le_total a c with hac | hac
  · rw [Nat.min_eq_left hac, Nat.max_eq_right hac]
    exact ⟨Nat.gcd_sub_self_right hac, h, by omega⟩
  · rw [Nat.min_eq_right hac, Nat.max_eq_left hac, Nat.gcd_comm a c]
    exact ⟨Nat.gcd_sub_self_right hac, h2, by omega⟩
/-- what the halving comes to -/
theorem gcd_end {a b : Nat} (ha0 : a ≠ 0) (ha : a < 340282366920938463463374607431768211456) (hb0 : b ≠ 0) (hb : b < 340282366920938463463374607431768211456) : 2 ^ min (nt a) (nt b) * Nat.gcd (od a) b = Nat.gcd a b := by
  obtain ⟨h1, h2⟩ := od_spec ha0 ha
  obtain ⟨h3, h4⟩ := od_spec hb0 hb
  have e1 : Nat.gcd (od a) b = Nat.gcd (od a) (od b) := (gcd_od h2 hb0 hb).symm
  rw [e1]
  generalize od a = u at h1 h2
  generalize od b = v at h3 h4
  generalize nt a = i at h1
  generalize nt b = j at h3
  subst h1 h3
  rcases Nat.le_total i j with hij | hij
  · obtain ⟨k, rfl⟩ := Nat.exists_eq_add_of_le hij
    rw [Nat.min_eq_left hij, Nat.pow_add, Nat.mul_assoc, Nat.gcd_mul_left, Nat.gcd_comm u (2 ^ k * v), Nat.Coprime.gcd_mul_left_cancel _ (odd_co h2 _), Nat.gcd_comm v u]
  · obtain ⟨k, rfl⟩ := Nat.exists_eq_add_of_le hij
    rw [Nat.min_eq_right hij, Nat.pow_add, Nat.mul_assoc, Nat.gcd_mul_left, Nat.Coprime.gcd_mul_left_cancel _ (odd_co h4 _)]
theorem pow64 {k : Nat} (hk : k ≤ 64) : (18446744073709551616 : Nat) = 2 ^ k * 2 ^ (64 - k) := by
  rw [← Nat.pow_add, show k + (64 - k) = 64 by omega]
theorem or_add {a b i : Nat} (hb : b < 2 ^ i) : a * 2 ^ i ||| b = a * 2 ^ i + b := by
  rw [← Nat.shiftLeft_eq, Nat.shiftLeft_add_eq_or_of_lt hb]
/-- a number without its last k digits, in parts -/
theorem dn_parts {x k : Nat} (hk : k ≤ 64) : x / 2 ^ k / 18446744073709551616 = x / 18446744073709551616 / 2 ^ k ∧ x / 2 ^ k % 18446744073709551616 = (x / 18446744073709551616 % 2 ^ k) * 2 ^ (64 - k) + x % 18446744073709551616 / 2 ^ k ∧ x % 18446744073709551616 / 2 ^ k < 2 ^ (64 - k) := by
  have hd := Nat.div_add_mod x 18446744073709551616
  have hl : x % 18446744073709551616 < 18446744073709551616 := Nat.mod_lt _ (by decide)
  have e := pow64 hk
  have hA := Nat.two_pow_pos k
  generalize x / 18446744073709551616 = h at hd ⊢
  generalize x % 18446744073709551616 = l at hd hl ⊢
  generalize 18446744073709551616 = D at hd hl e ⊢
  generalize 2 ^ k = A at e hA ⊢
  generalize 2 ^ (64 - k) = B at e ⊢
  subst e
  have h1 : x / A = h * B + l / A := by
    rw [← hd, Nat.mul_assoc, Nat.mul_add_div hA, Nat.mul_comm B h]
  have h2 : l / A < B := Nat.div_lt_of_lt_mul hl
  have h3 : h * B = A * B * (h / A) + h % A * B := by
    conv => lhs; rw [← Nat.div_add_mod h A]
    rw [Nat.add_mul, Nat.mul_right_comm]
  have h4 : h % A * B + l / A < A * B := by
    have := Nat.mod_lt h hA
    calc h % A * B + l / A < h % A * B + B := by omega
      _ = (h % A + 1) * B := by rw [Nat.add_mul, Nat.one_mul]
      _ ≤ A * B := Nat.mul_le_mul_right _ this
  refine ⟨?_, ?_, h2⟩
  · rw [h1, h3, Nat.add_assoc, Nat.mul_add_div (by omega), Nat.div_eq_of_lt h4, Nat.add_zero]
  · rw [h1, h3, Nat.add_assoc, Nat.mul_add_mod, Nat.mod_eq_of_lt h4]
theorem dn_far {x k : Nat} (hx : x < 340282366920938463463374607431768211456) (hk : 64 ≤ k) : x / 2 ^ k / 18446744073709551616 = 0 ∧ x / 2 ^ k % 18446744073709551616 = x / 18446744073709551616 / 2 ^ (k - 64) := by
  have e : x / 2 ^ k = x / 18446744073709551616 / 2 ^ (k - 64) := by
    rw [Nat.div_div_eq_div_mul, show (18446744073709551616 : Nat) = 2 ^ 64 from rfl, ← Nat.pow_add, show 64 + (k - 64) = k by omega]
  have h1 : x / 18446744073709551616 / 2 ^ (k - 64) ≤ x / 18446744073709551616 := Nat.div_le_self _ _
  rw [e]
  generalize x / 18446744073709551616 / 2 ^ (k - 64) = q at h1 ⊢
  omega
/-- a number with k noughts more, in parts -/
theorem up_parts {x k : Nat} (hk : k ≤ 64) : x * 2 ^ k / 18446744073709551616 = x / 18446744073709551616 * 2 ^ k + x % 18446744073709551616 / 2 ^ (64 - k) ∧ x * 2 ^ k % 18446744073709551616 = x % 18446744073709551616 * 2 ^ k % 18446744073709551616 ∧ x % 18446744073709551616 / 2 ^ (64 - k) < 2 ^ k := by
  have hd := Nat.div_add_mod x 18446744073709551616
  have hl : x % 18446744073709551616 < 18446744073709551616 := Nat.mod_lt _ (by decide)
  have e := pow64 hk
  have hA := Nat.two_pow_pos k
  have hB := Nat.two_pow_pos (64 - k)
  have hmm : x * 2 ^ k % 18446744073709551616 = x % 18446744073709551616 * 2 ^ k % 18446744073709551616 := by rw [Nat.mod_mul_mod]
  refine ⟨?_, hmm, ?_⟩
  · generalize x / 18446744073709551616 = h at hd ⊢
    generalize x % 18446744073709551616 = l at hd hl ⊢
    generalize 18446744073709551616 = D at hd hl e ⊢
    generalize 2 ^ k = A at e hA ⊢
    generalize 2 ^ (64 - k) = B at e hB ⊢
    subst e
    rw [← hd, Nat.add_mul, Nat.mul_assoc, Nat.mul_add_div (Nat.mul_pos hA hB), Nat.mul_comm A B, Nat.mul_div_mul_right _ _ hA]
  · exact Nat.div_lt_of_lt_mul (by rw [Nat.mul_comm, ← e]; exact hl)
theorem up_far {x k : Nat} (hx : x * 2 ^ k < 340282366920938463463374607431768211456) (hk : 64 ≤ k) : x * 2 ^ k / 18446744073709551616 = x % 18446744073709551616 * 2 ^ (k - 64) % 18446744073709551616 ∧ x * 2 ^ k % 18446744073709551616 = 0 := by
  have e : x * 2 ^ k = x * 2 ^ (k - 64) * 18446744073709551616 := by
    rw [show (18446744073709551616 : Nat) = 2 ^ 64 from rfl, Nat.mul_assoc, ← Nat.pow_add, show k - 64 + 64 = k by omega]
  rw [e] at hx ⊢
  have hp := Nat.two_pow_pos (k - 64)
  have h1 : x ≤ x * 2 ^ (k - 64) := Nat.le_mul_of_pos_right _ hp
  generalize hq : x * 2 ^ (k - 64) = q at hx h1 ⊢
  have h2 : x % 18446744073709551616 = x := Nat.mod_eq_of_lt (by omega)
  rw [h2, hq]
  omega
end Ra
end Go.Proofs.YtkoijdmlehkhbaaGreatDoor
namespace Go.Proofs.YtkoijdmlehkhbaaGreatDoor
open Go Go.J
attribute [local irreducible] At AtQ AtM AtM1 PR Ct Pu Rd Res.blk Res.own Res.ex RVs RV
namespace Ra
open Wide
/-- the table as it was laid -/
def TZ (m : Mem) : Prop := ∀ w : World, (∀ k o, m k = some o → w.heap[k]? = some o) → TabAt 2 Lib.deBruijn64tab w
theorem TZ.mono {m m' : Mem} (h : TZ m) (hm : m.le m') : TZ m' := fun w hw => h w fun k o hk => hw k o (hm k o hk)
theorem pr_load_tz {n : Nat} {w0 : World} {F : Fr} {m : Mem} {Rs : List Res} {x : Operand} {t : TypeId} {j k : Nat} (h : TZ m) (hx : ev F x = some (.pointer (some ⟨2, j, none⟩))) (ht : isAggB Tryz.prog t = some false) (hj : j < 64) (hv : Lib.deBruijn64tab.getD j 0 = k) :
    PR Tryz.prog n F (HW w0 m Rs) (.load t x) (.int .u8 (k : Int)) := pr_load1 ht hx fun w hw => by
  have := h w hw.mem j hj
  rw [hv] at this
  exact this
theorem tz {m : Mem} (ht : TZ m) (x : Nat) (hx : x < 18446744073709551616) : Rd Tryz.prog 185 #[.int .u64 (x : Int)] m [] (.int .i64 ((Lib.ctz 64 x : Nat) : Int)) := by
  unfold Rd
  by_cases h0 : x = 0
  · subst h0
    rw [show Lib.ctz 64 0 = 64 from rfl]
    refine Ct.enterV (by rfl) Tryz.func185 rfl Tryz.ntmps185 rfl (fun w0 Rest => ?_)
    (repeat' (first | refine zss ?_ | ((first | (with_reducible first | apply At.val | apply AtQ.val)); (exact zprA); exact rfl) | refine zsM ?_ | (refine zsp ?_ ?_ <;> (intro hc; (try simp only [zhcs, reduceCtorEq] at hc); (try (exfalso; first | omega | contradiction | omega | exact absurd rfl hc | exact absurd (by decide) hc))))))
    all_goals ((with_reducible apply At.retB1 (B := [])); exact rfl; exact rfl; exact zml; exact zkp; exact ⟨rfl, rfl, rfl⟩)
  · obtain ⟨hlow, hk⟩ := Lib.lowest_bit 64 x h0 hx
    rw [show (2 : Nat) ^ 64 = 18446744073709551616 from rfl] at hlow
    obtain ⟨hi, htab⟩ := Lib.deBruijn64_at _ hk
    have e1 : IntKind.wrap .u64 (0 - (x : Int)) = ((18446744073709551616 - x : Nat) : Int) := by rw [IntKind.wrap_u64]; omega
    have e2 : bits .and .u64 (x : Int) ((18446744073709551616 - x : Nat) : Int) = ((2 ^ Lib.ctz 64 x : Nat) : Int) := by rw [bits_and_u64_nat x _ hx (by omega), hlow]
    generalize Lib.ctz 64 x = c at hk hi htab e2 ⊢
    generalize hz : 2 ^ c = z at hi htab e2
    have e3 : IntKind.wrap .u64 ((z : Int) * 285870213051353865) = ((z * 285870213051353865 % 18446744073709551616 : Nat) : Int) := u_mulw z 285870213051353865
    generalize z * 285870213051353865 % 18446744073709551616 = y at hi htab e3
    have e4 : (y : Int) / 2 ^ ((58 : Int)).toNat = ((y / 288230376151711744 : Nat) : Int) := u_shr y 58
    generalize y / 288230376151711744 = j at hi htab e4
    have e5 : IntKind.wrap .i64 ((c : Nat) : Int) = (c : Int) := IntWalk.i64_in _ (by omega)
    have h0' : ¬ (x : Int) = 0 := by omega
    clear hlow hz
    refine Ct.enterV (by rfl) Tryz.func185 rfl Tryz.ntmps185 rfl (fun w0 Rest => ?_)
    (repeat' (first | refine zss ?_ | ((first | (with_reducible first | apply At.val | apply AtQ.val)); (first | exact pr_neg (by rfl) e1 | exact pr_and (by rfl) (by rfl) e2 | exact pr_mul (by rfl) (by rfl) e3 | exact pr_shrv (by rfl) (by rfl) (by decide) (by decide) e4 | exact pr_indexArr1 (by rfl) (by rfl) (by rfl) (by rfl) hi | exact pr_load_tz ht (by rfl) (by rfl) hi htab | exact pr_conv ⟨_, rfl⟩ (by rfl) (by rfl) e5 | exact zprA); exact rfl) | refine zsM ?_ | (refine zsp ?_ ?_ <;> (intro hc; (try simp only [zhcs, reduceCtorEq] at hc); (try (exfalso; first | omega | contradiction | omega | exact absurd rfl hc | exact absurd (by decide) hc))))))
    all_goals ((with_reducible apply At.retB1 (B := [])); exact rfl; exact rfl; exact zml; exact zkp; exact ⟨rfl, rfl, rfl⟩)
end Ra
end Go.Proofs.YtkoijdmlehkhbaaGreatDoor
namespace Go.Proofs.YtkoijdmlehkhbaaGreatDoor
open Go Go.J
attribute [local irreducible] At AtQ AtM AtM1 PR Ct Pu Rd Res.blk Res.own Res.ex RVs RV
namespace Ra
open Wide
theorem wd_dec (a b : Nat) : decide (a = b) = andL [decide (((a / 18446744073709551616 : Nat) : Int) = ((b / 18446744073709551616 : Nat) : Int)), decide (((a % 18446744073709551616 : Nat) : Int) = ((b % 18446744073709551616 : Nat) : Int))] := by
  by_cases h : a = b
  · subst h; simp [andL]
  · rw [decide_eq_false h]
    by_cases h1 : ((a / 18446744073709551616 : Nat) : Int) = ((b / 18446744073709551616 : Nat) : Int)
    · rw [decide_eq_true h1, decide_eq_false (by omega)]; rfl
    · rw [decide_eq_false h1]; rfl
theorem pr_weq {n : Nat} {F : Fr} {C : World → Prop} {x y : Operand} {u : TypeId} {a b : Nat} (hx : ev F x = some (wv a)) (hy : ev F y = some (wv b)) : PR Tryz.prog n F C (.binOp .eql 41 x y u) (.bool (decide (a = b))) := by
  rw [wd_dec]
  exact pr_aggeq2 hx hy (by rfl) (by kernel_rfl) (by kernel_rfl) (by rfl)
theorem pr_wne {n : Nat} {F : Fr} {C : World → Prop} {x y : Operand} {u : TypeId} {a b : Nat} (hx : ev F x = some (wv a)) (hy : ev F y = some (wv b)) : PR Tryz.prog n F C (.binOp .neq 41 x y u) (.bool (!decide (a = b))) := by
  rw [wd_dec]
  exact pr_aggne2 hx hy (by rfl) (by kernel_rfl) (by kernel_rfl) (by rfl)
theorem hi_shl (h : Nat) {k : Nat} (hk : k ≤ 64) : h * 2 ^ (64 - k) % 18446744073709551616 = h % 2 ^ k * 2 ^ (64 - k) := by
  rw [pow64 hk, Nat.mul_mod_mul_right]
theorem none_ (x : Nat) : Pu Tryz.prog 76 #[wv x] (.bool (decide (x = 0))) := Pu.intro fun m => by
  by_cases h : x = 0
  · subst h
    refine Ct.enterV (by rfl) Tryz.func76 rfl Tryz.ntmps76 rfl (fun w0 Rest => ?_)
    (repeat' (first | refine zss ?_ | ((first | (with_reducible first | apply At.val | apply AtQ.val)); (first | exact pr_weq (a := 0) (b := 0) (by rfl) (by rfl) | exact zprA); exact rfl) | refine zs0 ?_ | ((with_reducible apply At.box (d := 1)); exact rfl; exact rfl; exact rfl; intro b1) | (refine zsp ?_ ?_ <;> (intro hc; (try simp only [zhcs, reduceCtorEq] at hc); (try (exfalso; first | contradiction | omega | exact absurd rfl hc | exact absurd (by decide) hc))))))
    all_goals ((with_reducible apply At.retB1 (B := [])); exact rfl; exact rfl; exact zml; exact zkp; exact ⟨rfl, rfl, rfl⟩)
  · refine Ct.enterV (by rfl) Tryz.func76 rfl Tryz.ntmps76 rfl (fun w0 Rest => ?_)
    (repeat' (first | refine zss ?_ | ((first | (with_reducible first | apply At.val | apply AtQ.val)); (first | exact pr_weq (a := x) (b := 0) (by rfl) (by rfl) | exact zprA); exact rfl) | refine zs0 ?_ | ((with_reducible apply At.box (d := 1)); exact rfl; exact rfl; exact rfl; intro b1) | (refine zsp ?_ ?_ <;> (intro hc; (try simp only [zhcs, reduceCtorEq] at hc); (try (exfalso; first | contradiction | omega | exact absurd rfl hc | exact absurd (by decide) hc))))))
    all_goals ((with_reducible apply At.retB1 (B := [])); exact rfl; exact rfl; exact zml; exact zkp; exact ⟨rfl, rfl, rfl⟩)
theorem ctz_le {y : Nat} (hy : y < 18446744073709551616) : Lib.ctz 64 y ≤ 64 := by
  by_cases h : y = 0
  · subst h; exact Nat.le_refl _
  · obtain ⟨_, _, h2⟩ := ctz_at h hy; omega
theorem noughts {m : Mem} (ht : TZ m) (x : Nat) (hx : x < 340282366920938463463374607431768211456) : Rd Tryz.prog 130 #[wv x] m [] (.int .i64 ((nt x : Nat) : Int)) := by
  unfold Rd
  have hl : x % 18446744073709551616 < 18446744073709551616 := Nat.mod_lt _ (by decide)
  have hc : ∀ y, y < 18446744073709551616 → Lib.ctz 64 y ≤ 64 := fun y hy => ctz_le hy
  unfold nt
  by_cases h : x % 18446744073709551616 = 0
  · rw [if_pos h]
    have k1 := fun (m' : Mem) (hm' : m.le m') => tz (m := m') (ht.mono hm') (x / 18446744073709551616) (by omega)
    have e1 := hc (x / 18446744073709551616) (by omega)
    generalize Lib.ctz 64 (x / 18446744073709551616) = c at k1 e1
    have e2 : IntKind.wrap .i64 (64 + (c : Int)) = ((64 + c : Nat) : Int) := by rw [show 64 + (c : Int) = ((64 + c : Nat) : Int) by omega]; exact IntWalk.i64_in _ (by omega)
    clear hc
    refine Ct.enterV (by rfl) Tryz.func130 rfl Tryz.ntmps130 rfl (fun w0 Rest => ?_)
    (repeat' (first | refine zss ?_ | ((first | (with_reducible first | apply At.val | apply AtQ.val)); (first | exact pr_add (by rfl) (by rfl) e2 | exact zprA); exact rfl) | refine zs0 ?_ | ((with_reducible first | apply AtM1.cr | apply AtQ.cr | apply At.cr); exact rfl; exact rfl; exact fun _ hmm => k1 _ hmm; exact ztk; kernel_rfl) | ((with_reducible apply At.box (d := 1)); exact rfl; exact rfl; exact rfl; intro b1) | (refine zsp ?_ ?_ <;> (intro hc; (try simp only [zhcs, reduceCtorEq] at hc); (try (exfalso; first | omega | contradiction | omega | exact absurd rfl hc | exact absurd (by decide) hc))))))
    all_goals ((with_reducible apply At.retB1 (B := [])); exact rfl; exact rfl; exact zml; exact zkp; exact ⟨rfl, rfl, rfl⟩)
  · rw [if_neg h]
    have k1 := fun (m' : Mem) (hm' : m.le m') => tz (m := m') (ht.mono hm') (x % 18446744073709551616) hl
    clear hc
    refine Ct.enterV (by rfl) Tryz.func130 rfl Tryz.ntmps130 rfl (fun w0 Rest => ?_)
    (repeat' (first | refine zss ?_ | ((first | (with_reducible first | apply At.val | apply AtQ.val)); (exact zprA); exact rfl) | refine zs0 ?_ | ((with_reducible first | apply AtM1.cr | apply AtQ.cr | apply At.cr); exact rfl; exact rfl; exact fun _ hmm => k1 _ hmm; exact ztk; kernel_rfl) | ((with_reducible apply At.box (d := 1)); exact rfl; exact rfl; exact rfl; intro b1) | (refine zsp ?_ ?_ <;> (intro hc; (try simp only [zhcs, reduceCtorEq] at hc); (try (exfalso; first | omega | contradiction | omega | exact absurd rfl hc | exact absurd (by decide) hc))))))
    all_goals ((with_reducible apply At.retB1 (B := [])); exact rfl; exact rfl; exact zml; exact zkp; exact ⟨rfl, rfl, rfl⟩)
theorem down (x k : Nat) (hx : x < 340282366920938463463374607431768211456) (hk : k < 128) : Pu Tryz.prog 131 #[wv x, .int .i64 (k : Int)] (wv (x / 2 ^ k)) := Pu.intro fun m => by
  by_cases h : 64 ≤ k
  · obtain ⟨p1, p2⟩ := dn_far hx h
    have e1 : IntKind.wrap .i64 ((k : Int) - 64) = ((k - 64 : Nat) : Int) := by rw [show (k : Int) - 64 = ((k - 64 : Nat) : Int) by omega]; exact IntWalk.i64_in _ (by omega)
    have e2 := u_shr (x / 18446744073709551616) (k - 64)
    refine Ct.enterV (by rfl) Tryz.func131 rfl Tryz.ntmps131 rfl (fun w0 Rest => ?_)
    (repeat' (first | refine zss ?_ | ((first | (with_reducible first | apply At.val | apply AtQ.val)); (first | exact pr_sub (by rfl) (by rfl) e1 | exact pr_shrv (by rfl) (by rfl) (by omega) (by simp only [IntKind.bits]; omega) e2 | exact zprA); exact rfl) | refine zs0 ?_ | ((with_reducible apply At.box (d := 2)); exact rfl; exact rfl; exact rfl; intro b2) | ((with_reducible apply At.alloc (d := 4)); exact rfl; exact rfl; intro b4) | (refine zsp ?_ ?_ <;> (intro hc; (try simp only [zhcs, reduceCtorEq] at hc); (try (exfalso; first | omega | contradiction | omega | exact absurd rfl hc | exact absurd (by decide) hc))))))
    all_goals ((with_reducible apply At.retV (B := [])); exact rfl; (repeat' (first | exact RVs.nil | (with_reducible apply RVs.cons) | exact rv_tmp (by rfl) | exact rv_cellN (by rfl) (by repeat constructor) (by rfl) (by rfl) (by rfl) | exact rv_cell1 (by rfl) (by repeat constructor) (by rfl) (by rfl) | exact rv_cellA (by rfl) (by repeat constructor) (by rfl) (by rfl) zlq)); exact zml; exact zkp; exact ⟨wd_mk (by rw [p1]; rfl) (by rw [p2]), rfl, rfl⟩)
  · obtain ⟨p1, p2, p3⟩ := dn_parts (x := x) (k := k) (by omega)
    have e0 : IntKind.wrap .i64 (64 - (k : Int)) = ((64 - k : Nat) : Int) := by rw [show 64 - (k : Int) = ((64 - k : Nat) : Int) by omega]; exact IntWalk.i64_in _ (by omega)
    have e1 := u_shr (x / 18446744073709551616) k
    have e2 := u_shr (x % 18446744073709551616) k
    have e3 := u_shl (x / 18446744073709551616) (64 - k)
    have e4 : bits .or .u64 ((x % 18446744073709551616 / 2 ^ k : Nat) : Int) ((x / 18446744073709551616 * 2 ^ (64 - k) % 18446744073709551616 : Nat) : Int) = ((x / 2 ^ k % 18446744073709551616 : Nat) : Int) := by
      have hb : x % 18446744073709551616 / 2 ^ k ≤ x % 18446744073709551616 := Nat.div_le_self _ _
      rw [bits_or_u64_nat _ _ (by omega) (Nat.mod_lt _ (by decide)), p2]
      rw [hi_shl _ (show k ≤ 64 by omega), Nat.or_comm, or_add p3]
    refine Ct.enterV (by rfl) Tryz.func131 rfl Tryz.ntmps131 rfl (fun w0 Rest => ?_)
    (repeat' (first | ((with_reducible apply At.mixed (id := 3) 16 (.q 0 (.q 1 (.q 2 (.q 3 (.q 4 (.q 5 (.q 6 (.q 7 (.q 8 (.q 9 (.q 10 (.q 11 (.q 12 (.q 13 (.q 14 (.x 15 .done))))))))))))))))); exact rfl; kernel_rfl; kernel_rfl; kernel_rfl) | refine zsx ?_ | refine zss ?_ | ((with_reducible apply AtM.bo); exact rfl; exact rfl; exact rfl) | ((first | (with_reducible first | apply At.val | apply AtQ.val) | ((with_reducible first | apply AtM1.valz | apply AtM1.val); exact rfl) | ((with_reducible apply AtM1.val); exact rfl)); (first | exact pr_sub (by rfl) (by rfl) e0 | exact pr_shrv (by rfl) (by rfl) (by omega) (by simp only [IntKind.bits]; omega) e1 | exact pr_shrv (by rfl) (by rfl) (by omega) (by simp only [IntKind.bits]; omega) e2 | exact pr_shlv (by rfl) (by rfl) (by omega) (by simp only [IntKind.bits]; omega) e3 | exact pr_or (by rfl) (by rfl) e4 | exact zprA); exact rfl) | refine zs0 ?_ | refine zx0 ?_ | ((with_reducible apply At.box (d := 2)); exact rfl; exact rfl; exact rfl; intro b2) | ((with_reducible apply At.alloc (d := 4)); exact rfl; exact rfl; intro b4) | (refine zsp ?_ ?_ <;> (intro hc; (try simp only [zhcs, reduceCtorEq] at hc); (try (exfalso; first | omega | contradiction | omega | exact absurd rfl hc | exact absurd (by decide) hc))))))
    all_goals ((with_reducible apply At.retV (B := [])); exact rfl; (repeat' (first | exact RVs.nil | (with_reducible apply RVs.cons) | exact rv_tmp (by rfl) | exact rv_cellN (by rfl) (by repeat constructor) (by rfl) (by rfl) (by rfl) | exact rv_cell1 (by rfl) (by repeat constructor) (by rfl) (by rfl) | exact rv_cellA (by rfl) (by repeat constructor) (by rfl) (by rfl) zlq)); exact zml; exact zkp; exact ⟨wd_mk (by rw [p1]) rfl, rfl, rfl⟩)
theorem lessR (x y : Nat) (hx : x < 340282366920938463463374607431768211456) (hy : y < 340282366920938463463374607431768211456) : Pu Tryz.prog 132 #[wv x, wv y] (wv (x - y)) := Pu.intro fun m => by
  have k1 := sub x y hx hy
  refine Ct.enterV (by rfl) Tryz.func132 rfl Tryz.ntmps132 rfl (fun w0 Rest => ?_)
  (repeat' (first | refine zss ?_ | ((first | (with_reducible first | apply At.val | apply AtQ.val)); (exact zprA); exact rfl) | refine zs0 ?_ | ((with_reducible first | apply AtM1.callp | apply AtQ.callp | apply At.callp); kernel_rfl; exact rfl; exact rfl; exact k1) | ((with_reducible apply At.box (d := 2)); exact rfl; exact rfl; exact rfl; intro b2) | ((with_reducible apply At.box (d := 3)); exact rfl; exact rfl; exact rfl; intro b3) | ((with_reducible apply At.alloc (d := 4)); exact rfl; exact rfl; intro b4) | ((with_reducible apply At.alloc (d := 5)); exact rfl; exact rfl; intro b5) | (refine zsp ?_ ?_ <;> (intro hc; (try simp only [zhcs, reduceCtorEq] at hc); (try (exfalso; first | contradiction | omega | exact absurd rfl hc | exact absurd (by decide) hc))))))
  all_goals ((with_reducible apply At.retV (B := [])); exact rfl; (repeat' (first | exact RVs.nil | (with_reducible apply RVs.cons) | exact rv_tmp (by rfl) | exact rv_cellN (by rfl) (by repeat constructor) (by rfl) (by rfl) (by rfl) | exact rv_cell1 (by rfl) (by repeat constructor) (by rfl) (by rfl) | exact rv_cellA (by rfl) (by repeat constructor) (by rfl) (by rfl) zlq)); exact zml; exact zkp; exact ⟨rfl, rfl, rfl⟩)
theorem up (x k : Nat) (hx : x * 2 ^ k < 340282366920938463463374607431768211456) (h0 : x < 340282366920938463463374607431768211456) (hk : k < 128) : Pu Tryz.prog 133 #[wv x, .int .i64 (k : Int)] (wv (x * 2 ^ k)) := Pu.intro fun m => by
  by_cases h : 64 ≤ k
  · obtain ⟨p1, p2⟩ := up_far hx h
    have e1 : IntKind.wrap .i64 ((k : Int) - 64) = ((k - 64 : Nat) : Int) := by rw [show (k : Int) - 64 = ((k - 64 : Nat) : Int) by omega]; exact IntWalk.i64_in _ (by omega)
    have e2 := u_shl (x % 18446744073709551616) (k - 64)
    refine Ct.enterV (by rfl) Tryz.func133 rfl Tryz.ntmps133 rfl (fun w0 Rest => ?_)
    (repeat' (first | refine zss ?_ | ((first | (with_reducible first | apply At.val | apply AtQ.val)); (first | exact pr_sub (by rfl) (by rfl) e1 | exact pr_shlv (by rfl) (by rfl) (by omega) (by simp only [IntKind.bits]; omega) e2 | exact zprA); exact rfl) | refine zs0 ?_ | ((with_reducible apply At.box (d := 2)); exact rfl; exact rfl; exact rfl; intro b2) | ((with_reducible apply At.alloc (d := 4)); exact rfl; exact rfl; intro b4) | (refine zsp ?_ ?_ <;> (intro hc; (try simp only [zhcs, reduceCtorEq] at hc); (try (exfalso; first | omega | contradiction | omega | exact absurd rfl hc | exact absurd (by decide) hc))))))
    all_goals ((with_reducible apply At.retV (B := [])); exact rfl; (repeat' (first | exact RVs.nil | (with_reducible apply RVs.cons) | exact rv_tmp (by rfl) | exact rv_cellN (by rfl) (by repeat constructor) (by rfl) (by rfl) (by rfl) | exact rv_cell1 (by rfl) (by repeat constructor) (by rfl) (by rfl) | exact rv_cellA (by rfl) (by repeat constructor) (by rfl) (by rfl) zlq)); exact zml; exact zkp; exact ⟨wd_mk (by rw [p1]) (by rw [p2]; rfl), rfl, rfl⟩)
  · obtain ⟨p1, p2, p3⟩ := up_parts (x := x) (k := k) (by omega)
    have e0 : IntKind.wrap .i64 (64 - (k : Int)) = ((64 - k : Nat) : Int) := by rw [show 64 - (k : Int) = ((64 - k : Nat) : Int) by omega]; exact IntWalk.i64_in _ (by omega)
    have hh : x / 18446744073709551616 * 2 ^ k < 18446744073709551616 := by
      have : x * 2 ^ k / 18446744073709551616 < 18446744073709551616 := Nat.div_lt_of_lt_mul hx
      rw [p1] at this
      exact Nat.lt_of_le_of_lt (Nat.le_add_right _ _) this
    have e1 := u_shl (x / 18446744073709551616) k
    rw [Nat.mod_eq_of_lt hh] at e1
    have e2 := u_shl (x % 18446744073709551616) k
    have e3 := u_shr (x % 18446744073709551616) (64 - k)
    have e4 : bits .or .u64 ((x / 18446744073709551616 * 2 ^ k : Nat) : Int) ((x % 18446744073709551616 / 2 ^ (64 - k) : Nat) : Int) = ((x * 2 ^ k / 18446744073709551616 : Nat) : Int) := by
      have hb : x % 18446744073709551616 / 2 ^ (64 - k) ≤ x % 18446744073709551616 := Nat.div_le_self _ _
      rw [bits_or_u64_nat _ _ hh (Nat.lt_of_le_of_lt hb (Nat.mod_lt _ (by decide))), p1, or_add p3]
    refine Ct.enterV (by rfl) Tryz.func133 rfl Tryz.ntmps133 rfl (fun w0 Rest => ?_)
    (repeat' (first | ((with_reducible apply At.mixed (id := 3) 16 (.q 0 (.q 1 (.q 2 (.q 3 (.q 4 (.q 5 (.q 6 (.q 7 (.q 8 (.q 9 (.q 10 (.q 11 (.q 12 (.q 13 (.q 14 (.x 15 .done))))))))))))))))); exact rfl; kernel_rfl; kernel_rfl; kernel_rfl) | refine zsx ?_ | refine zss ?_ | ((with_reducible apply AtM.bo); exact rfl; exact rfl; exact rfl) | ((first | (with_reducible first | apply At.val | apply AtQ.val) | ((with_reducible first | apply AtM1.valz | apply AtM1.val); exact rfl) | ((with_reducible apply AtM1.val); exact rfl)); (first | exact pr_sub (by rfl) (by rfl) e0 | exact pr_shrv (by rfl) (by rfl) (by omega) (by simp only [IntKind.bits]; omega) e3 | exact pr_shlv (by rfl) (by rfl) (by omega) (by simp only [IntKind.bits]; omega) e1 | exact pr_shlv (by rfl) (by rfl) (by omega) (by simp only [IntKind.bits]; omega) e2 | exact pr_or (by rfl) (by rfl) e4 | exact zprA); exact rfl) | refine zs0 ?_ | refine zx0 ?_ | ((with_reducible apply At.box (d := 2)); exact rfl; exact rfl; exact rfl; intro b2) | ((with_reducible apply At.alloc (d := 4)); exact rfl; exact rfl; intro b4) | (refine zsp ?_ ?_ <;> (intro hc; (try simp only [zhcs, reduceCtorEq] at hc); (try (exfalso; first | omega | contradiction | omega | exact absurd rfl hc | exact absurd (by decide) hc))))))
    all_goals ((with_reducible apply At.retV (B := [])); exact rfl; (repeat' (first | exact RVs.nil | (with_reducible apply RVs.cons) | exact rv_tmp (by rfl) | exact rv_cellN (by rfl) (by repeat constructor) (by rfl) (by rfl) (by rfl) | exact rv_cell1 (by rfl) (by repeat constructor) (by rfl) (by rfl) | exact rv_cellA (by rfl) (by repeat constructor) (by rfl) (by rfl) zlq)); exact zml; exact zkp; exact ⟨wd_mk rfl (by rw [p2]), rfl, rfl⟩)
end Ra
end Go.Proofs.YtkoijdmlehkhbaaGreatDoor
namespace Go.Proofs.YtkoijdmlehkhbaaGreatDoor
open Go Go.J
attribute [local irreducible] At AtQ AtM AtM1 PR Ct Pu Rd Res.blk Res.own Res.ex RVs RV
namespace Ra
open Wide
theorem pr_minN {n : Nat} {F : Fr} {C : World → Prop} {x y : Operand} {k : IntKind} {p q : Nat} {ts : Array TypeId} (hx : ev F x = some (.int k (p : Int))) (hy : ev F y = some (.int k (q : Int))) : PR Tryz.prog n F C (.call ⟨.builtin .min, #[x, y], ts⟩) (.int k ((min p q : Nat) : Int)) := by
  rw [show ((min p q : Nat) : Int) = min (p : Int) (q : Int) by omega]
  exact pr_minI hx hy
theorem or_zero' (a : Nat) (h : a < 18446744073709551616) : bits .or .u64 (a : Int) 0 = (a : Int) := by
  have := bits_or_u64_nat a 0 h (by decide)
  rw [Nat.or_zero] at this
  exact this
theorem zero_or' (a : Nat) (h : a < 18446744073709551616) : bits .or .u64 0 (a : Int) = (a : Int) := by
  have := bits_or_u64_nat 0 a (by decide) h
  rw [Nat.zero_or] at this
  exact this
structure GS where
  (a b : Nat)
theorem gcd {m : Mem} (ht : TZ m) (x y : Nat) (hx : x < 340282366920938463463374607431768211456) (hy : y < 340282366920938463463374607431768211456) : Rd Tryz.prog 77 #[wv x, wv y] m [] (wv (Nat.gcd x y)) := by
  unfold Rd
  have hxh : x / 18446744073709551616 < 18446744073709551616 := by omega
  have hyh : y / 18446744073709551616 < 18446744073709551616 := by omega
  have n1 := none_ x
  have n2 := none_ y
  by_cases h0 : x = 0
  · rw [decide_eq_true h0] at n1
    subst h0
    rw [Nat.gcd_zero_left]
    have e1 := zero_or' _ hyh
    have e2 := zero_or' _ (show y % 18446744073709551616 < 18446744073709551616 by omega)
    refine Ct.enterV (by rfl) Tryz.func77 rfl Tryz.ntmps77 rfl (fun w0 Rest => ?_)
    (repeat' (first | refine zss ?_ | ((first | (with_reducible first | apply At.val | apply AtQ.val)); (first | exact pr_or (by rfl) (by rfl) e1 | exact pr_or (by rfl) (by rfl) e2); exact rfl) | refine zs0 ?_ | ((with_reducible first | apply AtM1.callp | apply AtQ.callp | apply At.callp); kernel_rfl; exact rfl; exact rfl; exact n1) | ((with_reducible first | apply AtM1.callp | apply AtQ.callp | apply At.callp); kernel_rfl; exact rfl; exact rfl; exact n2) | ((with_reducible apply At.box (d := 2)); exact rfl; exact rfl; exact rfl; intro b2) | ((with_reducible apply At.box (d := 3)); exact rfl; exact rfl; exact rfl; intro b3) | ((with_reducible apply At.alloc (d := 4)); exact rfl; exact rfl; intro b4) | (refine zsp ?_ ?_ <;> (intro hc; (try simp only [zhcs, reduceCtorEq] at hc); (try (exfalso; first | contradiction | omega | exact absurd rfl hc | exact absurd (by decide) hc))))))
    all_goals ((with_reducible apply At.retV (B := [])); exact rfl; (repeat' (first | exact RVs.nil | (with_reducible apply RVs.cons) | exact rv_tmp (by rfl) | exact rv_cellN (by rfl) (by repeat constructor) (by rfl) (by rfl) (by rfl) | exact rv_cell1 (by rfl) (by repeat constructor) (by rfl) (by rfl))); exact zml; exact zkp; exact ⟨rfl, rfl, rfl⟩)
  rw [decide_eq_false h0] at n1
  by_cases h1 : y = 0
  · rw [decide_eq_true h1] at n2
    subst h1
    rw [Nat.gcd_zero_right]
    have e1 := or_zero' _ hxh
    have e2 := or_zero' _ (show x % 18446744073709551616 < 18446744073709551616 by omega)
    refine Ct.enterV (by rfl) Tryz.func77 rfl Tryz.ntmps77 rfl (fun w0 Rest => ?_)
    (repeat' (first | refine zss ?_ | ((first | (with_reducible first | apply At.val | apply AtQ.val)); (first | exact pr_or (by rfl) (by rfl) e1 | exact pr_or (by rfl) (by rfl) e2); exact rfl) | refine zs0 ?_ | ((with_reducible first | apply AtM1.callp | apply AtQ.callp | apply At.callp); kernel_rfl; exact rfl; exact rfl; exact n1) | ((with_reducible first | apply AtM1.callp | apply AtQ.callp | apply At.callp); kernel_rfl; exact rfl; exact rfl; exact n2) | ((with_reducible apply At.box (d := 2)); exact rfl; exact rfl; exact rfl; intro b2) | ((with_reducible apply At.box (d := 3)); exact rfl; exact rfl; exact rfl; intro b3) | ((with_reducible apply At.alloc (d := 4)); exact rfl; exact rfl; intro b4) | (refine zsp ?_ ?_ <;> (intro hc; (try simp only [zhcs, reduceCtorEq] at hc); (try (exfalso; first | contradiction | omega | exact absurd rfl hc | exact absurd (by decide) hc))))))
    all_goals ((with_reducible apply At.retV (B := [])); exact rfl; (repeat' (first | exact RVs.nil | (with_reducible apply RVs.cons) | exact rv_tmp (by rfl) | exact rv_cellN (by rfl) (by repeat constructor) (by rfl) (by rfl) (by rfl) | exact rv_cell1 (by rfl) (by repeat constructor) (by rfl) (by rfl))); exact zml; exact zkp; exact ⟨rfl, rfl, rfl⟩)
  rw [decide_eq_false h1] at n2
  have k1 := fun (m' : Mem) (hm' : m.le m') => noughts (m := m') (ht.mono hm') x hx
  have k2 := fun (m' : Mem) (hm' : m.le m') => noughts (m := m') (ht.mono hm') y hy
  obtain ⟨_, _, q1⟩ := nt_spec h0 hx
  obtain ⟨_, _, q2⟩ := nt_spec h1 hy
  have kd := down x (nt x) hx q1
  have hend := gcd_end h0 hx h1 hy
  obtain ⟨o1, o2⟩ := od_spec h0 hx
  have hox : od x < 340282366920938463463374607431768211456 := Nat.lt_of_le_of_lt (Nat.div_le_self _ _) hx
  have hG : Nat.gcd x y < 340282366920938463463374607431768211456 := Nat.lt_of_le_of_lt (Nat.gcd_le_left y (by omega)) hx
  generalize Nat.gcd x y = G at hend hG ⊢
  have kd' : Pu Tryz.prog 131 #[wv x, .int .i64 ((nt x : Nat) : Int)] (wv (od x)) := kd
  clear kd
  generalize od x = u at kd' hend o2 hox
  refine Ct.enterV (by rfl) Tryz.func77 rfl Tryz.ntmps77 rfl (fun w0 Rest => ?_)
  (repeat' (first | ((with_reducible apply At.mixed (id := 4) 5 (.q 0 (.q 1 (.q 2 (.q 3 (.x 4 .done)))))); exact rfl; kernel_rfl; kernel_rfl; kernel_rfl) | ((with_reducible apply At.mixed (id := 6) 5 (.q 0 (.q 1 (.q 2 (.q 3 (.x 4 .done)))))); exact rfl; kernel_rfl; kernel_rfl; kernel_rfl) | refine zsx ?_ | refine zss ?_ | ((with_reducible apply AtM.bo); exact rfl; exact rfl; exact rfl) | ((first | (with_reducible first | apply At.val | apply AtQ.val) | ((with_reducible first | apply AtM1.valz | apply AtM1.val); exact rfl) | ((with_reducible apply AtM1.val); exact rfl)); (exact pr_minN (by rfl) (by rfl)); exact rfl) | refine zs0 ?_ | refine zx0 ?_ | ((with_reducible first | apply AtM1.callp | apply AtQ.callp | apply At.callp); kernel_rfl; exact rfl; exact rfl; exact n1) | ((with_reducible first | apply AtM1.callp | apply AtQ.callp | apply At.callp); kernel_rfl; exact rfl; exact rfl; exact n2) | ((with_reducible first | apply AtM1.cr | apply AtQ.cr | apply At.cr); exact rfl; exact rfl; exact fun _ hmm => k1 _ hmm; exact ztk; kernel_rfl) | ((with_reducible first | apply AtM1.cr | apply AtQ.cr | apply At.cr); exact rfl; exact rfl; exact fun _ hmm => k2 _ hmm; exact ztk; kernel_rfl) | ((with_reducible first | apply AtM1.callp | apply AtQ.callp | apply At.callp); kernel_rfl; exact rfl; exact rfl; exact kd') | ((with_reducible apply At.box (d := 2)); exact rfl; exact rfl; exact rfl; intro b2) | ((with_reducible apply At.box (d := 3)); exact rfl; exact rfl; exact rfl; intro b3) | ((with_reducible apply At.alloc (d := 4)); exact rfl; exact rfl; intro b4) | (refine zsp ?_ ?_ <;> (intro hc; (try simp only [zhcs, reduceCtorEq] at hc); (try (exfalso; first | contradiction | omega | exact absurd rfl hc | exact absurd (by decide) hc))))))
  clear k1 k2 n1 n2 kd' hx hxh hyh
  (refine At.loopk (σ := GS) [2, 3, 4, 5] (fun s F0 => F0) (fun s => m) (fun s => .blk b2 41 (wd s.a) :: .blk b3 41 (wd s.b) :: .blk b4 41 (wd 0) :: Rest) (fun s => s.a % 2 = 1 ∧ s.a < 340282366920938463463374607431768211456 ∧ s.b < 340282366920938463463374607431768211456 ∧ Nat.gcd s.a s.b = Nat.gcd u y) (fun s => s.a + s.b) ⟨u, y⟩ (by rfl) ?_ zsubs zml zente ?_)
  · exact ⟨o2, hox, hy, rfl⟩
  rintro ⟨a, b⟩ ⟨g1, g2, g3, g4⟩
  dsimp only at g1 g2 g3 g4 ⊢
  have n3 := none_ b
  by_cases hb : b = 0
  · rw [decide_eq_true hb] at n3
    subst hb
    rw [Nat.gcd_zero_right] at g4
    rw [← g4, Nat.mul_comm] at hend
    have ku := up a (min (nt x) (nt y)) (by rw [hend]; exact hG) g2 (by omega)
    rw [hend] at ku
    (repeat' (first | refine zss ?_ | refine zs0 ?_ | ((with_reducible first | apply AtM1.callp | apply AtQ.callp | apply At.callp); kernel_rfl; exact rfl; exact rfl; exact n3) | ((with_reducible first | apply AtM1.callp | apply AtQ.callp | apply At.callp); kernel_rfl; exact rfl; exact rfl; exact ku) | ((with_reducible apply At.box (d := 2)); exact rfl; exact rfl; exact rfl; intro b2) | ((with_reducible apply At.box (d := 3)); exact rfl; exact rfl; exact rfl; intro b3) | ((with_reducible apply At.alloc (d := 4)); exact rfl; exact rfl; intro b4) | (refine zsp ?_ ?_ <;> (intro hc; (try simp only [zhcs, reduceCtorEq] at hc); (try (exfalso; first | contradiction | omega | exact absurd rfl hc | exact absurd (by decide) hc))))))
    all_goals ((with_reducible apply At.retV (B := [])); exact rfl; (repeat' (first | exact RVs.nil | (with_reducible apply RVs.cons) | exact rv_tmp (by rfl) | exact rv_cellN (by rfl) (by repeat constructor) (by rfl) (by rfl) (by rfl) | exact rv_cell1 (by rfl) (by repeat constructor) (by rfl) (by rfl))); exact zml; exact zkp; exact ⟨rfl, rfl, rfl⟩)
  · rw [decide_eq_false hb] at n3
    obtain ⟨s1, s2, s3⟩ := gcd_step g1 hb g3
    obtain ⟨_, _, q3⟩ := nt_spec hb g3
    have k3 := fun (m' : Mem) (hm' : m.le m') => noughts (m := m') (ht.mono hm') b g3
    have kd : Pu Tryz.prog 131 #[wv b, .int .i64 ((nt b : Nat) : Int)] (wv (od b)) := down b (nt b) g3 q3
    have hob : od b < 340282366920938463463374607431768211456 := Nat.lt_of_le_of_lt (Nat.div_le_self _ _) g3
    generalize od b = c at s1 s2 s3 kd hob
    have kl := less c a
    clear q3
    by_cases hc2 : c < a
    · rw [decide_eq_true hc2] at kl
      rw [Nat.min_eq_right (Nat.le_of_lt hc2), Nat.max_eq_left (Nat.le_of_lt hc2)] at s1 s3
      rw [Nat.min_eq_right (Nat.le_of_lt hc2)] at s2
      have km := lessR a c g2 hob
      (repeat' (first | ((with_reducible apply At.mixed (id := 4) 5 (.q 0 (.q 1 (.q 2 (.q 3 (.x 4 .done)))))); exact rfl; kernel_rfl; kernel_rfl; kernel_rfl) | ((with_reducible apply At.mixed (id := 6) 5 (.q 0 (.q 1 (.q 2 (.q 3 (.x 4 .done)))))); exact rfl; kernel_rfl; kernel_rfl; kernel_rfl) | refine zsx ?_ | refine zss ?_ | ((with_reducible apply AtM.bo); exact rfl; exact rfl; exact rfl) | refine zs0 ?_ | refine zx0 ?_ | ((with_reducible first | apply AtM1.callp | apply AtQ.callp | apply At.callp); kernel_rfl; exact rfl; exact rfl; exact n3) | ((with_reducible first | apply AtM1.cr | apply AtQ.cr | apply At.cr); exact rfl; exact rfl; exact fun _ hmm => k3 _ hmm; exact ztk; kernel_rfl) | ((with_reducible first | apply AtM1.callp | apply AtQ.callp | apply At.callp); kernel_rfl; exact rfl; exact rfl; exact kd) | ((with_reducible first | apply AtM1.callp | apply AtQ.callp | apply At.callp); kernel_rfl; exact rfl; exact rfl; exact kl) | ((with_reducible first | apply AtM1.callp | apply AtQ.callp | apply At.callp); kernel_rfl; exact rfl; exact rfl; exact km) | ((with_reducible apply At.box (d := 2)); exact rfl; exact rfl; exact rfl; intro b2) | ((with_reducible apply At.box (d := 3)); exact rfl; exact rfl; exact rfl; intro b3) | ((with_reducible apply At.alloc (d := 4)); exact rfl; exact rfl; intro b4) | (refine zsp ?_ ?_ <;> (intro hc; (try simp only [zhcs, reduceCtorEq] at hc); (try (exfalso; first | contradiction | omega | exact absurd rfl hc | exact absurd (by decide) hc))))))
      all_goals ((with_reducible refine At.reachk ((⟨c, a - c⟩ : GS)) ?_ ?_ ?_ ?_); exact zsubs; exact zml; exact zente; exact ⟨⟨s2, hob, Nat.lt_of_le_of_lt (Nat.sub_le _ _) g2, s1.trans g4⟩, s3⟩)
    · rw [decide_eq_false hc2] at kl
      have hle := Nat.le_of_not_lt hc2
      rw [Nat.min_eq_left hle, Nat.max_eq_right hle] at s1 s3
      have km := lessR c a hob g2
      (repeat' (first | ((with_reducible apply At.mixed (id := 4) 5 (.q 0 (.q 1 (.q 2 (.q 3 (.x 4 .done)))))); exact rfl; kernel_rfl; kernel_rfl; kernel_rfl) | ((with_reducible apply At.mixed (id := 6) 5 (.q 0 (.q 1 (.q 2 (.q 3 (.x 4 .done)))))); exact rfl; kernel_rfl; kernel_rfl; kernel_rfl) | refine zsx ?_ | refine zss ?_ | ((with_reducible apply AtM.bo); exact rfl; exact rfl; exact rfl) | refine zs0 ?_ | refine zx0 ?_ | ((with_reducible first | apply AtM1.callp | apply AtQ.callp | apply At.callp); kernel_rfl; exact rfl; exact rfl; exact n3) | ((with_reducible first | apply AtM1.cr | apply AtQ.cr | apply At.cr); exact rfl; exact rfl; exact fun _ hmm => k3 _ hmm; exact ztk; kernel_rfl) | ((with_reducible first | apply AtM1.callp | apply AtQ.callp | apply At.callp); kernel_rfl; exact rfl; exact rfl; exact kd) | ((with_reducible first | apply AtM1.callp | apply AtQ.callp | apply At.callp); kernel_rfl; exact rfl; exact rfl; exact kl) | ((with_reducible first | apply AtM1.callp | apply AtQ.callp | apply At.callp); kernel_rfl; exact rfl; exact rfl; exact km) | ((with_reducible apply At.box (d := 2)); exact rfl; exact rfl; exact rfl; intro b2) | ((with_reducible apply At.box (d := 3)); exact rfl; exact rfl; exact rfl; intro b3) | ((with_reducible apply At.alloc (d := 4)); exact rfl; exact rfl; intro b4) | (refine zsp ?_ ?_ <;> (intro hc; (try simp only [zhcs, reduceCtorEq] at hc); (try (exfalso; first | contradiction | omega | exact absurd rfl hc | exact absurd (by decide) hc))))))
      all_goals ((with_reducible refine At.reachk ((⟨a, c - a⟩ : GS)) ?_ ?_ ?_ ?_); exact zsubs; exact zml; exact zente; exact ⟨⟨g1, g2, Nat.lt_of_le_of_lt (Nat.sub_le _ _) hob, s1.trans g4⟩, s3⟩)
end Ra
end Go.Proofs.YtkoijdmlehkhbaaGreatDoor
namespace Go.Proofs.YtkoijdmlehkhbaaGreatDoor
open Go Go.J
attribute [local irreducible] At AtQ AtM AtM1 PR Ct Pu Rd Res.blk Res.own Res.ex RVs RV
namespace Ra
open Wide
/-- a ratio's value -/
abbrev rv (n d : Nat) : Value := .agg (wd n ++ wd d).toArray
def chk (n d : Nat) : Int := if d = 0 ∨ Nat.gcd n d ≠ 1 then 2 else 0
theorem check {m : Mem} (ht : TZ m) (n d : Nat) (hn : n < 340282366920938463463374607431768211456) (hd : d < 340282366920938463463374607431768211456) : Rd Tryz.prog 42 #[rv n d] m [] (.int .i64 (chk n d)) := by
  unfold Rd
  have k1 := none_ d
  have k2 := fun (m' : Mem) (hm' : m.le m') => gcd (m := m') (ht.mono hm') n d hn hd
  have k3 := of_ 1 (by decide)
  unfold chk
  by_cases h0 : d = 0
  · rw [decide_eq_true h0] at k1
    rw [if_pos (.inl h0)]
    refine Ct.enterV (by rfl) Tryz.func42 rfl Tryz.ntmps42 rfl (fun w0 Rest => ?_)
    (repeat' (first | refine zss ?_ | refine zs0 ?_ | ((with_reducible first | apply AtM1.callp | apply AtQ.callp | apply At.callp); kernel_rfl; exact rfl; exact rfl; exact k1) | ((with_reducible apply At.box (d := 1)); exact rfl; exact rfl; exact rfl; intro b1) | (refine zsp ?_ ?_ <;> (intro hc; (try simp only [zhcs, reduceCtorEq] at hc); (try (exfalso; first | contradiction | omega | exact absurd rfl hc | exact absurd (by decide) hc))))))
    all_goals ((with_reducible apply At.retB1 (B := [])); exact rfl; exact rfl; exact zml; exact zkp; exact ⟨rfl, rfl, rfl⟩)
  · rw [decide_eq_false h0] at k1
    obtain ⟨g, hg⟩ : ∃ g, Nat.gcd n d = g := ⟨_, rfl⟩
    rw [hg] at k2
    by_cases h1 : g = 1
    · rw [if_neg (by rw [hg]; rintro (h | h); exact h0 h; exact h h1)]
      clear hg
      subst h1
      refine Ct.enterV (by rfl) Tryz.func42 rfl Tryz.ntmps42 rfl (fun w0 Rest => ?_)
      (repeat' (first | refine zss ?_ | ((first | (with_reducible first | apply At.val | apply AtQ.val)); (exact pr_wne (a := 1) (b := 1) (by rfl) (by rfl)); exact rfl) | refine zs0 ?_ | ((with_reducible first | apply AtM1.callp | apply AtQ.callp | apply At.callp); kernel_rfl; exact rfl; exact rfl; exact k1) | ((with_reducible first | apply AtM1.cr | apply AtQ.cr | apply At.cr); exact rfl; exact rfl; exact fun _ hmm => k2 _ hmm; exact ztk; kernel_rfl) | ((with_reducible first | apply AtM1.callp | apply AtQ.callp | apply At.callp); kernel_rfl; exact rfl; exact rfl; exact k3) | ((with_reducible apply At.box (d := 1)); exact rfl; exact rfl; exact rfl; intro b1) | (refine zsp ?_ ?_ <;> (intro hc; (try simp only [zhcs, reduceCtorEq] at hc); (try (exfalso; first | contradiction | omega | exact absurd rfl hc | exact absurd (by decide) hc))))))
      all_goals ((with_reducible apply At.retB1 (B := [])); exact rfl; exact rfl; exact zml; exact zkp; exact ⟨rfl, rfl, rfl⟩)
    · rw [if_pos (by rw [hg]; exact .inr h1)]
      have e : (!decide (g = 1)) = true := by rw [decide_eq_false h1]; rfl
      have pw : ∀ {n' : Nat} {F : Fr} {C : World → Prop} {x y : Operand} {u : TypeId}, ev F x = some (wv g) → ev F y = some (wv 1) → PR Tryz.prog n' F C (.binOp .neq 41 x y u) (.bool true) := fun hx hy => by rw [← e]; exact pr_wne hx hy
      refine Ct.enterV (by rfl) Tryz.func42 rfl Tryz.ntmps42 rfl (fun w0 Rest => ?_)
      (repeat' (first | refine zss ?_ | ((first | (with_reducible first | apply At.val | apply AtQ.val)); (exact pw (by rfl) (by rfl)); exact rfl) | refine zs0 ?_ | ((with_reducible first | apply AtM1.callp | apply AtQ.callp | apply At.callp); kernel_rfl; exact rfl; exact rfl; exact k1) | ((with_reducible first | apply AtM1.cr | apply AtQ.cr | apply At.cr); exact rfl; exact rfl; exact fun _ hmm => k2 _ hmm; exact ztk; kernel_rfl) | ((with_reducible first | apply AtM1.callp | apply AtQ.callp | apply At.callp); kernel_rfl; exact rfl; exact rfl; exact k3) | ((with_reducible apply At.box (d := 1)); exact rfl; exact rfl; exact rfl; intro b1) | (refine zsp ?_ ?_ <;> (intro hc; (try simp only [zhcs, reduceCtorEq] at hc); (try (exfalso; first | contradiction | omega | exact absurd rfl hc | exact absurd (by decide) hc))))))
      all_goals ((with_reducible apply At.retB1 (B := [])); exact rfl; exact rfl; exact zml; exact zkp; exact ⟨rfl, rfl, rfl⟩)
end Ra
end Go.Proofs.YtkoijdmlehkhbaaGreatDoor
namespace Go.Proofs.YtkoijdmlehkhbaaGreatDoor
open Go Go.J
attribute [local irreducible] At AtQ AtM AtM1 PR Ct Pu Rd Res.blk Res.own Res.ex RVs RV
namespace Qu
open Wide
def In (x : Nat) : Prop := x < 340282366920938463463374607431768211456
abbrev fd (p : Nat × Nat) : List Value := wd p.1 ++ wd p.2
abbrev fv (p : Nat × Nat) : Value := .agg (fd p).toArray
def In2 (p : Nat × Nat) : Prop := In p.1 ∧ In p.2
instance : Fl fd 4 := ⟨fun _ => rfl, fun x v h => by simp at h; rcases h with rfl | rfl | rfl | rfl <;> rfl, by decide⟩
def bad (p : Nat × Nat) : Bool := decide (Ra.chk p.1 p.2 ≠ 0)
def big (p : Nat × Nat) : Bool := decide (18446744073709551616 ≤ p.1 ∨ 18446744073709551616 ≤ p.2)
def chkL (l : List (Nat × Nat)) : Int := if l.any bad = true then 2 else if l.any big = true then 1 else 0
theorem chk_two {a b : Nat} (h : Ra.chk a b ≠ 0) : Ra.chk a b = 2 := by
  unfold Ra.chk at h ⊢
  split
  · rfl
  · rename_i k
    rw [if_neg k] at h
    exact absurd rfl h
theorem chk_sm {p : Nat × Nat} (h1 : bad p = false) (h2 : big p = false) : Sm p := by
  have h1 := of_decide_eq_false h1
  have h2 := of_decide_eq_false h2
  have h3 : Ra.chk p.1 p.2 = 0 := Classical.byContradiction fun e => h1 e
  unfold Ra.chk at h3
  by_cases k : p.2 = 0 ∨ Nat.gcd p.1 p.2 ≠ 1
  · rw [if_pos k] at h3; exact absurd h3 (by decide)
  · exact ⟨by omega, by omega, by omega, Classical.byContradiction fun e => k (.inr e)⟩
theorem sm_chk {p : Nat × Nat} (h : Sm p) : bad p = false ∧ big p = false := by
  have h3 : Ra.chk p.1 p.2 = 0 := if_neg (by rintro (k | k); have := h.2.2.1; omega; exact k h.2.2.2)
  exact ⟨decide_eq_false (fun e => e h3), decide_eq_false (by have := h.1; have := h.2.1; omega)⟩
theorem chkL_ok {l : List (Nat × Nat)} (h : chkL l = 0) : ∀ p ∈ l, Sm p := by
  unfold chkL at h
  by_cases h1 : l.any bad = true
  · rw [if_pos h1] at h; exact absurd h (by decide)
  · rw [if_neg h1] at h
    by_cases h2 : l.any big = true
    · rw [if_pos h2] at h; exact absurd h (by decide)
    · intro p hp
      rw [Bool.not_eq_true, List.any_eq_false] at h1 h2
      exact chk_sm (Bool.not_eq_true _ ▸ h1 p hp) (Bool.not_eq_true _ ▸ h2 p hp)
theorem ok_chkL {l : List (Nat × Nat)} (h : ∀ p ∈ l, Sm p) : chkL l = 0 := by
  unfold chkL
  rw [if_neg, if_neg]
  · rw [Bool.not_eq_true, List.any_eq_false]
    intro p hp
    rw [(sm_chk (h p hp)).2]
    decide
  · rw [Bool.not_eq_true, List.any_eq_false]
    intro p hp
    rw [(sm_chk (h p hp)).1]
    decide
theorem any_snoc {l : List (Nat × Nat)} {f : Nat × Nat → Bool} {i : Nat} (h : i < l.length) : (l.take (i + 1)).any f = ((l.take i).any f || f l[i]!) := by
  rw [Ls.take_snoc h, List.any_append, List.any_cons, List.any_nil, Bool.or_false]
theorem or_big {p : Nat × Nat} (h : In2 p) : ∃ r : Int, bits .or .u64 ((p.1 / 18446744073709551616 : Nat) : Int) ((p.2 / 18446744073709551616 : Nat) : Int) = r ∧ decide (0 < r) = big p := by
  obtain ⟨a, b⟩ := p
  obtain ⟨ha, hb⟩ := h
  unfold In at ha hb
  dsimp only at ha hb ⊢
  refine ⟨_, rfl, ?_⟩
  unfold big
  dsimp only
  by_cases h0 : a / 18446744073709551616 = 0 ∧ b / 18446744073709551616 = 0
  · rw [or_zero (by omega) (by omega), decide_eq_false (show ¬ (18446744073709551616 ≤ a ∨ 18446744073709551616 ≤ b) by omega)]
    rfl
  · have hne := or_ne (a := ((a / 18446744073709551616 : Nat) : Int)) (b := ((b / 18446744073709551616 : Nat) : Int)) (by omega) (by omega) (by omega)
    rw [decide_eq_true (show (18446744073709551616 ≤ a ∨ 18446744073709551616 ≤ b) by omega)]
    rw [u64_or _ _ (by omega) (by omega) (by omega) (by omega)] at hne ⊢
    exact decide_eq_true (by omega)
structure CK where
  (i : Nat) (g : Bool)
theorem check_ {m : Mem} (ht : Ra.TZ m) (p : Option Addr) (c : Nat) (l : List (Nat × Nat)) (hl : l.length ≤ 1000000) (hb : ∀ x ∈ l, In2 x) (sl0 : Sl m fd 4 p c l) :
    Rd Tryz.prog 29 #[.slice p l.length c] m [] (.int .i64 (chkL l)) := by
  unfold Rd
  refine Ct.enterV (by rfl) Tryz.func29 rfl Tryz.ntmps29 rfl (fun w0 Rest => ?_)
  (repeat' (first | refine zss ?_ | refine zsM ?_ | ((with_reducible apply At.alloc (d := 5)); exact rfl; exact rfl; intro b5) | (refine zsp ?_ ?_ <;> (intro hc; (try simp only [zhcs, reduceCtorEq] at hc); (try (exfalso; first | omega | contradiction | omega | exact absurd rfl hc | exact absurd (by decide) hc))))))
  (refine At.loopk (σ := CK) [7, 8] (fun s F0 => (9, .int .i64 (s.i : Int)) :: (3, .bool s.g) :: F0) (fun s => m) (fun s => Rest) (fun s => s.i ≤ l.length ∧ (l.take s.i).any bad = false ∧ s.g = (l.take s.i).any big) (fun s => l.length - s.i) ⟨0, false⟩ (by rfl) ?_ zsubs zml zente ?_)
  · exact ⟨Nat.zero_le _, rfl, rfl⟩
  rintro ⟨i, g⟩ ⟨hi, h1, h2⟩
  dsimp only at hi h1 h2 ⊢
  by_cases h : i < l.length
  · have hx : In2 l[i]! := hb _ (Ls.mem! h)
    have k1 := fun (m' : Mem) (hm' : m.le m') => Ra.check (m := m') (ht.mono hm') l[i]!.1 l[i]!.2 hx.1 hx.2
    have e1 := any_snoc (f := bad) h
    have e2 := any_snoc (f := big) h
    by_cases hk : Ra.chk l[i]!.1 l[i]!.2 = 0
    · rw [hk] at k1
      rw [h1, show bad l[i]! = false from decide_eq_false (fun e => e hk), Bool.or_false] at e1
      obtain ⟨r, hr, hrb⟩ := or_big hx
      rw [← h2, ← hrb] at e2
      cases g
      · (repeat' (first | refine zss ?_ | ((first | (with_reducible first | apply At.val | apply AtQ.val)); (exact pr_or (by rfl) (by rfl) hr); exact rfl) | refine zsM ?_ | ((with_reducible first | apply AtM1.cr | apply AtQ.cr | apply At.cr); exact rfl; exact rfl; exact fun _ hmm => k1 _ hmm; exact ztk; kernel_rfl) | ((with_reducible apply At.alloc (d := 5)); exact rfl; exact rfl; intro b5) | (refine zsp ?_ ?_ <;> (intro hc; (try simp only [zhcs, reduceCtorEq] at hc); (try (exfalso; first | omega | contradiction | omega | exact absurd rfl hc | exact absurd (by decide) hc))))))
        all_goals ((with_reducible refine At.reachk (⟨i + 1, decide (0 < r)⟩) ?_ ?_ ?_ ?_); exact zsubs; exact zml; exact zente; exact ⟨⟨h, e1, by rw [e2, Bool.false_or]⟩, by dsimp only; omega⟩)
      · (repeat' (first | refine zss ?_ | refine zsM ?_ | ((with_reducible first | apply AtM1.cr | apply AtQ.cr | apply At.cr); exact rfl; exact rfl; exact fun _ hmm => k1 _ hmm; exact ztk; kernel_rfl) | ((with_reducible apply At.alloc (d := 5)); exact rfl; exact rfl; intro b5) | (refine zsp ?_ ?_ <;> (intro hc; (try simp only [zhcs, reduceCtorEq] at hc); (try (exfalso; first | omega | contradiction | omega | exact absurd rfl hc | exact absurd (by decide) hc))))))
        all_goals ((with_reducible refine At.reachk (⟨i + 1, true⟩) ?_ ?_ ?_ ?_); exact zsubs; exact zml; exact zente; exact ⟨⟨h, e1, by rw [e2, Bool.true_or]⟩, by dsimp only; omega⟩)
    · rw [chk_two hk] at k1
      have e3 : chkL l = 2 := if_pos (List.any_eq_true.2 ⟨_, Ls.mem! h, decide_eq_true hk⟩)
      rw [e3]
      (repeat' (first | refine zss ?_ | refine zsM ?_ | ((with_reducible first | apply AtM1.cr | apply AtQ.cr | apply At.cr); exact rfl; exact rfl; exact fun _ hmm => k1 _ hmm; exact ztk; kernel_rfl) | ((with_reducible apply At.alloc (d := 5)); exact rfl; exact rfl; intro b5) | (refine zsp ?_ ?_ <;> (intro hc; (try simp only [zhcs, reduceCtorEq] at hc); (try (exfalso; first | omega | contradiction | omega | exact absurd rfl hc | exact absurd (by decide) hc))))))
      all_goals ((with_reducible apply At.retB1 (B := [])); exact rfl; exact rfl; exact zml; exact zkp; exact ⟨rfl, rfl, rfl⟩)
  · rw [List.take_of_length_le (by omega)] at h1 h2
    cases g
    · have e3 : chkL l = 0 := by unfold chkL; rw [if_neg (by rw [h1]; decide), if_neg (by rw [← h2]; decide)]
      rw [e3]
      (repeat' (first | refine zss ?_ | refine zsM ?_ | ((with_reducible apply At.alloc (d := 5)); exact rfl; exact rfl; intro b5) | (refine zsp ?_ ?_ <;> (intro hc; (try simp only [zhcs, reduceCtorEq] at hc); (try (exfalso; first | omega | contradiction | omega | exact absurd rfl hc | exact absurd (by decide) hc))))))
      all_goals ((with_reducible apply At.retB1 (B := [])); exact rfl; exact rfl; exact zml; exact zkp; exact ⟨rfl, rfl, rfl⟩)
    · have e3 : chkL l = 1 := by unfold chkL; rw [if_neg (by rw [h1]; decide), if_pos h2.symm]
      rw [e3]
      (repeat' (first | refine zss ?_ | refine zsM ?_ | ((with_reducible apply At.alloc (d := 5)); exact rfl; exact rfl; intro b5) | (refine zsp ?_ ?_ <;> (intro hc; (try simp only [zhcs, reduceCtorEq] at hc); (try (exfalso; first | omega | contradiction | omega | exact absurd rfl hc | exact absurd (by decide) hc))))))
      all_goals ((with_reducible apply At.retB1 (B := [])); exact rfl; exact rfl; exact zml; exact zkp; exact ⟨rfl, rfl, rfl⟩)
def outO (l : List (Nat × Nat)) : List (Nat × Nat) := if chkL l = 0 then l else []
def outS (l : List (Nat × Nat)) : List (Nat × Nat) := if chkL l = 0 then srt l else []
theorem fill_set {l : List (Nat × Nat)} {i : Nat} (h : i < l.length) : (l.take i ++ List.replicate (l.length - i) (0, 0)).set i l[i]! = l.take (i + 1) ++ List.replicate (l.length - (i + 1)) (0, 0) := by
  rw [Ls.take_snoc h, List.set_append_right _ _ (by rw [List.length_take]; omega), List.length_take, show i - min i l.length = 0 by omega, show l.length - i = (l.length - (i + 1)) + 1 by omega, List.replicate_succ, List.set_cons_zero, List.append_assoc]
  rfl
theorem fill_len {l : List (Nat × Nat)} {i : Nat} (h : i ≤ l.length) : (l.take i ++ List.replicate (l.length - i) (0, 0)).length = l.length := by
  rw [List.length_append, List.length_take, List.length_replicate]; omega
theorem open_ {m : Mem} (ht : Ra.TZ m) (p : Option Addr) (c : Nat) (l : List (Nat × Nat)) (hl : l.length ≤ 1000000) (hb : ∀ x ∈ l, In2 x) (sl0 : Sl m fd 4 p c l) :
    Ct Tryz.prog 71 #[.slice p l.length c] m [] (fun v m' B => m = m' ∧ ∃ p' c', v = .tuple #[.slice p' (outO l).length c', .int .i64 (chkL l)] ∧ B = [.own sm 2 157 p' c' (outO l)]) := by
  have k1 := fun (m' : Mem) (hm' : m.le m') => check_ (m := m') (ht.mono hm') p c l hl hb (sl0.mono hm')
  unfold outO
  by_cases hk : chkL l = 0
  · have hsm := chkL_ok hk
    rw [hk] at k1 ⊢
    rw [if_pos rfl]
    refine Ct.enterV (by rfl) Tryz.func71 rfl Tryz.ntmps71 rfl (fun w0 Rest => ?_)
    (repeat' (first | refine zss ?_ | refine zsM ?_ | ((with_reducible first | apply AtM1.cr | apply AtQ.cr | apply At.cr); exact rfl; exact rfl; exact fun _ hmm => k1 _ hmm; exact ztk; kernel_rfl) | ((with_reducible apply At.makeN (f := sm) ((0, 0))); exact inferInstance; (iterate 5 exact rfl); exact zlq; exact rfl; exact zom; exact rfl; intro b9) | ((with_reducible apply At.alloc (d := 7)); exact rfl; exact rfl; intro b7) | (refine zsp ?_ ?_ <;> (intro hc; (try simp only [zhcs, reduceCtorEq] at hc); (try (exfalso; first | omega | contradiction | omega | exact absurd rfl hc | exact absurd (by decide) hc))))))
    rw [show List.replicate l.length ((0, 0) : Nat × Nat) = l.take 0 ++ List.replicate (l.length - 0) (0, 0) from rfl]
    (refine At.loopk (σ := Nat) [5, 16, 17] (fun s F0 => (18, .int .i64 (s : Int)) :: F0) (fun s => m) (fun s => .own sm 2 157 (some ⟨b9, 0, none⟩) l.length (l.take s ++ List.replicate (l.length - s) (0, 0)) :: Rest) (fun s => s ≤ l.length) (fun s => l.length - s) 0 (by rfl) ?_ zsubs zml zente ?_)
    · exact Nat.zero_le _
    rintro i hi
    by_cases h : i < l.length
    · have hs := fill_set h
      have hn := fill_len (Nat.le_of_lt h)
      have hx := hsm _ (Ls.mem! h)
      have ex : (l[i]!.1 % 18446744073709551616, l[i]!.2 % 18446744073709551616) = l[i]! := by
        rw [Nat.mod_eq_of_lt hx.1, Nat.mod_eq_of_lt hx.2.1]
      rw [← ex] at hs
      clear hx ex hsm hb
      generalize l.take i ++ List.replicate (l.length - i) ((0, 0) : Nat × Nat) = X at hs hn ⊢
      (repeat' (first | refine zss ?_ | refine zsOM ?_ | ((with_reducible apply At.storeW (f := sm) (x' := (l[i]!.1 % 18446744073709551616, l[i]!.2 % 18446744073709551616))); (case hx => exact rfl); (case hy => exact rfl); (case hv => exact rfl); (case hp => exact (by repeat constructor)); (case hr => exact rfl); (case hf => exact inferInstance); (case hk => exact zom); (case hs => exact rfl); (case hq => exact rfl); (case h1 => exact rfl)) | ((with_reducible apply At.alloc (d := 7)); exact rfl; exact rfl; intro b7) | (refine zsp ?_ ?_ <;> (intro hc; (try simp only [zhcs, reduceCtorEq] at hc); (try (exfalso; first | omega | contradiction | omega | exact absurd rfl hc | exact absurd (by decide) hc))))))
      all_goals rw [hs]
      all_goals ((with_reducible refine At.reachk ((i + 1)) ?_ ?_ ?_ ?_); exact zsubs; exact zml; exact zente; exact ⟨h, by omega⟩)
    · have e0 : l.take i ++ List.replicate (l.length - i) ((0, 0) : Nat × Nat) = l := by
        rw [List.take_of_length_le (by omega), show l.length - i = 0 by omega]
        exact List.append_nil l
      rw [e0]
      (repeat' (first | refine zss ?_ | refine zsM ?_ | ((with_reducible apply At.alloc (d := 7)); exact rfl; exact rfl; intro b7) | (refine zsp ?_ ?_ <;> (intro hc; (try simp only [zhcs, reduceCtorEq] at hc); (try (exfalso; first | omega | contradiction | omega | exact absurd rfl hc | exact absurd (by decide) hc))))))
      all_goals ((with_reducible apply At.retV (B := [.own sm 2 157 _ _ _])); exact rfl; (repeat' (first | exact RVs.nil | (with_reducible apply RVs.cons) | exact rv_tmp (by rfl) | exact rv_cellN (by rfl) (by repeat constructor) (by rfl) (by rfl) (by rfl) | exact rv_cell1 (by rfl) (by repeat constructor) (by rfl) (by rfl))); exact zml; exact zkp; exact ⟨rfl, _, _, rfl, rfl⟩)
  · rw [if_neg hk]
    refine Ct.enterV (by rfl) Tryz.func71 rfl Tryz.ntmps71 rfl (fun w0 Rest => ?_)
    (repeat' (first | refine zss ?_ | refine zsM ?_ | ((with_reducible first | apply AtM1.cr | apply AtQ.cr | apply At.cr); exact rfl; exact rfl; exact fun _ hmm => k1 _ hmm; exact ztk; kernel_rfl) | ((with_reducible apply At.alloc (d := 7)); exact rfl; exact rfl; intro b7) | (refine zsp ?_ ?_ <;> (intro hc; (try simp only [zhcs, reduceCtorEq] at hc); (try (exfalso; first | (first | omega | exact absurd hc hk) | contradiction | omega | exact absurd rfl hc | exact absurd (by decide) hc))))))
    refine At.own_nil sm 2 157 ?_
    all_goals ((with_reducible apply At.retV (B := [.own sm 2 157 _ _ _])); exact rfl; (repeat' (first | exact RVs.nil | (with_reducible apply RVs.cons) | exact rv_tmp (by rfl) | exact rv_cellN (by rfl) (by repeat constructor) (by rfl) (by rfl) (by rfl) | exact rv_cell1 (by rfl) (by repeat constructor) (by rfl) (by rfl))); exact zml; exact zkp; exact ⟨rfl, _, _, rfl, rfl⟩)
theorem fraction_ (p : Nat × Nat) (h : Sm p) : Pu Tryz.prog 74 #[sv p] (fv p) := Pu.intro fun m => by
  obtain ⟨a, b⟩ := p
  have k1 := of_ a h.1
  have k2 := of_ b h.2.1
  clear h
  refine Ct.enterV (by rfl) Tryz.func74 rfl Tryz.ntmps74 rfl (fun w0 Rest => ?_)
  (repeat' (first | ((with_reducible apply At.mixed (id := 1) 8 (.q 0 (.q 1 (.q 2 (.q 3 (.q 4 (.q 5 (.q 6 (.x 7 .done))))))))); exact rfl; kernel_rfl; kernel_rfl; kernel_rfl) | refine zsx ?_ | refine zss ?_ | ((with_reducible apply AtM.bo); exact rfl; exact rfl; exact rfl) | refine zs0 ?_ | refine zx0 ?_ | ((with_reducible first | apply AtM1.callp | apply AtQ.callp | apply At.callp); kernel_rfl; exact rfl; exact rfl; exact k1) | ((with_reducible first | apply AtM1.callp | apply AtQ.callp | apply At.callp); kernel_rfl; exact rfl; exact rfl; exact k2) | ((with_reducible apply At.box (d := 1)); exact rfl; exact rfl; exact rfl; intro b1) | ((with_reducible apply At.alloc (d := 2)); exact rfl; exact rfl; intro b2) | (refine zsp ?_ ?_ <;> (intro hc; (try simp only [zhcs, reduceCtorEq] at hc); (try (exfalso; first | contradiction | omega | exact absurd rfl hc | exact absurd (by decide) hc))))))
  all_goals ((with_reducible apply At.retV (B := [])); exact rfl; (repeat' (first | exact RVs.nil | (with_reducible apply RVs.cons) | exact rv_tmp (by rfl) | exact rv_cellN (by rfl) (by repeat constructor) (by rfl) (by rfl) (by rfl) | exact rv_cell1 (by rfl) (by repeat constructor) (by rfl) (by rfl))); exact zml; exact zkp; exact ⟨rfl, rfl, rfl⟩)
theorem fill_set' {l : List (Nat × Nat)} {i : Nat} (h : i < l.length) : (l.take i ++ List.replicate (l.length - i) (0, 0)).set i l[i]! = l.take (i + 1) ++ List.replicate (l.length - (i + 1)) (0, 0) := fill_set h
theorem sort_ {m : Mem} (ht : Ra.TZ m) (p : Option Addr) (c : Nat) (l : List (Nat × Nat)) (hl : l.length ≤ 1000000) (hb : ∀ x ∈ l, In2 x) (sl0 : Sl m fd 4 p c l) :
    Ct Tryz.prog 31 #[.slice p l.length c] m [] (fun v m' B => m = m' ∧ ∃ p' c', v = .tuple #[.slice p' (outS l).length c', .int .i64 (chkL l)] ∧ B = [.own fd 4 43 p' c' (outS l)]) := by
  have k1 := fun (m' : Mem) (hm' : m.le m') => open_ (m := m') (ht.mono hm') p c l hl hb (sl0.mono hm')
  unfold outS
  by_cases hk : chkL l = 0
  · have hsm := chkL_ok hk
    have eo : outO l = l := if_pos hk
    obtain ⟨L, rfl⟩ := lift hsm
    rw [eo, hk] at k1
    rw [hk, if_pos rfl]
    have k2 := fun (m' : Mem) (p' : Option Addr) (c' : Nat) => sort_s (m := m') p' c' L (by rw [List.length_map] at hl; omega)
    have en : L.length = (L.map Subtype.val).length := (List.length_map _).symm
    rw [en] at k2
    have hsS : ∀ x ∈ srt (L.map Subtype.val), Sm x := fun x hx => hsm x (srt_mem.1 hx)
    have hn := srt_len (L.map Subtype.val)
    generalize srt (L.map Subtype.val) = X at k2 hsS hn ⊢
    generalize L.map Subtype.val = l at *
    clear hk hsm eo hb en
    rw [← hn] at hl
    refine Ct.enterV (by rfl) Tryz.func31 rfl Tryz.ntmps31 rfl (fun w0 Rest => ?_)
    (repeat' (first | refine zss ?_ | refine zsOM ?_ | ((with_reducible first | apply At.c1 | apply At.c0); exact rfl; exact rfl; exact k1 _ zml; exact ztk; kernel_rfl; rintro v' m' B' hm' ⟨rfl, p1, c1, rfl, rfl⟩; (try replace sl0 := sl0.mono hm'); (try (have hq0 : hm' = Mem.le_refl _ := rfl; clear hq0 hm'))) | ((with_reducible first | apply At.c1 | apply At.c0); exact rfl; exact rfl; exact k2 _ p1 c1; exact ztk; kernel_rfl; rintro v' m' B' hm' ⟨rfl, rfl, rfl⟩; (try replace sl0 := sl0.mono hm'); (try (have hq0 : hm' = Mem.le_refl _ := rfl; clear hq0 hm'))) | ((with_reducible apply At.makeN (f := fd) ((0, 0))); exact inferInstance; (iterate 5 exact rfl); exact zlq; exact rfl; exact zom; exact rfl; intro b9) | ((with_reducible apply At.alloc (d := 8)); exact rfl; exact rfl; intro b8) | (refine zsp ?_ ?_ <;> (intro hc; (try simp only [zhcs, reduceCtorEq] at hc); (try (exfalso; first | omega | contradiction | omega | exact absurd rfl hc | exact absurd (by decide) hc))))))
    rw [← hn]
    rw [show List.replicate X.length ((0, 0) : Nat × Nat) = X.take 0 ++ List.replicate (X.length - 0) (0, 0) from rfl]
    (refine At.loopk (σ := Nat) [6, 22, 23] (fun s F0 => (24, .int .i64 (s : Int)) :: F0) (fun s => m) (fun s => .own fd 4 43 (some ⟨b9, 0, none⟩) X.length (X.take s ++ List.replicate (X.length - s) (0, 0)) :: .own sm 2 157 p1 c1 X :: Rest) (fun s => s ≤ X.length) (fun s => X.length - s) 0 (by rfl) ?_ zsubs zml zente ?_)
    · exact Nat.zero_le _
    rintro i hi
    by_cases h : i < X.length
    · have hs := fill_set' h
      have hm := fill_len (Nat.le_of_lt h)
      have k3 := fraction_ _ (hsS _ (Ls.mem! h))
      clear hsS k1 k2
      generalize X.take i ++ List.replicate (X.length - i) ((0, 0) : Nat × Nat) = Y at hs hm ⊢
      (repeat' (first | refine zss ?_ | refine zsO ?_ | ((with_reducible first | apply AtM1.callp | apply AtQ.callp | apply At.callp); kernel_rfl; exact rfl; exact rfl; exact k3) | ((with_reducible apply At.storeW (f := fd) (x' := (X[i]!))); (case hx => exact rfl); (case hy => exact rfl); (case hv => exact rfl); (case hp => exact (by repeat constructor)); (case hr => exact rfl); (case hf => exact inferInstance); (case hk => exact zom); (case hs => exact rfl); (case hq => exact rfl); (case h1 => exact rfl)) | ((with_reducible apply At.alloc (d := 8)); exact rfl; exact rfl; intro b8) | (refine zsp ?_ ?_ <;> (intro hc; (try simp only [zhcs, reduceCtorEq] at hc); (try (exfalso; first | omega | contradiction | omega | exact absurd rfl hc | exact absurd (by decide) hc))))))
      all_goals rw [hs]
      all_goals ((with_reducible refine At.reachk ((i + 1)) ?_ ?_ ?_ ?_); exact zsubs; exact zml; exact zente; exact ⟨h, by omega⟩)
    · have e0 : X.take i ++ List.replicate (X.length - i) ((0, 0) : Nat × Nat) = X := by
        rw [List.take_of_length_le (by omega), show X.length - i = 0 by omega]
        exact List.append_nil X
      rw [e0]
      (repeat' (first | refine zss ?_ | refine zsO ?_ | ((with_reducible apply At.alloc (d := 8)); exact rfl; exact rfl; intro b8) | (refine zsp ?_ ?_ <;> (intro hc; (try simp only [zhcs, reduceCtorEq] at hc); (try (exfalso; first | omega | contradiction | omega | exact absurd rfl hc | exact absurd (by decide) hc))))))
      all_goals ((with_reducible apply At.retV (B := [.own fd 4 43 _ _ _])); exact rfl; (repeat' (first | exact RVs.nil | (with_reducible apply RVs.cons) | exact rv_tmp (by rfl) | exact rv_cellN (by rfl) (by repeat constructor) (by rfl) (by rfl) (by rfl) | exact rv_cell1 (by rfl) (by repeat constructor) (by rfl) (by rfl))); exact zml; exact zkp; exact ⟨rfl, _, _, rfl, rfl⟩)
  · rw [if_neg hk]
    have eo : outO l = [] := if_neg hk
    rw [eo] at k1
    generalize chkL l = w at *
    refine Ct.enterV (by rfl) Tryz.func31 rfl Tryz.ntmps31 rfl (fun w0 Rest => ?_)
    (repeat' (first | refine zss ?_ | refine zsM ?_ | ((with_reducible first | apply At.c1 | apply At.c0); exact rfl; exact rfl; exact k1 _ zml; exact ztk; kernel_rfl; rintro v' m' B' hm' ⟨rfl, p1, c1, rfl, rfl⟩; (try replace sl0 := sl0.mono hm'); (try (have hq0 : hm' = Mem.le_refl _ := rfl; clear hq0 hm'))) | ((with_reducible apply At.alloc (d := 8)); exact rfl; exact rfl; intro b8) | (refine zsp ?_ ?_ <;> (intro hc; (try simp only [zhcs, reduceCtorEq] at hc); (try (exfalso; first | (first | omega | exact absurd hc hk) | contradiction | omega | exact absurd rfl hc | exact absurd (by decide) hc))))))
    refine At.own_nil fd 4 43 ?_
    all_goals ((with_reducible apply At.retV (B := [.own fd 4 43 _ _ _])); exact rfl; (repeat' (first | exact RVs.nil | (with_reducible apply RVs.cons) | exact rv_tmp (by rfl) | exact rv_cellN (by rfl) (by repeat constructor) (by rfl) (by rfl) (by rfl) | exact rv_cell1 (by rfl) (by repeat constructor) (by rfl) (by rfl))); exact zml; exact zkp; exact ⟨rfl, _, _, rfl, rfl⟩)
end Qu
end Go.Proofs.YtkoijdmlehkhbaaGreatDoor

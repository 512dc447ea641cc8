/- Part 7 of what the law's proof needs: rules of the walk, contracts of functions, plain laws. No condition. -/
import Derived.Test.YtpdleggpmhlagaaDoorRa4Z6
import Derived.Test.YtpdleggpmhlagaaDoorRows
import Derived.Lib.ItoaNum
import Derived.Lib.LaidTab
/- The document's numbers: the sum of many, which is less, a number many times. -/
set_option linter.unusedSimpArgs false
set_option linter.unusedVariables false
set_option linter.unusedSectionVars false
set_option maxRecDepth 20000
set_option maxHeartbeats 4000000
namespace Go.Proofs.YtpdleggpmhlagaaDoor
open Go Go.J
attribute [local irreducible] At AtQ AtM AtM1 PR Ct Pu Rd Res.blk Res.own Res.ex RVs RV
namespace Wide
theorem top_dg (x s : Nat) : x / 256 ^ s = x / 256 ^ (s + 1) * 256 + dg x s := by
  unfold dg
  rw [Nat.pow_succ, ← Nat.div_div_eq_div_mul]
  omega
theorem lt_dg {x y s : Nat} (h : x / 256 ^ (s + 1) = y / 256 ^ (s + 1)) (hd : dg x s < dg y s) : x < y := by
  have h1 := top_dg x s
  have h2 := top_dg y s
  have h3 : x / 256 ^ s < y / 256 ^ s := by omega
  apply Classical.byContradiction
  intro hn
  have := Nat.div_le_div_right (c := 256 ^ s) (Nat.le_of_not_lt hn)
  omega
theorem less_r (x y : Nat) (hx : x < 340282366920938463463374607431768211456) (hy : y < 340282366920938463463374607431768211456) : Pu Tryd.prog 45 #[wv x, wv y] (.bool (decide (x < y))) := Pu.intro fun m => by
  have hlx := tab_len (dg x)
  have hly := tab_len (dg y)
  have hmx := tabm_len (dg x)
  have hmy := tabm_len (dg y)
  refine Ct.enterV (by rfl) Tryd.func45 rfl Tryd.ntmps45 rfl (fun w0 Rest => ?_)
  (repeat' (first | ((with_reducible apply At.mixed (id := 1) 8 (.q 0 (.q 1 (.q 2 (.q 3 (.b 4 5 (.l 5 (.x 6 (.x 7 .done))) (.l 4 (.x 6 (.x 7 .done))))))))); exact rfl; kernel_rfl; kernel_rfl; kernel_rfl) | refine zsx ?_ | refine zss ?_ | ((with_reducible apply AtM.bo); exact rfl; exact rfl; exact rfl) | ((first | (with_reducible first | apply At.val | apply AtQ.val) | ((with_reducible first | apply AtM1.valz | apply AtM1.val); exact rfl) | ((with_reducible apply AtM1.val); exact rfl)); (exact zprA); exact rfl) | refine zs0 ?_ | refine zx0 ?_ | ((with_reducible first | apply AtM1.callp | apply AtQ.callp | apply At.callp); kernel_rfl; exact rfl; exact rfl; exact bytes x hx) | ((with_reducible first | apply AtM1.callp | apply AtQ.callp | apply At.callp); kernel_rfl; exact rfl; exact rfl; exact bytes y hy) | ((with_reducible apply At.storeA); exact rfl; exact rfl; exact rfl; exact all_gi _; exact (by repeat constructor); (first | exact rfl | (first | omega | (simp only [lns] <;> omega))); (first | exact rfl | (first | omega | (simp only [lns] <;> omega)))) | ((with_reducible apply At.box (d := 2)); exact rfl; exact rfl; exact rfl; intro b2) | ((with_reducible apply At.box (d := 3)); exact rfl; exact rfl; exact rfl; intro b3) | ((with_reducible apply At.alloc (d := 5)); exact rfl; exact rfl; intro b5) | ((with_reducible apply At.alloc (d := 6)); exact rfl; exact rfl; intro b6) | (refine zsp ?_ ?_ <;> (intro hc; (try simp only [zhcs, reduceCtorEq] at hc); (try (exfalso; first | contradiction | omega | exact absurd rfl hc | exact absurd (by decide) hc))))))
  all_goals (refine At.loopk (σ := Nat) [5, 6] (fun s F0 => (7, .int .i64 ((s : Int) - 1)) :: F0) (fun s => m) (fun s => .blk b6 58 ((tab (dg y)).map gi) :: .blk b5 58 ((tab (dg x)).map gi) :: Rest) (fun s => s ≤ 16 ∧ x / 256 ^ s = y / 256 ^ s) (fun s => s) 16 (by rfl) ?_ zsubs zml zente ?_)
  all_goals try exact ⟨Nat.le_refl _, by rw [show (256 : Nat) ^ 16 = 340282366920938463463374607431768211456 from rfl, Nat.div_eq_of_lt hx, Nat.div_eq_of_lt hy]⟩
  all_goals
    rintro s ⟨hs, he⟩
    rcases s with _ | s
    · rw [Nat.pow_zero, Nat.div_one, Nat.div_one] at he
      rw [show decide (x < y) = false from decide_eq_false (by omega)]
      (repeat' (first | refine zss ?_ | ((first | (with_reducible first | apply At.val | apply AtQ.val)); (exact zprA); exact rfl) | refine zs0 ?_ | ((with_reducible apply At.box (d := 2)); exact rfl; exact rfl; exact rfl; intro b2) | ((with_reducible apply At.box (d := 3)); exact rfl; exact rfl; exact rfl; intro b3) | ((with_reducible apply At.alloc (d := 5)); exact rfl; exact rfl; intro b5) | ((with_reducible apply At.alloc (d := 6)); exact rfl; exact rfl; intro b6) | (refine zsp ?_ ?_ <;> (intro hc; (try simp only [zhcs, reduceCtorEq] at hc); (try (exfalso; first | omega | contradiction | omega | exact absurd rfl hc | exact absurd (by decide) hc))))))
      all_goals ((with_reducible apply At.retB1 (B := [])); exact rfl; exact rfl; exact zml; exact zkp; exact ⟨rfl, rfl, rfl⟩)
    · rw [show (((s + 1 : Nat) : Int) - 1) = (s : Int) by omega]
      by_cases hd : dg x s = dg y s
      · have ht : x / 256 ^ s = y / 256 ^ s := by rw [top_dg x s, top_dg y s, he, hd]
        (repeat' (first | ((with_reducible apply At.mixed (id := 1) 8 (.q 0 (.q 1 (.q 2 (.q 3 (.b 4 5 (.l 5 (.x 6 (.x 7 .done))) (.l 4 (.x 6 (.x 7 .done))))))))); exact rfl; kernel_rfl; kernel_rfl; kernel_rfl) | refine zsx ?_ | refine zss ?_ | ((with_reducible apply AtM.bo); exact rfl; exact rfl; exact rfl) | ((first | (with_reducible first | apply At.val | apply AtQ.val) | ((with_reducible first | apply AtM1.valz | apply AtM1.val); exact rfl) | ((with_reducible apply AtM1.val); exact rfl)); (first | exact pr_load_tab (k := s) (by rfl) (by first | exact pk0 | exact pk1 | exact pk2 | exact pk3) (by rfl) (by omega) | exact zprA); exact rfl) | refine zs0 ?_ | refine zx0 ?_ | ((with_reducible apply At.box (d := 2)); exact rfl; exact rfl; exact rfl; intro b2) | ((with_reducible apply At.box (d := 3)); exact rfl; exact rfl; exact rfl; intro b3) | ((with_reducible apply At.alloc (d := 5)); exact rfl; exact rfl; intro b5) | ((with_reducible apply At.alloc (d := 6)); exact rfl; exact rfl; intro b6) | (refine zsp ?_ ?_ <;> (intro hc; (try simp only [zhcs, reduceCtorEq] at hc); (try (exfalso; first | omega | contradiction | omega | exact absurd rfl hc | exact absurd (by decide) hc))))))
        all_goals ((with_reducible refine At.reachk (s) ?_ ?_ ?_ ?_); exact zsubs; exact zml; exact zente; exact ⟨⟨by omega, ht⟩, Nat.lt_succ_self s⟩)
      · have hxy : decide (x < y) = decide (((dg x s : Nat) : Int) < ((dg y s : Nat) : Int)) := by
          by_cases hl : dg x s < dg y s
          · rw [decide_eq_true (lt_dg he hl), decide_eq_true (by omega)]
          · have := lt_dg he.symm (show dg y s < dg x s by omega)
            rw [decide_eq_false (by omega), decide_eq_false (by omega)]
        rw [hxy]
        (repeat' (first | ((with_reducible apply At.mixed (id := 1) 8 (.q 0 (.q 1 (.q 2 (.q 3 (.b 4 5 (.l 5 (.x 6 (.x 7 .done))) (.l 4 (.x 6 (.x 7 .done))))))))); exact rfl; kernel_rfl; kernel_rfl; kernel_rfl) | refine zsx ?_ | refine zss ?_ | ((with_reducible apply AtM.bo); exact rfl; exact rfl; exact rfl) | ((first | (with_reducible first | apply At.val | apply AtQ.val) | ((with_reducible first | apply AtM1.valz | apply AtM1.val); exact rfl) | ((with_reducible apply AtM1.val); exact rfl)); (first | exact pr_load_tab (k := s) (by rfl) (by first | exact pk0 | exact pk1 | exact pk2 | exact pk3) (by rfl) (by omega) | exact zprA); exact rfl) | refine zs0 ?_ | refine zx0 ?_ | ((with_reducible apply At.box (d := 2)); exact rfl; exact rfl; exact rfl; intro b2) | ((with_reducible apply At.box (d := 3)); exact rfl; exact rfl; exact rfl; intro b3) | ((with_reducible apply At.alloc (d := 5)); exact rfl; exact rfl; intro b5) | ((with_reducible apply At.alloc (d := 6)); exact rfl; exact rfl; intro b6) | (refine zsp ?_ ?_ <;> (intro hc; (try simp only [zhcs, reduceCtorEq] at hc); (try (exfalso; first | omega | contradiction | omega | exact absurd rfl hc | exact absurd (by decide) hc))))))
        all_goals ((with_reducible apply At.retB1 (B := [])); exact rfl; exact rfl; exact zml; exact zkp; exact ⟨rfl, rfl, rfl⟩)

structure TS where
  (n : Nat) (a : Nat) (A : Nat) (v : Bool) (o : Nat)
theorem times_r (x k : Nat) (hx : x < 340282366920938463463374607431768211456) (hk : k < 18446744073709551616) : Pu Tryd.prog 27 #[wv x, .int .u64 (k : Int)] (.tuple #[wv (sV (x * k)), .int .i64 (sE (x * k))]) := Pu.intro fun m => by
  refine Ct.enterV (by rfl) Tryd.func27 rfl Tryd.ntmps27 rfl (fun w0 Rest => ?_)
  (repeat' (first | refine zss ?_ | ((first | (with_reducible first | apply At.val | apply AtQ.val)); (exact zprA); exact rfl) | refine zs0 ?_ | ((with_reducible apply At.box (d := 2)); exact rfl; exact rfl; exact rfl; intro b2) | ((with_reducible apply At.alloc (d := 4)); exact rfl; exact rfl; intro b4) | ((with_reducible apply At.alloc (d := 6)); exact rfl; exact rfl; intro b6) | ((with_reducible apply At.alloc (d := 9)); exact rfl; exact rfl; intro b9) | (refine zsp ?_ ?_ <;> (intro hc; (try simp only [zhcs, reduceCtorEq] at hc); (try (exfalso; first | contradiction | omega | exact absurd rfl hc | exact absurd (by decide) hc))))))
  rw [show ([.int .u64 0, .int .u64 0] : List Value) = wd 0 from rfl]
  (refine At.loopk (σ := TS) [2, 4, 6] (fun s F0 => (1, .int .u64 (s.n : Int)) :: (8, .bool s.v) :: F0) (fun s => m) (fun s => .blk b6 24 (wd s.o) :: .blk b4 24 (wd 0) :: .blk b2 24 (wd s.a) :: Rest) (fun s => s.o + s.A * s.n = x * k ∧ s.o < 340282366920938463463374607431768211456 ∧ s.a < 340282366920938463463374607431768211456 ∧ s.n < 18446744073709551616 ∧ (s.v = false → s.a = s.A) ∧ (s.v = true → 340282366920938463463374607431768211456 ≤ s.A)) (fun s => s.n) ⟨k, x, x, false, 0⟩ (by rfl) ?_ zsubs zml zente ?_)
  · exact ⟨by simp, by show 0 < _; decide, hx, hk, fun _ => rfl, (fun h => by cases h)⟩
  rintro ⟨n, a, A, v, o⟩ ⟨h1, h2, h3, h4, h5, h6⟩
  dsimp only at h1 h2 h3 h4 h5 h6 ⊢
  by_cases hn : n = 0
  · subst hn
    have e : o = x * k := by simpa using h1
    rw [show sV (x * k) = o by rw [← e]; exact if_pos h2, show sE (x * k) = 0 by rw [← e]; exact if_pos h2]
    (repeat' (first | refine zss ?_ | ((first | (with_reducible first | apply At.val | apply AtQ.val)); (exact zprA); exact rfl) | refine zs0 ?_ | ((with_reducible apply At.box (d := 2)); exact rfl; exact rfl; exact rfl; intro b2) | ((with_reducible apply At.alloc (d := 4)); exact rfl; exact rfl; intro b4) | ((with_reducible apply At.alloc (d := 6)); exact rfl; exact rfl; intro b6) | ((with_reducible apply At.alloc (d := 9)); exact rfl; exact rfl; intro b9) | (refine zsp ?_ ?_ <;> (intro hc; (try simp only [zhcs, reduceCtorEq] at hc); (try (exfalso; first | omega | contradiction | omega | exact absurd rfl hc | exact absurd (by decide) hc))))))
    all_goals ((with_reducible apply At.retV (B := [])); exact rfl; (repeat' (first | exact RVs.nil | (with_reducible apply RVs.cons) | exact rv_tmp (by rfl) | exact rv_cellN (by rfl) (by repeat constructor) (by rfl) (by rfl) (by rfl) | exact rv_cell1 (by rfl) (by repeat constructor) (by rfl) (by rfl) | exact rv_cellA (by rfl) (by repeat constructor) (by rfl) (by rfl) zlq)); exact zml; exact zkp; exact ⟨rfl, rfl, rfl⟩)
  · have hA : A ≤ A * n := Nat.le_mul_of_pos_right A (by omega)
    have ad2 := add_r a a h3 h3
    have hs2 := sV_lt (a + a)
    cases v
    · have e := h5 rfl
      subst e
      by_cases hodd : n % 2 = 1
      · obtain ⟨q, hq⟩ : ∃ q, n = 2 * q + 1 := ⟨n / 2, by omega⟩
        have hm : a + a * (2 * q) = a * n := by rw [hq, Nat.mul_add]; omega
        have hm2 : (a + a) * q = a * (2 * q) := by rw [← Nat.two_mul, Nat.mul_comm 2 a, Nat.mul_assoc]
        have ad1 := add_r o a h2 h3
        by_cases ho : o + a < 340282366920938463463374607431768211456
        · rw [show sV (o + a) = o + a from if_pos ho, show sE (o + a) = 0 from if_pos ho] at ad1
          by_cases hd : a + a < 340282366920938463463374607431768211456
          · rw [show sV (a + a) = a + a from if_pos hd, show sE (a + a) = 0 from if_pos hd] at ad2
            (repeat' (first | refine zss ?_ | ((first | (with_reducible first | apply At.val | apply AtQ.val)); (exact zprA); exact rfl) | refine zs0 ?_ | ((with_reducible first | apply AtM1.callp | apply AtQ.callp | apply At.callp); kernel_rfl; exact rfl; exact rfl; exact ad1) | ((with_reducible first | apply AtM1.callp | apply AtQ.callp | apply At.callp); kernel_rfl; exact rfl; exact rfl; exact ad2) | ((with_reducible apply At.box (d := 2)); exact rfl; exact rfl; exact rfl; intro b2) | ((with_reducible apply At.alloc (d := 4)); exact rfl; exact rfl; intro b4) | ((with_reducible apply At.alloc (d := 6)); exact rfl; exact rfl; intro b6) | ((with_reducible apply At.alloc (d := 9)); exact rfl; exact rfl; intro b9) | (refine zsp ?_ ?_ <;> (intro hc; (try simp only [zhcs, reduceCtorEq] at hc); (try (exfalso; first | omega | contradiction | omega | exact absurd rfl hc | exact absurd (by decide) hc))))))
            all_goals ((with_reducible refine At.reachk (⟨n / 2, a + a, a + a, false, o + a⟩) ?_ ?_ ?_ ?_); exact zsubs; exact zml; exact zente; exact ⟨⟨by show o + a + (a + a) * (n / 2) = _; rw [show n / 2 = q by omega, hm2]; omega, ho, hd, by show n / 2 < _; omega, fun _ => rfl, (fun h => by cases h)⟩, by show n / 2 < n; omega⟩)
          · rw [show sV (a + a) = 0 from if_neg hd, show sE (a + a) = 1 from if_neg hd] at ad2
            (repeat' (first | refine zss ?_ | ((first | (with_reducible first | apply At.val | apply AtQ.val)); (exact zprA); exact rfl) | refine zs0 ?_ | ((with_reducible first | apply AtM1.callp | apply AtQ.callp | apply At.callp); kernel_rfl; exact rfl; exact rfl; exact ad1) | ((with_reducible first | apply AtM1.callp | apply AtQ.callp | apply At.callp); kernel_rfl; exact rfl; exact rfl; exact ad2) | ((with_reducible apply At.box (d := 2)); exact rfl; exact rfl; exact rfl; intro b2) | ((with_reducible apply At.alloc (d := 4)); exact rfl; exact rfl; intro b4) | ((with_reducible apply At.alloc (d := 6)); exact rfl; exact rfl; intro b6) | ((with_reducible apply At.alloc (d := 9)); exact rfl; exact rfl; intro b9) | (refine zsp ?_ ?_ <;> (intro hc; (try simp only [zhcs, reduceCtorEq] at hc); (try (exfalso; first | omega | contradiction | omega | exact absurd rfl hc | exact absurd (by decide) hc))))))
            all_goals ((with_reducible refine At.reachk (⟨n / 2, 0, a + a, true, o + a⟩) ?_ ?_ ?_ ?_); exact zsubs; exact zml; exact zente; exact ⟨⟨by show o + a + (a + a) * (n / 2) = _; rw [show n / 2 = q by omega, hm2]; omega, ho, by show 0 < _; decide, by show n / 2 < _; omega, (fun h => by cases h), fun _ => by show _ ≤ a + a; omega⟩, by show n / 2 < n; omega⟩)
        · rw [show sV (o + a) = 0 from if_neg ho, show sE (o + a) = 1 from if_neg ho] at ad1
          rw [show sV (x * k) = 0 from if_neg (by omega), show sE (x * k) = 1 from if_neg (by omega)]
          (repeat' (first | refine zss ?_ | ((first | (with_reducible first | apply At.val | apply AtQ.val)); (exact zprA); exact rfl) | refine zs0 ?_ | ((with_reducible first | apply AtM1.callp | apply AtQ.callp | apply At.callp); kernel_rfl; exact rfl; exact rfl; exact ad1) | ((with_reducible apply At.box (d := 2)); exact rfl; exact rfl; exact rfl; intro b2) | ((with_reducible apply At.alloc (d := 4)); exact rfl; exact rfl; intro b4) | ((with_reducible apply At.alloc (d := 6)); exact rfl; exact rfl; intro b6) | ((with_reducible apply At.alloc (d := 9)); exact rfl; exact rfl; intro b9) | (refine zsp ?_ ?_ <;> (intro hc; (try simp only [zhcs, reduceCtorEq] at hc); (try (exfalso; first | omega | contradiction | omega | exact absurd rfl hc | exact absurd (by decide) hc))))))
          all_goals ((with_reducible apply At.retV (B := [])); exact rfl; (repeat' (first | exact RVs.nil | (with_reducible apply RVs.cons) | exact rv_tmp (by rfl) | exact rv_cellN (by rfl) (by repeat constructor) (by rfl) (by rfl) (by rfl) | exact rv_cell1 (by rfl) (by repeat constructor) (by rfl) (by rfl) | exact rv_cellA (by rfl) (by repeat constructor) (by rfl) (by rfl) zlq)); exact zml; exact zkp; exact ⟨rfl, rfl, rfl⟩)
      · obtain ⟨q, hq⟩ : ∃ q, n = 2 * q := ⟨n / 2, by omega⟩
        have hm2 : (a + a) * q = a * n := by rw [hq, ← Nat.two_mul, Nat.mul_comm 2 a, Nat.mul_assoc]
        by_cases hd : a + a < 340282366920938463463374607431768211456
        · rw [show sV (a + a) = a + a from if_pos hd, show sE (a + a) = 0 from if_pos hd] at ad2
          (repeat' (first | refine zss ?_ | ((first | (with_reducible first | apply At.val | apply AtQ.val)); (exact zprA); exact rfl) | refine zs0 ?_ | ((with_reducible first | apply AtM1.callp | apply AtQ.callp | apply At.callp); kernel_rfl; exact rfl; exact rfl; exact ad2) | ((with_reducible apply At.box (d := 2)); exact rfl; exact rfl; exact rfl; intro b2) | ((with_reducible apply At.alloc (d := 4)); exact rfl; exact rfl; intro b4) | ((with_reducible apply At.alloc (d := 6)); exact rfl; exact rfl; intro b6) | ((with_reducible apply At.alloc (d := 9)); exact rfl; exact rfl; intro b9) | (refine zsp ?_ ?_ <;> (intro hc; (try simp only [zhcs, reduceCtorEq] at hc); (try (exfalso; first | omega | contradiction | omega | exact absurd rfl hc | exact absurd (by decide) hc))))))
          all_goals ((with_reducible refine At.reachk (⟨n / 2, a + a, a + a, false, o⟩) ?_ ?_ ?_ ?_); exact zsubs; exact zml; exact zente; exact ⟨⟨by show o + (a + a) * (n / 2) = _; rw [show n / 2 = q by omega, hm2]; omega, h2, hd, by show n / 2 < _; omega, fun _ => rfl, (fun h => by cases h)⟩, by show n / 2 < n; omega⟩)
        · rw [show sV (a + a) = 0 from if_neg hd, show sE (a + a) = 1 from if_neg hd] at ad2
          (repeat' (first | refine zss ?_ | ((first | (with_reducible first | apply At.val | apply AtQ.val)); (exact zprA); exact rfl) | refine zs0 ?_ | ((with_reducible first | apply AtM1.callp | apply AtQ.callp | apply At.callp); kernel_rfl; exact rfl; exact rfl; exact ad2) | ((with_reducible apply At.box (d := 2)); exact rfl; exact rfl; exact rfl; intro b2) | ((with_reducible apply At.alloc (d := 4)); exact rfl; exact rfl; intro b4) | ((with_reducible apply At.alloc (d := 6)); exact rfl; exact rfl; intro b6) | ((with_reducible apply At.alloc (d := 9)); exact rfl; exact rfl; intro b9) | (refine zsp ?_ ?_ <;> (intro hc; (try simp only [zhcs, reduceCtorEq] at hc); (try (exfalso; first | omega | contradiction | omega | exact absurd rfl hc | exact absurd (by decide) hc))))))
          all_goals ((with_reducible refine At.reachk (⟨n / 2, 0, a + a, true, o⟩) ?_ ?_ ?_ ?_); exact zsubs; exact zml; exact zente; exact ⟨⟨by show o + (a + a) * (n / 2) = _; rw [show n / 2 = q by omega, hm2]; omega, h2, by show 0 < _; decide, by show n / 2 < _; omega, (fun h => by cases h), fun _ => by show _ ≤ a + a; omega⟩, by show n / 2 < n; omega⟩)
    · have e := h6 rfl
      by_cases hodd : n % 2 = 1
      · rw [show sV (x * k) = 0 from if_neg (by omega), show sE (x * k) = 1 from if_neg (by omega)]
        (repeat' (first | refine zss ?_ | ((first | (with_reducible first | apply At.val | apply AtQ.val)); (exact zprA); exact rfl) | refine zs0 ?_ | ((with_reducible apply At.box (d := 2)); exact rfl; exact rfl; exact rfl; intro b2) | ((with_reducible apply At.alloc (d := 4)); exact rfl; exact rfl; intro b4) | ((with_reducible apply At.alloc (d := 6)); exact rfl; exact rfl; intro b6) | ((with_reducible apply At.alloc (d := 9)); exact rfl; exact rfl; intro b9) | (refine zsp ?_ ?_ <;> (intro hc; (try simp only [zhcs, reduceCtorEq] at hc); (try (exfalso; first | omega | contradiction | omega | exact absurd rfl hc | exact absurd (by decide) hc))))))
        all_goals ((with_reducible apply At.retV (B := [])); exact rfl; (repeat' (first | exact RVs.nil | (with_reducible apply RVs.cons) | exact rv_tmp (by rfl) | exact rv_cellN (by rfl) (by repeat constructor) (by rfl) (by rfl) (by rfl) | exact rv_cell1 (by rfl) (by repeat constructor) (by rfl) (by rfl) | exact rv_cellA (by rfl) (by repeat constructor) (by rfl) (by rfl) zlq)); exact zml; exact zkp; exact ⟨rfl, rfl, rfl⟩)
      · obtain ⟨q, hq⟩ : ∃ q, n = 2 * q := ⟨n / 2, by omega⟩
        have hm2 : (A + A) * q = A * n := by rw [hq, ← Nat.two_mul, Nat.mul_comm 2 A, Nat.mul_assoc]
        (repeat' (first | refine zss ?_ | ((first | (with_reducible first | apply At.val | apply AtQ.val)); (exact zprA); exact rfl) | refine zs0 ?_ | ((with_reducible first | apply AtM1.callp | apply AtQ.callp | apply At.callp); kernel_rfl; exact rfl; exact rfl; exact ad2) | ((with_reducible apply At.box (d := 2)); exact rfl; exact rfl; exact rfl; intro b2) | ((with_reducible apply At.alloc (d := 4)); exact rfl; exact rfl; intro b4) | ((with_reducible apply At.alloc (d := 6)); exact rfl; exact rfl; intro b6) | ((with_reducible apply At.alloc (d := 9)); exact rfl; exact rfl; intro b9) | (refine zsp ?_ ?_ <;> (intro hc; (try simp only [zhcs, reduceCtorEq] at hc); (try (exfalso; first | omega | contradiction | omega | exact absurd rfl hc | exact absurd (by decide) hc))))))
        all_goals ((with_reducible refine At.reachk (⟨n / 2, sV (a + a), A + A, true, o⟩) ?_ ?_ ?_ ?_); exact zsubs; exact zml; exact zente; exact ⟨⟨by show o + (A + A) * (n / 2) = _; rw [show n / 2 = q by omega, hm2]; omega, h2, hs2, by show n / 2 < _; omega, (fun h => by cases h), fun _ => by show _ ≤ A + A; omega⟩, by show n / 2 < n; omega⟩)
end Wide
end Go.Proofs.YtpdleggpmhlagaaDoor
/- How often a number goes into another one, and one number less another one, as both say it. -/
set_option linter.unusedSimpArgs false
set_option linter.unusedVariables false
set_option linter.unusedSectionVars false
set_option maxRecDepth 20000
set_option maxHeartbeats 4000000
namespace Go.Proofs.YtpdleggpmhlagaaDoor
open Go Go.J
attribute [local irreducible] At AtQ AtM AtM1 PR Ct Pu Rd Res.blk Res.own Res.ex RVs RV
namespace Wide
theorem dv_arith (x n : Nat) (hn : 0 < n) : x / n / 18446744073709551616 = x / 18446744073709551616 / n ∧ x / n % 18446744073709551616 = (x / 18446744073709551616 % n * 18446744073709551616 + x % 18446744073709551616) / n ∧ x % n = (x / 18446744073709551616 % n * 18446744073709551616 + x % 18446744073709551616) % n := by
  obtain ⟨H, hH⟩ : ∃ H, H = x / 18446744073709551616 := ⟨_, rfl⟩
  obtain ⟨L, hL⟩ : ∃ L, L = x % 18446744073709551616 := ⟨_, rfl⟩
  obtain ⟨V, hV⟩ : ∃ V, V = H % n * 18446744073709551616 + L := ⟨_, rfl⟩
  have hr := Nat.mod_lt H hn
  have hd := Nat.div_add_mod H n
  have e : x = n * (H / n * 18446744073709551616) + V := by rw [← Nat.mul_assoc]; omega
  have hVn : V / n < 18446744073709551616 := by rw [Nat.div_lt_iff_lt_mul hn, Nat.mul_comm]; omega
  have e1 : x / n = H / n * 18446744073709551616 + V / n := by rw [e, Nat.mul_add_div hn]
  have e2 : x % n = V % n := by rw [e, Nat.mul_add_mod]
  rw [← hH, ← hL, ← hV, e1, e2]
  generalize V / n = t at *
  generalize H / n = s at *
  exact ⟨by omega, by omega, rfl⟩
theorem div0 (x : Nat) : Pu Tryd.prog 50 #[wv x, .int .u64 0] (.tuple #[wv 0, .int .u64 0, .int .i64 1]) := Pu.intro fun m => by
  refine Ct.enterV (by rfl) Tryd.func50 rfl Tryd.ntmps50 rfl (fun w0 Rest => ?_)
  (repeat' (first | refine zss ?_ | ((first | (with_reducible first | apply At.val | apply AtQ.val)); (exact zprA); exact rfl) | refine zs0 ?_ | ((with_reducible apply At.box (d := 2)); exact rfl; exact rfl; exact rfl; intro b2) | ((with_reducible apply At.alloc (d := 4)); exact rfl; exact rfl; intro b4) | (refine zsp ?_ ?_ <;> (intro hc; (try simp only [zhcs, reduceCtorEq] at hc); (try (exfalso; first | omega | contradiction | omega | exact absurd rfl hc | exact absurd (by decide) hc))))))
  all_goals ((with_reducible apply At.retV (B := [])); exact rfl; (repeat' (first | exact RVs.nil | (with_reducible apply RVs.cons) | exact rv_tmp (by rfl) | exact rv_cellN (by rfl) (by repeat constructor) (by rfl) (by rfl) (by rfl) | exact rv_cell1 (by rfl) (by repeat constructor) (by rfl) (by rfl) | exact rv_cellA (by rfl) (by repeat constructor) (by rfl) (by rfl) zlq)); exact zml; exact zkp; exact ⟨rfl, rfl, rfl⟩)
theorem div (x n : Nat) (hx : x < 340282366920938463463374607431768211456) (hn : 0 < n) (hnb : n < 18446744073709551616) :
    Pu Tryd.prog 50 #[wv x, .int .u64 (n : Int)] (.tuple #[wv (x / n), .int .u64 ((x % n : Nat) : Int), .int .i64 0]) := Pu.intro fun m => by
  obtain ⟨d1, d2, d3⟩ := dv_arith x n hn
  have hr := Nat.mod_lt (x / 18446744073709551616) hn
  have k := div64 (x / 18446744073709551616 % n) (x % 18446744073709551616) n _ rfl hr hnb (by omega)
  rw [← d2, ← d3] at k
  have f1 := u_rem (x / 18446744073709551616) n
  have f2 := u_quo (a := x / 18446744073709551616) (b := n) (Nat.lt_of_le_of_lt (Nat.div_le_self _ _) (by omega))
  rw [← d1] at f2
  clear d1 d2 d3
  refine Ct.enterV (by rfl) Tryd.func50 rfl Tryd.ntmps50 rfl (fun w0 Rest => ?_)
  (repeat' (first | refine zss ?_ | ((first | (with_reducible first | apply At.val | apply AtQ.val)); (first | exact pr_rem (by rfl) (by rfl) (by omega) f1 | exact pr_quo (by rfl) (by rfl) (by omega) f2 | exact zprA); exact rfl) | refine zs0 ?_ | ((with_reducible first | apply AtM1.callp | apply AtQ.callp | apply At.callp); kernel_rfl; exact rfl; exact rfl; exact k) | fail | ((with_reducible apply At.box (d := 2)); exact rfl; exact rfl; exact rfl; intro b2) | ((with_reducible apply At.alloc (d := 4)); exact rfl; exact rfl; intro b4) | (refine zsp ?_ ?_ <;> (intro hc; (try simp only [zhcs, reduceCtorEq] at hc); (try (exfalso; first | omega | contradiction | omega | exact absurd rfl hc | exact absurd (by decide) hc))))))
  all_goals ((with_reducible apply At.retV (B := [])); exact rfl; (repeat' (first | exact RVs.nil | (with_reducible apply RVs.cons) | exact rv_tmp (by rfl) | exact rv_cellN (by rfl) (by repeat constructor) (by rfl) (by rfl) (by rfl) | exact rv_cell1 (by rfl) (by repeat constructor) (by rfl) (by rfl) | exact rv_cellA (by rfl) (by repeat constructor) (by rfl) (by rfl) zlq)); exact zml; exact zkp; exact ⟨rfl, rfl, rfl⟩)
/-! ### the document's -/
theorem bw_dig (z y s : Nat) : (dg (z + y) s : Int) - (dg y s : Int) - (cy z y s : Int) = (dg z s : Int) - 256 * (cy z y (s + 1) : Int) := by
  have h1 := cy_succ z y s
  have h2 := cy_dig z y s
  omega
theorem sub_r (x y : Nat) (hx : x < 340282366920938463463374607431768211456) (hy : y < 340282366920938463463374607431768211456) : Pu Tryd.prog 44 #[wv x, wv y] (.tuple #[wv (x - y), .int .i64 (dE x y)]) := Pu.intro fun m => by
  have kl := less_r x y hx hy
  by_cases h : x < y
  · have e1 : x - y = 0 := by omega
    have e2 : dE x y = 1 := if_pos h
    rw [decide_eq_true h] at kl
    rw [e1, e2]
    refine Ct.enterV (by rfl) Tryd.func44 rfl Tryd.ntmps44 rfl (fun w0 Rest => ?_)
    (repeat' (first | refine zss ?_ | ((first | (with_reducible first | apply At.val | apply AtQ.val)); (exact zprA); exact rfl) | refine zs0 ?_ | ((with_reducible first | apply AtM1.callp | apply AtQ.callp | apply At.callp); kernel_rfl; exact rfl; exact rfl; exact kl) | ((with_reducible apply At.box (d := 2)); exact rfl; exact rfl; exact rfl; intro b2) | ((with_reducible apply At.box (d := 3)); exact rfl; exact rfl; exact rfl; intro b3) | ((with_reducible apply At.alloc (d := 4)); exact rfl; exact rfl; intro b4) | ((with_reducible apply At.alloc (d := 6)); exact rfl; exact rfl; intro b6) | ((with_reducible apply At.alloc (d := 7)); exact rfl; exact rfl; intro b7) | (refine zsp ?_ ?_ <;> (intro hc; (try simp only [zhcs, reduceCtorEq] at hc); (try (exfalso; first | (first | omega | exact absurd rfl hc) | contradiction | omega | exact absurd rfl hc | exact absurd (by decide) hc))))))
    all_goals ((with_reducible apply At.retV (B := [])); exact rfl; (repeat' (first | exact RVs.nil | (with_reducible apply RVs.cons) | exact rv_tmp (by rfl) | exact rv_cellN (by rfl) (by repeat constructor) (by rfl) (by rfl) (by rfl) | exact rv_cell1 (by rfl) (by repeat constructor) (by rfl) (by rfl) | exact rv_cellA (by rfl) (by repeat constructor) (by rfl) (by rfl) zlq)); exact zml; exact zkp; exact ⟨rfl, rfl, rfl⟩)
  · have e2 : dE x y = 0 := if_neg h
    rw [decide_eq_false h] at kl
    obtain ⟨z, rfl⟩ : ∃ z, x = z + y := ⟨x - y, by omega⟩
    rw [Nat.add_sub_cancel, e2]
    have hz : z < 340282366920938463463374607431768211456 := by omega
    have hlx := tab_len (dg (z + y))
    have hly := tab_len (dg y)
    have hmx := tabm_len (dg (z + y))
    have hmy := tabm_len (dg y)
    refine Ct.enterV (by rfl) Tryd.func44 rfl Tryd.ntmps44 rfl (fun w0 Rest => ?_)
    (repeat' (first | ((with_reducible apply At.mixed (id := 3) 8 (.q 0 (.q 1 (.q 2 (.q 3 (.b 4 5 (.l 5 (.x 6 (.x 7 .done))) (.l 4 (.x 6 (.x 7 .done))))))))); exact rfl; kernel_rfl; kernel_rfl; kernel_rfl) | refine zsx ?_ | refine zss ?_ | ((with_reducible apply AtM.bo); exact rfl; exact rfl; exact rfl) | ((first | (with_reducible first | apply At.val | apply AtQ.val) | ((with_reducible first | apply AtM1.valz | apply AtM1.val); exact rfl) | ((with_reducible apply AtM1.val); exact rfl)); (exact zprA); exact rfl) | refine zs0 ?_ | refine zx0 ?_ | ((with_reducible first | apply AtM1.callp | apply AtQ.callp | apply At.callp); kernel_rfl; exact rfl; exact rfl; exact kl) | ((with_reducible first | apply AtM1.callp | apply AtQ.callp | apply At.callp); kernel_rfl; exact rfl; exact rfl; exact bytes (z + y) hx) | ((with_reducible first | apply AtM1.callp | apply AtQ.callp | apply At.callp); kernel_rfl; exact rfl; exact rfl; exact bytes y hy) | ((with_reducible apply At.storeA); exact rfl; exact rfl; exact rfl; exact all_gi _; exact (by repeat constructor); (first | exact rfl | (first | omega | (simp only [lns] <;> omega))); (first | exact rfl | (first | omega | (simp only [lns] <;> omega)))) | ((with_reducible apply At.box (d := 2)); exact rfl; exact rfl; exact rfl; intro b2) | ((with_reducible apply At.box (d := 3)); exact rfl; exact rfl; exact rfl; intro b3) | ((with_reducible apply At.alloc (d := 4)); exact rfl; exact rfl; intro b4) | ((with_reducible apply At.alloc (d := 6)); exact rfl; exact rfl; intro b6) | ((with_reducible apply At.alloc (d := 7)); exact rfl; exact rfl; intro b7) | (refine zsp ?_ ?_ <;> (intro hc; (try simp only [zhcs, reduceCtorEq] at hc); (try (exfalso; first | (first | omega | exact absurd hc (by decide)) | contradiction | omega | exact absurd rfl hc | exact absurd (by decide) hc))))))
    all_goals (refine At.loopk (σ := AS) [4, 6, 7] (fun s F0 => (19, .int .i64 (s.i : Int)) :: (8, .int .i64 (s.c : Int)) :: F0) (fun s => m) (fun s => .blk b7 58 ((tab (dg y)).map gi) :: .blk b6 58 ((tab (fun j => if j < s.i then dg z j else dg (z + y) j)).map gi) :: .blk b4 24 (wd 0) :: Rest) (fun s => s.i ≤ 16 ∧ s.c = cy z y s.i) (fun s => 16 - s.i) ⟨0, 0⟩ (by rfl) ?_ zsubs zml zente ?_)
    all_goals try exact ⟨Nat.zero_le _, by simp [cy, Nat.mod_one]⟩
    all_goals
      rintro ⟨s, c⟩ ⟨hs, hc0⟩
      dsimp only at hs hc0 ⊢
      have hc2 := cy_lt z y s
      have hc3 := cy_lt z y (s + 1)
      rw [← hc0] at hc2
      by_cases h : s < 16
      · have h1 := dg_lt (z + y) s
        have h2 := dg_lt y s
        have h3 := dg_lt z s
        have hb := bw_dig z y s
        rw [← hc0] at hb
        have hl := tab_len (fun j => if j < s then dg z j else dg (z + y) j)
        have e : (tab (fun j => if j < s then dg z j else dg (z + y) j)).set s ((dg z s : Nat) : Int) = tab (fun j => if j < s + 1 then dg z j else dg (z + y) j) := by
          rw [tab_set _ _ h]
          apply tab_congr
          intro j hj
          by_cases e1 : j = s
          · subst e1; rw [if_pos rfl, if_pos (by omega)]
          · rw [if_neg e1]
            by_cases e2 : j < s
            · rw [if_pos e2, if_pos (by omega)]
            · rw [if_neg e2, if_neg (by omega)]
        obtain ⟨c', hc'⟩ : ∃ c', c' = cy z y (s + 1) := ⟨_, rfl⟩
        rw [← hc'] at hc3 hb
        by_cases hn : c' = 0
        · have hw : IntKind.wrap .i64 (((dg (z + y) s : Nat) : Int) - ((dg y s : Nat) : Int)) = ((dg (z + y) s : Nat) : Int) - ((dg y s : Nat) : Int) := by rw [IntKind.wrap_i64]; omega
          have hw2 : IntKind.wrap .i64 (((dg (z + y) s : Nat) : Int) - ((dg y s : Nat) : Int) - (c : Int)) = ((dg z s : Nat) : Int) := by rw [IntKind.wrap_i64]; omega
          (repeat' (first | ((with_reducible apply At.mixed (id := 3) 8 (.q 0 (.q 1 (.q 2 (.q 3 (.b 4 5 (.l 5 (.x 6 (.x 7 .done))) (.l 4 (.x 6 (.x 7 .done))))))))); exact rfl; kernel_rfl; kernel_rfl; kernel_rfl) | refine zsx ?_ | refine zss ?_ | ((with_reducible apply AtM.bo); exact rfl; exact rfl; exact rfl) | ((first | (with_reducible first | apply At.val | apply AtQ.val) | ((with_reducible first | apply AtM1.valz | apply AtM1.val); exact rfl) | ((with_reducible apply AtM1.val); exact rfl)); (first | exact pr_load_tabv (k := s) (v := dg (z + y) s) (by rfl) (by first | exact pk0 | exact pk1 | exact pk2 | exact pk3) (by rfl) (by omega) (if_neg (Nat.lt_irrefl s)) | exact pr_load_tab (k := s) (by rfl) (by first | exact pk0 | exact pk1 | exact pk2 | exact pk3) (by rfl) (by omega) | exact pr_sub (by rfl) (by rfl) hw | exact pr_sub (by rfl) (by rfl) hw2 | exact zprA); exact rfl) | refine zs0 ?_ | refine zx0 ?_ | ((with_reducible apply At.storeArr (g := gi) (((dg z s : Nat) : Int))); exact rfl; exact rfl; exact rfl; exact rfl; exact rfl; exact rfl; exact (by repeat constructor); (first | omega | (simp only [lns] <;> omega))) | ((with_reducible apply At.box (d := 2)); exact rfl; exact rfl; exact rfl; intro b2) | ((with_reducible apply At.box (d := 3)); exact rfl; exact rfl; exact rfl; intro b3) | ((with_reducible apply At.alloc (d := 4)); exact rfl; exact rfl; intro b4) | ((with_reducible apply At.alloc (d := 6)); exact rfl; exact rfl; intro b6) | ((with_reducible apply At.alloc (d := 7)); exact rfl; exact rfl; intro b7) | (refine zsp ?_ ?_ <;> (intro hc; (try simp only [zhcs, reduceCtorEq] at hc); (try (exfalso; first | omega | contradiction | omega | exact absurd rfl hc | exact absurd (by decide) hc))))))
          all_goals (rw [e])
          all_goals ((with_reducible refine At.reachk (⟨s + 1, 0⟩) ?_ ?_ ?_ ?_); exact zsubs; exact zml; exact zente; exact ⟨⟨Nat.succ_le_of_lt h, by dsimp only; omega⟩, by dsimp only; omega⟩)
        · have hw : IntKind.wrap .i64 (((dg (z + y) s : Nat) : Int) - ((dg y s : Nat) : Int)) = ((dg (z + y) s : Nat) : Int) - ((dg y s : Nat) : Int) := by rw [IntKind.wrap_i64]; omega
          have hw2 : IntKind.wrap .i64 (((dg (z + y) s : Nat) : Int) - ((dg y s : Nat) : Int) - (c : Int)) = ((dg z s : Nat) : Int) - 256 := by rw [IntKind.wrap_i64]; omega
          have hw3 : IntKind.wrap .i64 (((dg z s : Nat) : Int) - 256 + 256) = ((dg z s : Nat) : Int) := by rw [IntKind.wrap_i64]; omega
          (repeat' (first | ((with_reducible apply At.mixed (id := 3) 8 (.q 0 (.q 1 (.q 2 (.q 3 (.b 4 5 (.l 5 (.x 6 (.x 7 .done))) (.l 4 (.x 6 (.x 7 .done))))))))); exact rfl; kernel_rfl; kernel_rfl; kernel_rfl) | refine zsx ?_ | refine zss ?_ | ((with_reducible apply AtM.bo); exact rfl; exact rfl; exact rfl) | ((first | (with_reducible first | apply At.val | apply AtQ.val) | ((with_reducible first | apply AtM1.valz | apply AtM1.val); exact rfl) | ((with_reducible apply AtM1.val); exact rfl)); (first | exact pr_load_tabv (k := s) (v := dg (z + y) s) (by rfl) (by first | exact pk0 | exact pk1 | exact pk2 | exact pk3) (by rfl) (by omega) (if_neg (Nat.lt_irrefl s)) | exact pr_load_tab (k := s) (by rfl) (by first | exact pk0 | exact pk1 | exact pk2 | exact pk3) (by rfl) (by omega) | exact pr_sub (by rfl) (by rfl) hw | exact pr_sub (by rfl) (by rfl) hw2 | exact pr_add (by rfl) (by rfl) hw3 | exact zprA); exact rfl) | refine zs0 ?_ | refine zx0 ?_ | ((with_reducible apply At.storeArr (g := gi) (((dg z s : Nat) : Int))); exact rfl; exact rfl; exact rfl; exact rfl; exact rfl; exact rfl; exact (by repeat constructor); (first | omega | (simp only [lns] <;> omega))) | ((with_reducible apply At.box (d := 2)); exact rfl; exact rfl; exact rfl; intro b2) | ((with_reducible apply At.box (d := 3)); exact rfl; exact rfl; exact rfl; intro b3) | ((with_reducible apply At.alloc (d := 4)); exact rfl; exact rfl; intro b4) | ((with_reducible apply At.alloc (d := 6)); exact rfl; exact rfl; intro b6) | ((with_reducible apply At.alloc (d := 7)); exact rfl; exact rfl; intro b7) | (refine zsp ?_ ?_ <;> (intro hc; (try simp only [zhcs, reduceCtorEq] at hc); (try (exfalso; first | omega | contradiction | omega | exact absurd rfl hc | exact absurd (by decide) hc))))))
          all_goals (rw [e])
          all_goals ((with_reducible refine At.reachk (⟨s + 1, 1⟩) ?_ ?_ ?_ ?_); exact zsubs; exact zml; exact zente; exact ⟨⟨Nat.succ_le_of_lt h, by dsimp only; omega⟩, by dsimp only; omega⟩)
      · have e16 : s = 16 := by omega
        subst e16
        have e : tab (fun j => if j < 16 then dg z j else dg (z + y) j) = tab (dg z) := tab_congr fun j hj => if_pos hj
        rw [e]
        have hlz := tabm_len (dg z)
        (repeat' (first | refine zss ?_ | ((first | (with_reducible first | apply At.val | apply AtQ.val)); (exact zprA); exact rfl) | refine zs0 ?_ | ((with_reducible first | apply AtM1.callp | apply AtQ.callp | apply At.callp); kernel_rfl; exact rfl; exact rfl; exact of_r z hz) | ((with_reducible apply At.box (d := 2)); exact rfl; exact rfl; exact rfl; intro b2) | ((with_reducible apply At.box (d := 3)); exact rfl; exact rfl; exact rfl; intro b3) | ((with_reducible apply At.alloc (d := 4)); exact rfl; exact rfl; intro b4) | ((with_reducible apply At.alloc (d := 6)); exact rfl; exact rfl; intro b6) | ((with_reducible apply At.alloc (d := 7)); exact rfl; exact rfl; intro b7) | (refine zsp ?_ ?_ <;> (intro hc; (try simp only [zhcs, reduceCtorEq] at hc); (try (exfalso; first | omega | contradiction | omega | exact absurd rfl hc | exact absurd (by decide) hc))))))
        all_goals ((with_reducible apply At.retV (B := [])); exact rfl; (repeat' (first | exact RVs.nil | (with_reducible apply RVs.cons) | exact rv_tmp (by rfl) | exact rv_cellN (by rfl) (by repeat constructor) (by rfl) (by rfl) (by rfl) | exact rv_cell1 (by rfl) (by repeat constructor) (by rfl) (by rfl) | exact rv_cellA (by rfl) (by repeat constructor) (by rfl) (by rfl) zlq)); exact zml; exact zkp; exact ⟨rfl, rfl, rfl⟩)
end Wide
end Go.Proofs.YtpdleggpmhlagaaDoor
/- The document's division, bit by bit. -/
set_option linter.unusedSimpArgs false
set_option linter.unusedVariables false
set_option linter.unusedSectionVars false
set_option maxRecDepth 20000
set_option maxHeartbeats 4000000
namespace Go.Proofs.YtpdleggpmhlagaaDoor
open Go Go.J
attribute [local irreducible] At AtQ AtM AtM1 PR Ct Pu Rd Res.blk Res.own Res.ex RVs RV
namespace Wide
theorem i64_or8' : ∀ (a : Fin 256) (r : Fin 8), a.val % 2 ^ (r.val + 1) = 0 → bits .or .i64 (a.val : Int) ((2 ^ r.val : Nat) : Int) = ((a.val + 2 ^ r.val : Nat) : Int) := by decide +kernel
theorem i64_or8 {a r : Nat} (ha : a < 256) (hr : r < 8) (h : a % 2 ^ (r + 1) = 0) : bits .or .i64 (a : Int) ((2 ^ r : Nat) : Int) = ((a + 2 ^ r : Nat) : Int) := i64_or8' ⟨a, ha⟩ ⟨r, hr⟩ h
theorem i64_and1' : ∀ a : Fin 256, bits .and .i64 (a.val : Int) 1 = ((a.val % 2 : Nat) : Int) := by decide +kernel
theorem i64_and1 {a : Nat} (ha : a < 256) : bits .and .i64 (a : Int) 1 = ((a % 2 : Nat) : Int) := i64_and1' ⟨a, ha⟩
theorem pow_split (i : Nat) : (2 : Nat) ^ i = 256 ^ (i / 8) * 2 ^ (i % 8) := by
  rw [show (256 : Nat) = 2 ^ 8 from rfl, ← Nat.pow_mul, ← Nat.pow_add, Nat.div_add_mod]
theorem bit_of (x i : Nat) : dg x (i / 8) / 2 ^ (i % 8) % 2 = x / 2 ^ i % 2 := by
  have hr : i % 8 < 8 := Nat.mod_lt _ (by decide)
  unfold dg
  rw [pow_split i, ← Nat.div_div_eq_div_mul]
  generalize x / 256 ^ (i / 8) = a
  generalize i % 8 = r at *
  have e : (256 : Nat) = 2 ^ r * 2 ^ (8 - r) := by rw [← Nat.pow_add, show r + (8 - r) = 8 by omega]
  rw [e, Nat.mod_mul_right_div_self, Nat.mod_mod_of_dvd]
  rw [show 8 - r = (7 - r) + 1 by omega, Nat.pow_succ]
  exact Nat.dvd_mul_left _ _
theorem dg_zero (O i k : Nat) (hO : O % 2 ^ i = 0) (hk : k < i / 8) : dg O k = 0 := by
  unfold dg
  obtain ⟨q, rfl⟩ := Nat.dvd_of_mod_eq_zero hO
  have e : i = 8 * k + 8 + (i - (8 * k + 8)) := by omega
  rw [e, Nat.pow_add, Nat.pow_add, Nat.pow_mul, Nat.mul_assoc, Nat.mul_assoc, show (2 ^ 8 : Nat) = 256 from rfl, Nat.mul_div_cancel_left _ (Nat.pow_pos (by decide)), Nat.mul_mod_right]
theorem dg_or_mod (O i : Nat) (hO : O % 2 ^ (i + 1) = 0) : dg O (i / 8) % 2 ^ (i % 8 + 1) = 0 := by
  have hr : i % 8 < 8 := Nat.mod_lt _ (by decide)
  unfold dg
  obtain ⟨q, rfl⟩ := Nat.dvd_of_mod_eq_zero hO
  rw [Nat.pow_succ, pow_split i, Nat.mul_assoc, Nat.mul_assoc, Nat.mul_div_cancel_left _ (Nat.pow_pos (by decide)), ← Nat.mul_assoc, ← Nat.pow_succ]
  generalize i % 8 = r at *
  have e : (256 : Nat) = 2 ^ (r + 1) * 2 ^ (7 - r) := by rw [← Nat.pow_add, show r + 1 + (7 - r) = 8 by omega]
  rw [e, Nat.mod_mod_of_dvd _ (Nat.dvd_mul_right _ _), Nat.mul_mod_right]
theorem dg_add_bit (O i k : Nat) (hO : O % 2 ^ (i + 1) = 0) : dg (O + 2 ^ i) k = if k = i / 8 then dg O k + 2 ^ (i % 8) else dg O k := by
  have hr : i % 8 < 8 := Nat.mod_lt _ (by decide)
  by_cases h : k = i / 8
  · rw [if_pos h]
    subst h
    have hm := dg_or_mod O i hO
    have hl := dg_lt O (i / 8)
    have e : (O + 2 ^ i) / 256 ^ (i / 8) = O / 256 ^ (i / 8) + 2 ^ (i % 8) := by
      rw [pow_split i, Nat.add_mul_div_left _ _ (Nat.pow_pos (by decide))]
    unfold dg at *
    rw [e]
    generalize O / 256 ^ (i / 8) = a at *
    generalize i % 8 = r at *
    have hp : 2 ^ r < 256 := by
      have : (2 : Nat) ^ r ≤ 2 ^ 7 := Nat.pow_le_pow_right (by decide) (by omega)
      omega
    obtain ⟨q, hq⟩ := Nat.dvd_of_mod_eq_zero hm
    have h256 : (256 : Nat) = 2 ^ (r + 1) * 2 ^ (7 - r) := by rw [← Nat.pow_add, show r + 1 + (7 - r) = 8 by omega]
    have hq2 : q < 2 ^ (7 - r) := by
      apply Nat.lt_of_mul_lt_mul_left (a := 2 ^ (r + 1))
      rw [← hq, ← h256]; exact hl
    have hq3 : 2 ^ (r + 1) * (q + 1) ≤ 256 := by
      rw [h256]; exact Nat.mul_le_mul_left _ hq2
    rw [Nat.mul_add, ← hq, Nat.pow_succ] at hq3
    rw [Nat.add_mod, Nat.mod_eq_of_lt hp, Nat.mod_eq_of_lt (by omega)]
  · rw [if_neg h]
    by_cases h2 : k < i / 8
    · have hO' : O % 2 ^ i = 0 := by
        obtain ⟨q, rfl⟩ := Nat.dvd_of_mod_eq_zero hO
        rw [Nat.pow_succ, Nat.mul_assoc, Nat.mul_mod_right]
      rw [dg_zero O i k hO' h2, dg_zero _ i k (by rw [Nat.add_mod_right]; exact hO') h2]
    · unfold dg
      obtain ⟨q, rfl⟩ := Nat.dvd_of_mod_eq_zero hO
      have hk : i + 1 ≤ 8 * k := by omega
      have e : (256 : Nat) ^ k = 2 ^ (i + 1) * 2 ^ (8 * k - (i + 1)) := by rw [← Nat.pow_add, show i + 1 + (8 * k - (i + 1)) = 8 * k by omega, Nat.pow_mul]
      rw [e, ← Nat.div_div_eq_div_mul, ← Nat.div_div_eq_div_mul, Nat.mul_div_cancel_left _ (Nat.pow_pos (by decide)), Nat.mul_add_div (Nat.pow_pos (by decide)), Nat.div_eq_of_lt (show 2 ^ i < 2 ^ (i + 1) by rw [Nat.pow_succ]; have : 0 < 2 ^ i := Nat.pow_pos (by decide); omega), Nat.add_zero]
theorem tab_bit (O i : Nat) (hi : i < 128) (hO : O % 2 ^ (i + 1) = 0) : (tab (dg O)).set (i / 8) ((dg O (i / 8) + 2 ^ (i % 8) : Nat) : Int) = tab (dg (O + 2 ^ i)) := by
  rw [tab_set _ _ (by omega)]
  apply tab_congr
  intro j _
  rw [dg_add_bit O i j hO]
  by_cases h : j = i / 8
  · subst h; rw [if_pos rfl]
  · rw [if_neg h, if_neg h]
/-- one bit more -/
theorem div_bit (x n i : Nat) (hn : 0 < n) : x / 2 ^ i = 2 * (x / 2 ^ (i + 1)) + x / 2 ^ i % 2 ∧
    (2 * (x / 2 ^ (i + 1) % n) + x / 2 ^ i % 2 < n → x / 2 ^ i % n = 2 * (x / 2 ^ (i + 1) % n) + x / 2 ^ i % 2 ∧ x / 2 ^ i / n = 2 * (x / 2 ^ (i + 1) / n)) ∧
    (¬ 2 * (x / 2 ^ (i + 1) % n) + x / 2 ^ i % 2 < n → x / 2 ^ i % n = 2 * (x / 2 ^ (i + 1) % n) + x / 2 ^ i % 2 - n ∧ x / 2 ^ i / n = 2 * (x / 2 ^ (i + 1) / n) + 1) := by
  have e0 : x / 2 ^ (i + 1) = x / 2 ^ i / 2 := by rw [Nat.pow_succ, ← Nat.div_div_eq_div_mul]
  rw [e0]
  generalize x / 2 ^ i = a
  obtain ⟨c, hc⟩ : ∃ c, c = a / 2 := ⟨_, rfl⟩
  rw [← hc]
  have hd := Nat.div_add_mod c n
  have hm := Nat.mod_lt c hn
  have hq : n * (2 * (c / n)) = 2 * (n * (c / n)) := by rw [Nat.mul_left_comm]
  refine ⟨by omega, fun h => ?_, fun h => ?_⟩
  · have e : a = n * (2 * (c / n)) + (2 * (c % n) + a % 2) := by omega
    have e1 := Nat.mul_add_div hn (2 * (c / n)) (2 * (c % n) + a % 2)
    have e2 := Nat.mul_add_mod n (2 * (c / n)) (2 * (c % n) + a % 2)
    rw [← e, Nat.div_eq_of_lt h] at e1
    rw [← e, Nat.mod_eq_of_lt h] at e2
    exact ⟨e2, by omega⟩
  · have e : a = n * (2 * (c / n) + 1) + (2 * (c % n) + a % 2 - n) := by rw [Nat.mul_add, Nat.mul_one]; omega
    have hl : 2 * (c % n) + a % 2 - n < n := by omega
    have e1 := Nat.mul_add_div hn (2 * (c / n) + 1) (2 * (c % n) + a % 2 - n)
    have e2 := Nat.mul_add_mod n (2 * (c / n) + 1) (2 * (c % n) + a % 2 - n)
    rw [← e, Nat.div_eq_of_lt hl] at e1
    rw [← e, Nat.mod_eq_of_lt hl] at e2
    exact ⟨e2, by omega⟩
theorem wd_small {b : Nat} (h : b < 18446744073709551616) : Value.agg #[.int .u64 0, .int .u64 (b : Int)] = wv b := wd_mk (by omega) (by omega)
structure DS where
  (i : Nat) (O : Nat) (L : Nat)
theorem div_r0 (x : Nat) : Pu Tryd.prog 51 #[wv x, .int .u64 0] (.tuple #[wv 0, .int .u64 0, .int .i64 1]) := Pu.intro fun m => by
  refine Ct.enterV (by rfl) Tryd.func51 rfl Tryd.ntmps51 rfl (fun w0 Rest => ?_)
  (repeat' (first | refine zss ?_ | ((first | (with_reducible first | apply At.val | apply AtQ.val)); (exact zprA); exact rfl) | refine zs0 ?_ | ((with_reducible apply At.box (d := 2)); exact rfl; exact rfl; exact rfl; intro b2) | ((with_reducible apply At.alloc (d := 4)); exact rfl; exact rfl; intro b4) | ((with_reducible apply At.alloc (d := 7)); exact rfl; exact rfl; intro b7) | ((with_reducible apply At.alloc (d := 8)); exact rfl; exact rfl; intro b8) | ((with_reducible apply At.alloc (d := 9)); exact rfl; exact rfl; intro b9) | ((with_reducible apply At.alloc (d := 10)); exact rfl; exact rfl; intro b10) | (refine zsp ?_ ?_ <;> (intro hc; (try simp only [zhcs, reduceCtorEq] at hc); (try (exfalso; first | omega | contradiction | omega | exact absurd rfl hc | exact absurd (by decide) hc))))))
  all_goals ((with_reducible apply At.retV (B := [])); exact rfl; (repeat' (first | exact RVs.nil | (with_reducible apply RVs.cons) | exact rv_tmp (by rfl) | exact rv_cellN (by rfl) (by repeat constructor) (by rfl) (by rfl) (by rfl) | exact rv_cell1 (by rfl) (by repeat constructor) (by rfl) (by rfl) | exact rv_cellA (by rfl) (by repeat constructor) (by rfl) (by rfl) zlq)); exact zml; exact zkp; exact ⟨rfl, rfl, rfl⟩)
theorem div_r (x n : Nat) (hx : x < 340282366920938463463374607431768211456) (hn : 0 < n) (hnb : n < 18446744073709551616) :
    Pu Tryd.prog 51 #[wv x, .int .u64 (n : Int)] (.tuple #[wv (x / n), .int .u64 ((x % n : Nat) : Int), .int .i64 0]) := Pu.intro fun m => by
  have hlx := tab_len (dg x)
  have hmx := tabm_len (dg x)
  refine Ct.enterV (by rfl) Tryd.func51 rfl Tryd.ntmps51 rfl (fun w0 Rest => ?_)
  (repeat' (first | refine zss ?_ | ((first | (with_reducible first | apply At.val | apply AtQ.val)); (exact zprA); exact rfl) | refine zs0 ?_ | ((with_reducible first | apply AtM1.callp | apply AtQ.callp | apply At.callp); kernel_rfl; exact rfl; exact rfl; exact bytes x hx) | ((with_reducible apply At.storeA); exact rfl; exact rfl; exact rfl; exact all_gi _; exact (by repeat constructor); (first | exact rfl | (first | omega | (simp only [lns] <;> omega))); (first | exact rfl | (first | omega | (simp only [lns] <;> omega)))) | ((with_reducible apply At.box (d := 2)); exact rfl; exact rfl; exact rfl; intro b2) | ((with_reducible apply At.alloc (d := 4)); exact rfl; exact rfl; intro b4) | ((with_reducible apply At.alloc (d := 7)); exact rfl; exact rfl; intro b7) | ((with_reducible apply At.alloc (d := 8)); exact rfl; exact rfl; intro b8) | ((with_reducible apply At.alloc (d := 9)); exact rfl; exact rfl; intro b9) | ((with_reducible apply At.alloc (d := 10)); exact rfl; exact rfl; intro b10) | (refine zsp ?_ ?_ <;> (intro hc; (try simp only [zhcs, reduceCtorEq] at hc); (try (exfalso; first | omega | contradiction | omega | exact absurd rfl hc | exact absurd (by decide) hc))))))
  rw [show ([.int .u64 0, .int .u64 0] : List Value) = wd 0 from rfl]
  (refine At.loopk (σ := DS) [4, 7, 8, 9, 10] (fun s F0 => (11, .int .i64 ((s.i : Int) - 1)) :: F0) (fun s => m) (fun s => .blk b10 24 [.int .u64 0, .int .u64 (n : Int)] :: .blk b9 58 ((tab (dg x)).map gi) :: .blk b8 24 (wd s.L) :: .blk b7 58 ((tab (dg s.O)).map gi) :: .blk b4 24 (wd 0) :: Rest) (fun s => s.i ≤ 128 ∧ s.O = x / 2 ^ s.i / n * 2 ^ s.i ∧ s.L = x / 2 ^ s.i % n) (fun s => s.i) ⟨128, 0, 0⟩ (by rfl) ?_ zsubs zml zente ?_)
  · refine ⟨Nat.le_refl _, ?_, ?_⟩
    · show 0 = x / 2 ^ 128 / n * 2 ^ 128
      rw [Nat.div_eq_of_lt (show x < 2 ^ 128 from hx), Nat.zero_div, Nat.zero_mul]
    · show 0 = x / 2 ^ 128 % n
      rw [Nat.div_eq_of_lt (show x < 2 ^ 128 from hx), Nat.zero_mod]
  rintro ⟨i, O, L⟩ ⟨hi, hO, hL⟩
  dsimp only at hi hO hL ⊢
  have hlO := tab_len (dg O)
  have hmO := tabm_len (dg O)
  rcases i with _ | i
  · rw [Nat.pow_zero, Nat.div_one, Nat.mul_one] at hO
    rw [Nat.pow_zero, Nat.div_one] at hL
    have hOb : O < 340282366920938463463374607431768211456 := by rw [hO]; exact Nat.lt_of_le_of_lt (Nat.div_le_self _ _) hx
    have hLn : L < n := by rw [hL]; exact Nat.mod_lt _ hn
    rw [← hO, ← hL, show ((L : Nat) : Int) = ((L % 18446744073709551616 : Nat) : Int) by omega]
    (repeat' (first | ((with_reducible apply At.mixed (id := 11) 16 (.q 0 (.q 1 (.q 2 (.q 3 (.q 4 (.q 5 (.q 6 (.q 7 (.q 8 (.q 9 (.q 10 (.x 11 (.q 12 (.q 13 (.q 14 (.x 15 .done))))))))))))))))); exact rfl; kernel_rfl; kernel_rfl; kernel_rfl) | ((with_reducible apply At.mixed (id := 14) 10 (.q 0 (.q 1 (.q 2 (.q 3 (.q 4 (.q 5 (.q 6 (.q 7 (.q 8 (.x 9 .done))))))))))); exact rfl; kernel_rfl; kernel_rfl; kernel_rfl) | ((with_reducible apply At.mixedB (id := 15) 4 7 (.q 0 (.q 1 (.q 2 (.q 3 (.l 4 (.q 5 (.q 6 .done)))))))); exact rfl; exact (by repeat constructor); exact rfl; kernel_rfl; kernel_rfl; kernel_rfl) | refine zsx ?_ | refine zss ?_ | ((with_reducible apply AtM.bo); exact rfl; exact rfl; exact rfl) | ((first | (with_reducible first | apply At.val | apply AtQ.val) | ((with_reducible first | apply AtM1.valz | apply AtM1.val); exact rfl) | ((with_reducible apply AtM1.val); exact rfl)); (exact zprA); exact rfl) | refine zs0 ?_ | refine zx0 ?_ | ((with_reducible first | apply AtM1.callp | apply AtQ.callp | apply At.callp); kernel_rfl; exact rfl; exact rfl; exact of_r O hOb) | ((with_reducible apply At.box (d := 2)); exact rfl; exact rfl; exact rfl; intro b2) | ((with_reducible apply At.alloc (d := 4)); exact rfl; exact rfl; intro b4) | ((with_reducible apply At.alloc (d := 7)); exact rfl; exact rfl; intro b7) | ((with_reducible apply At.alloc (d := 8)); exact rfl; exact rfl; intro b8) | ((with_reducible apply At.alloc (d := 9)); exact rfl; exact rfl; intro b9) | ((with_reducible apply At.alloc (d := 10)); exact rfl; exact rfl; intro b10) | (refine zsp ?_ ?_ <;> (intro hc; (try simp only [zhcs, reduceCtorEq] at hc); (try (exfalso; first | omega | contradiction | omega | exact absurd rfl hc | exact absurd (by decide) hc))))))
    all_goals ((with_reducible apply At.retV (B := [])); exact rfl; (repeat' (first | exact RVs.nil | (with_reducible apply RVs.cons) | exact rv_tmp (by rfl) | exact rv_cellN (by rfl) (by repeat constructor) (by rfl) (by rfl) (by rfl) | exact rv_cell1 (by rfl) (by repeat constructor) (by rfl) (by rfl) | exact rv_cellA (by rfl) (by repeat constructor) (by rfl) (by rfl) zlq)); exact zml; exact zkp; exact ⟨rfl, rfl, rfl⟩)
  · rw [show (((i + 1 : Nat) : Int) - 1) = (i : Int) by omega]
    obtain ⟨d0, d1, d2⟩ := div_bit x n i hn
    have hLn : L < n := by rw [hL]; exact Nat.mod_lt _ hn
    have hbit := bit_of x i
    obtain ⟨b, hb⟩ : ∃ b, b = x / 2 ^ i % 2 := ⟨_, rfl⟩
    have hb2 : b < 2 := by rw [hb]; exact Nat.mod_lt _ (by decide)
    rw [← hb] at d0 d1 d2 hbit
    rw [← hL] at d1 d2
    have hOm : O % 2 ^ (i + 1) = 0 := by rw [hO]; exact Nat.mul_mod_left _ _
    have hdl := dg_lt x (i / 8)
    have hol := dg_lt O (i / 8)
    have f1 : IntKind.wrap .i64 ((i : Int).tdiv 8) = ((i / 8 : Nat) : Int) := by
      have e : (i : Int).tdiv 8 = ((i / 8 : Nat) : Int) := (Int.ofNat_tdiv i 8).symm
      rw [e, IntKind.wrap_i64]; omega
    have f2 : (i : Int).tmod 8 = ((i % 8 : Nat) : Int) := u_rem i 8
    have f3 := u_shr (dg x (i / 8)) (i % 8)
    have f4 := i64_and1 (a := dg x (i / 8) / 2 ^ (i % 8)) (Nat.lt_of_le_of_lt (Nat.div_le_self _ _) hdl)
    rw [hbit] at f4
    have f5 := u_inN (a := b) (by omega)
    have ad1 := add_r L L (by omega) (by omega)
    rw [show sV (L + L) = L + L from if_pos (by omega), show sE (L + L) = 0 from if_pos (by omega)] at ad1
    have ad2 := add_r (L + L) b (by omega) (by omega)
    rw [show sV (L + L + b) = L + L + b from if_pos (by omega), show sE (L + L + b) = 0 from if_pos (by omega), ← wd_small (b := b) (by omega)] at ad2
    have kl := less_r (L + L + b) n (by omega) (by omega)
    rw [← wd_small hnb] at kl
    by_cases hc0 : L + L + b < n
    · rw [decide_eq_true hc0] at kl
      obtain ⟨r1, r2⟩ := d1 (by omega)
      (repeat' (first | ((with_reducible apply At.mixed (id := 11) 16 (.q 0 (.q 1 (.q 2 (.q 3 (.q 4 (.q 5 (.q 6 (.q 7 (.q 8 (.q 9 (.q 10 (.q 11 (.q 12 (.q 13 (.q 14 (.x 15 .done))))))))))))))))); exact rfl; kernel_rfl; kernel_rfl; kernel_rfl) | ((with_reducible apply At.mixed (id := 14) 10 (.q 0 (.q 1 (.q 2 (.q 3 (.q 4 (.q 5 (.q 6 (.q 7 (.q 8 (.x 9 .done))))))))))); exact rfl; kernel_rfl; kernel_rfl; kernel_rfl) | ((with_reducible apply At.mixedB (id := 15) 4 7 (.q 0 (.q 2 (.q 3 (.l 1 (.l 4 (.q 5 (.q 6 .done)))))))); exact rfl; exact (by repeat constructor); exact rfl; kernel_rfl; kernel_rfl; kernel_rfl) | refine zsx ?_ | refine zss ?_ | ((with_reducible apply AtM.bo); exact rfl; exact rfl; exact rfl) | ((first | (with_reducible first | apply At.val | apply AtQ.val) | ((with_reducible first | apply AtM1.valz | apply AtM1.val); exact rfl) | ((with_reducible apply AtM1.val); exact rfl)); (first | exact pr_quo (by rfl) (by rfl) (by omega) f1 | exact pr_rem (by rfl) (by rfl) (by omega) f2 | exact pr_shrv (by rfl) (by rfl) (by omega) (by simp only [IntKind.bits]; omega) f3 | exact pr_and (by rfl) (by rfl) f4 | exact pr_load_tab (k := i / 8) (by rfl) (by first | exact pk0 | exact pk1 | exact pk2 | exact pk3 | exact pk4) (by rfl) (by omega) | exact zprA); exact rfl) | refine zs0 ?_ | refine zx0 ?_ | ((with_reducible first | apply AtM1.callp | apply AtQ.callp | apply At.callp); kernel_rfl; exact rfl; exact rfl; exact ad1) | ((with_reducible first | apply AtM1.callp | apply AtQ.callp | apply At.callp); kernel_rfl; exact rfl; exact rfl; exact ad2) | ((with_reducible first | apply AtM1.callp | apply AtQ.callp | apply At.callp); kernel_rfl; exact rfl; exact rfl; exact kl) | ((with_reducible apply At.box (d := 2)); exact rfl; exact rfl; exact rfl; intro b2) | ((with_reducible apply At.alloc (d := 4)); exact rfl; exact rfl; intro b4) | ((with_reducible apply At.alloc (d := 7)); exact rfl; exact rfl; intro b7) | ((with_reducible apply At.alloc (d := 8)); exact rfl; exact rfl; intro b8) | ((with_reducible apply At.alloc (d := 9)); exact rfl; exact rfl; intro b9) | ((with_reducible apply At.alloc (d := 10)); exact rfl; exact rfl; intro b10) | (refine zsp ?_ ?_ <;> (intro hc; (try simp only [zhcs, reduceCtorEq] at hc); (try (exfalso; first | (first | omega | exact absurd hc (by decide)) | contradiction | omega | exact absurd rfl hc | exact absurd (by decide) hc))))))
      all_goals ((with_reducible refine At.reachk (⟨i, O, L + L + b⟩) ?_ ?_ ?_ ?_); exact zsubs; exact zml; exact zente; exact ⟨⟨by dsimp only; omega, by dsimp only; rw [r2, hO, Nat.pow_succ]; rw [Nat.mul_comm 2, Nat.mul_assoc, Nat.mul_comm 2], by dsimp only; rw [r1]; omega⟩, Nat.lt_succ_self i⟩)
    · rw [decide_eq_false hc0] at kl
      obtain ⟨r1, r2⟩ := d2 (by omega)
      have ks := sub_r (L + L + b) n (by omega) (by omega)
      rw [show dE (L + L + b) n = 0 from if_neg hc0, ← wd_small hnb] at ks
      have f6 : IntKind.wrap .i64 (1 * 2 ^ ((i % 8 : Nat) : Int).toNat) = ((2 ^ (i % 8) : Nat) : Int) := by
        have : (2 : Nat) ^ (i % 8) ≤ 2 ^ 7 := Nat.pow_le_pow_right (by decide) (by omega)
        rw [Int.toNat_natCast, Int.one_mul, show ((2 : Int) ^ (i % 8)) = ((2 ^ (i % 8) : Nat) : Int) by rw [Int.natCast_pow]; rfl, IntKind.wrap_i64]
        generalize 2 ^ (i % 8) = p at *
        omega
      have f7 := i64_or8 hol (Nat.mod_lt i (by decide)) (dg_or_mod O i hOm)
      have e := tab_bit O i (by omega) hOm
      (repeat' (first | ((with_reducible apply At.mixed (id := 11) 16 (.q 0 (.q 1 (.q 2 (.q 3 (.q 4 (.q 5 (.q 6 (.q 7 (.q 8 (.q 9 (.q 10 (.q 11 (.q 12 (.q 13 (.q 14 (.x 15 .done))))))))))))))))); exact rfl; kernel_rfl; kernel_rfl; kernel_rfl) | ((with_reducible apply At.mixed (id := 14) 10 (.q 0 (.q 1 (.q 2 (.q 3 (.q 4 (.q 5 (.q 6 (.q 7 (.q 8 (.x 9 .done))))))))))); exact rfl; kernel_rfl; kernel_rfl; kernel_rfl) | ((with_reducible apply At.mixedB (id := 15) 4 7 (.q 0 (.q 2 (.q 3 (.l 1 (.l 4 (.q 5 (.q 6 .done)))))))); exact rfl; exact (by repeat constructor); exact rfl; kernel_rfl; kernel_rfl; kernel_rfl) | refine zsx ?_ | refine zss ?_ | ((with_reducible apply AtM.bo); exact rfl; exact rfl; exact rfl) | ((first | (with_reducible first | apply At.val | apply AtQ.val) | ((with_reducible first | apply AtM1.valz | apply AtM1.val); exact rfl) | ((with_reducible apply AtM1.val); exact rfl)); (first | exact pr_quo (by rfl) (by rfl) (by omega) f1 | exact pr_rem (by rfl) (by rfl) (by omega) f2 | exact pr_shrv (by rfl) (by rfl) (by omega) (by simp only [IntKind.bits]; omega) f3 | exact pr_shlv (by rfl) (by rfl) (by omega) (by simp only [IntKind.bits]; omega) f6 | exact pr_and (by rfl) (by rfl) f4 | exact pr_or (by rfl) (by rfl) f7 | exact pr_load_tab (k := i / 8) (by rfl) (by first | exact pk0 | exact pk1 | exact pk2 | exact pk3 | exact pk4) (by rfl) (by omega) | exact zprA); exact rfl) | refine zs0 ?_ | refine zx0 ?_ | ((with_reducible apply At.storeArr (g := gi) (((dg O (i / 8) + 2 ^ (i % 8) : Nat) : Int))); exact rfl; exact rfl; exact rfl; exact rfl; exact rfl; exact rfl; exact (by repeat constructor); (first | omega | (simp only [lns] <;> omega))) | ((with_reducible first | apply AtM1.callp | apply AtQ.callp | apply At.callp); kernel_rfl; exact rfl; exact rfl; exact ad1) | ((with_reducible first | apply AtM1.callp | apply AtQ.callp | apply At.callp); kernel_rfl; exact rfl; exact rfl; exact ad2) | ((with_reducible first | apply AtM1.callp | apply AtQ.callp | apply At.callp); kernel_rfl; exact rfl; exact rfl; exact kl) | ((with_reducible first | apply AtM1.callp | apply AtQ.callp | apply At.callp); kernel_rfl; exact rfl; exact rfl; exact ks) | ((with_reducible apply At.box (d := 2)); exact rfl; exact rfl; exact rfl; intro b2) | ((with_reducible apply At.alloc (d := 4)); exact rfl; exact rfl; intro b4) | ((with_reducible apply At.alloc (d := 7)); exact rfl; exact rfl; intro b7) | ((with_reducible apply At.alloc (d := 8)); exact rfl; exact rfl; intro b8) | ((with_reducible apply At.alloc (d := 9)); exact rfl; exact rfl; intro b9) | ((with_reducible apply At.alloc (d := 10)); exact rfl; exact rfl; intro b10) | (refine zsp ?_ ?_ <;> (intro hc; (try simp only [zhcs, reduceCtorEq] at hc); (try (exfalso; first | (first | omega | exact absurd hc (by decide)) | contradiction | omega | exact absurd rfl hc | exact absurd (by decide) hc))))))
      all_goals (rw [e])
      all_goals ((with_reducible refine At.reachk (⟨i, O + 2 ^ i, L + L + b - n⟩) ?_ ?_ ?_ ?_); exact zsubs; exact zml; exact zente; exact ⟨⟨by dsimp only; omega, by dsimp only; rw [r2, hO, Nat.pow_succ, Nat.add_mul, Nat.one_mul]; rw [Nat.mul_comm 2, Nat.mul_assoc, Nat.mul_comm 2], by dsimp only; rw [r1]; omega⟩, Nat.lt_succ_self i⟩)
end Wide
end Go.Proofs.YtpdleggpmhlagaaDoor
/- A number's digits, and the number of digits (no program). -/
set_option linter.unusedSimpArgs false
set_option linter.unusedVariables false
set_option linter.unusedSectionVars false
set_option maxRecDepth 20000
set_option maxHeartbeats 4000000
namespace Go.Proofs.YtpdleggpmhlagaaDoor
namespace Wide
abbrev dd := Lib.decDigits
theorem dd_small {u : Nat} (h : u < 10) : dd u = [UInt8.ofNat (48 + u)] := Lib.decDigits_one h
theorem dd_big {u : Nat} (h : ¬ u < 10) : dd u = dd (u / 10) ++ [UInt8.ofNat (48 + u % 10)] := by
  show Lib.decDigits u = _
  rw [Lib.decDigits, dif_neg h]
def pad : Nat → Nat → List UInt8
  | 0, _ => []
  | k + 1, r => pad k (r / 10) ++ [UInt8.ofNat (48 + r % 10)]
theorem pad_len : ∀ k r, (pad k r).length = k
  | 0, _ => rfl
  | k + 1, r => by simp [pad, pad_len k]
theorem dd_pad : ∀ (k q r : Nat), 0 < q → r < 10 ^ k → dd (q * 10 ^ k + r) = dd q ++ pad k r
  | 0, q, r, _, hr => by
    have : r = 0 := by simpa using hr
    subst this; simp [pad]
  | k + 1, q, r, hq, hr => by
    have hp : 0 < 10 ^ k := Nat.pow_pos (by decide)
    have e : q * 10 ^ (k + 1) = 10 * (q * 10 ^ k) := by rw [Nat.pow_succ, ← Nat.mul_assoc, Nat.mul_comm]
    have hqp : 10 ^ k ≤ q * 10 ^ k := Nat.le_mul_of_pos_left _ hq
    have ih := dd_pad k q (r / 10) hq (by rw [Nat.pow_succ] at hr; omega)
    rw [dd_big (by omega), e, show (10 * (q * 10 ^ k) + r) / 10 = q * 10 ^ k + r / 10 by omega, show (10 * (q * 10 ^ k) + r) % 10 = r % 10 by omega, ih, List.append_assoc]
    rfl
theorem dd_len_le : ∀ (k u : Nat), 0 < k → u < 10 ^ k → (dd u).length ≤ k
  | 0, _, h, _ => absurd h (Nat.lt_irrefl _)
  | k + 1, u, _, hu => by
    by_cases h : u < 10
    · rw [dd_small h]; simp
    · rw [dd_big h]
      rcases k with _ | k
      · simp at hu; omega
      · have := dd_len_le (k + 1) (u / 10) (by omega) (by rw [Nat.pow_succ] at hu; omega)
        simp only [List.length_append, List.length_singleton]; omega
theorem dd_ne (u : Nat) : dd u ≠ [] := by
  by_cases h : u < 10
  · rw [dd_small h]; simp
  · rw [dd_big h]; simp
theorem dd_pos (u : Nat) : 0 < (dd u).length := List.length_pos_iff.2 (dd_ne u)
/-- a text's digits -/
def dgt (c : UInt8) : Nat := (c.toNat + 208) % 256 % 10
def isd (c : UInt8) : Prop := 48 ≤ c.toNat ∧ c.toNat ≤ 57
instance (c : UInt8) : Decidable (isd c) := inferInstanceAs (Decidable (_ ∧ _))
def pv (s : List UInt8) : Nat := s.foldl (fun a c => a * 10 + dgt c) 0
theorem pv_snoc (t : List UInt8) (c : UInt8) : pv (t ++ [c]) = pv t * 10 + dgt c := by simp [pv, List.foldl_append]
theorem dgt_of {d : Nat} (h : d < 10) : dgt (UInt8.ofNat (48 + d)) = d := by
  unfold dgt
  rw [UInt8.toNat_ofNat', Nat.mod_eq_of_lt (show 48 + d < 2 ^ 8 by omega)]
  omega
theorem isd_of {d : Nat} (h : d < 10) : isd (UInt8.ofNat (48 + d)) := by
  unfold isd
  rw [UInt8.toNat_ofNat', Nat.mod_eq_of_lt (show 48 + d < 2 ^ 8 by omega)]
  omega
theorem of_dgt {c : UInt8} (h : isd c) : UInt8.ofNat (48 + dgt c) = c := by
  apply UInt8.toNat_inj.1
  have := UInt8.toNat_lt c
  unfold isd at h
  unfold dgt
  rw [UInt8.toNat_ofNat', show 48 + (c.toNat + 208) % 256 % 10 = c.toNat by omega, Nat.mod_eq_of_lt this]
theorem pv_dd (u : Nat) : pv (dd u) = u := by
  induction u using Nat.strongRecOn with
  | _ u ih =>
    by_cases h : u < 10
    · rw [dd_small h, show [UInt8.ofNat (48 + u)] = [] ++ [UInt8.ofNat (48 + u)] from rfl, pv_snoc, dgt_of h]
      show 0 * 10 + u = u
      omega
    · rw [dd_big h, pv_snoc, ih (u / 10) (by omega), dgt_of (Nat.mod_lt _ (by decide))]
      omega
theorem dd_isd (u : Nat) : ∀ c ∈ dd u, isd c := by
  induction u using Nat.strongRecOn with
  | _ u ih =>
    by_cases h : u < 10
    · rw [dd_small h]
      intro c hc
      rw [List.mem_singleton.1 hc]; exact isd_of h
    · rw [dd_big h]
      intro c hc
      rcases List.mem_append.1 hc with hc | hc
      · exact ih (u / 10) (by omega) c hc
      · rw [List.mem_singleton.1 hc]; exact isd_of (Nat.mod_lt _ (by decide))
/-- the first digit of what is not zero -/
theorem dd_lead (u : Nat) (hu : 0 < u) : (dd u).head? ≠ some 48 := by
  induction u using Nat.strongRecOn with
  | _ u ih =>
    by_cases h : u < 10
    · rw [dd_small h]
      intro e
      have e1 : UInt8.ofNat (48 + u) = 48 := Option.some.inj e
      have e2 := congrArg UInt8.toNat e1
      rw [UInt8.toNat_ofNat', Nat.mod_eq_of_lt (show 48 + u < 2 ^ 8 by omega)] at e2
      have : (48 : UInt8).toNat = 48 := rfl
      omega
    · rw [dd_big h, List.head?_append]
      have i := ih (u / 10) (by omega) (by omega)
      cases hd : (dd (u / 10)).head? with
      | none => exact absurd (List.head?_eq_none_iff.1 hd) (dd_ne _)
      | some c => rw [hd] at i; exact i
theorem dd_lead1 (u : Nat) (h : (dd u).head? = some 48) : (dd u).length = 1 := by
  by_cases h0 : u < 10
  · rw [dd_small h0]; rfl
  · exact absurd h (dd_lead u (by omega))
/-- a right text is that of its number -/
theorem dd_pv : ∀ (n : Nat) (s : List UInt8), s.length = n → s ≠ [] → (∀ c ∈ s, isd c) → (s.length = 1 ∨ s.head? ≠ some 48) → dd (pv s) = s := by
  intro n
  induction n with
  | zero => intro s hl hs; exact absurd (List.length_eq_zero_iff.1 hl) hs
  | succ n ih =>
    intro s hl hs hd h0
    obtain ⟨t, c, rfl⟩ : ∃ t c, s = t ++ [c] := ⟨s.dropLast, s.getLast hs, (List.dropLast_concat_getLast hs).symm⟩
    have hc := hd c (by simp)
    rw [pv_snoc]
    have hdl : dgt c < 10 := Nat.mod_lt _ (by decide)
    by_cases ht : t = []
    · subst ht
      show dd (0 * 10 + dgt c) = _
      rw [Nat.zero_mul, Nat.zero_add, dd_small hdl, of_dgt hc]; rfl
    · have hh : (t ++ [c]).head? = t.head? := by
        cases t with
        | nil => exact absurd rfl ht
        | cons a b => rfl
      have h1 : ¬ (t ++ [c]).length = 1 := by
        have := List.length_pos_iff.2 ht
        simp; omega
      have h2 : t.head? ≠ some 48 := by rw [← hh]; exact h0.resolve_left h1
      have i := ih t (by simpa using hl) ht (fun x hx => hd x (by simp [hx])) (.inr h2)
      have hp : 0 < pv t := by
        apply Nat.pos_of_ne_zero
        intro e
        rw [e] at i
        rw [← i] at h2
        exact h2 (by rw [dd_small (by decide)]; rfl)
      rw [dd_big (by omega), show (pv t * 10 + dgt c) / 10 = pv t by omega, show (pv t * 10 + dgt c) % 10 = dgt c by omega, i, of_dgt hc]
theorem pv_take {s : List UInt8} {i : Nat} (h : i < s.length) : pv (s.take (i + 1)) = pv (s.take i) * 10 + dgt (s[i]!) := by
  rw [List.take_add_one, List.getElem?_eq_getElem h, getElem!_pos s i h]
  exact pv_snoc _ _
theorem pv_mono {s : List UInt8} (i : Nat) : pv (s.take i) ≤ pv s := by
  have : ∀ (r : List UInt8) (a : Nat), a ≤ r.foldl (fun a c => a * 10 + dgt c) a := by
    intro r
    induction r with
    | nil => intro a; exact Nat.le_refl _
    | cons c r ih => intro a; exact Nat.le_trans (by omega) (ih (a * 10 + dgt c))
  conv => rhs; rw [← List.take_append_drop i s]
  unfold pv
  rw [List.foldl_append]
  exact this _ _
/-- what a text's number is, and whether it has one -/
def pok (s : List UInt8) : Prop := dd (pv s) = s ∧ pv s < 340282366920938463463374607431768211456
instance (s : List UInt8) : Decidable (pok s) := inferInstanceAs (Decidable (_ ∧ _))
def pV (s : List UInt8) : Nat := if pok s then pv s else 0
def pE (s : List UInt8) : Int := if pok s then 0 else 4
theorem pok_dd {u : Nat} (h : u < 340282366920938463463374607431768211456) : pok (dd u) := by
  unfold pok
  rw [pv_dd]
  exact ⟨rfl, h⟩
theorem pok_isd {s : List UInt8} (h : pok s) : ∀ c ∈ s, isd c := by
  rw [← h.1]; exact dd_isd _
theorem pok_len {s : List UInt8} (h : pok s) : s.length ≤ 39 := by
  rw [← h.1]
  exact dd_len_le 39 _ (by decide) (Nat.lt_trans h.2 (by decide))
theorem pok_take {s : List UInt8} (h : pok s) (i : Nat) : pv (s.take i) < 340282366920938463463374607431768211456 := Nat.lt_of_le_of_lt (pv_mono i) h.2
/-- a text of eighteen digits more -/
theorem dd_text (x : Nat) (h : 18446744073709551616 ≤ x) : dd x = dd (x / 1000000000000000000) ++ (dd (1000000000000000000 + x % 1000000000000000000)).drop ((dd (1000000000000000000 + x % 1000000000000000000)).length - 18) ∧ (dd (1000000000000000000 + x % 1000000000000000000)).length = 19 := by
  have p : (10 : Nat) ^ 18 = 1000000000000000000 := rfl
  have hr : x % 1000000000000000000 < 10 ^ 18 := by rw [p]; exact Nat.mod_lt _ (by decide)
  have e1 := dd_pad 18 (x / 1000000000000000000) (x % 1000000000000000000) (by omega) hr
  have e2 := dd_pad 18 1 (x % 1000000000000000000) (by decide) hr
  rw [p] at e1 e2
  have e3 : x / 1000000000000000000 * 1000000000000000000 + x % 1000000000000000000 = x := Nat.div_add_mod' x _
  rw [e3] at e1
  rw [Nat.one_mul, dd_small (show 1 < 10 by decide)] at e2
  have hl : (dd (1000000000000000000 + x % 1000000000000000000)).length = 19 := by rw [e2]; simp [pad_len]
  refine ⟨?_, hl⟩
  rw [hl, e1, e2, show 19 - 18 = 1 from rfl]
  exact congrArg (_ ++ ·) (List.drop_left (l₁ := [UInt8.ofNat (48 + 1)])).symm
end Wide
end Go.Proofs.YtpdleggpmhlagaaDoor
/- append where there is no room: to whatever can be read, into what is new. -/
set_option linter.unusedSimpArgs false
set_option linter.unusedVariables false
set_option linter.unusedSectionVars false
set_option maxRecDepth 20000
namespace Go.J
open Go
section
variable {P : Program} {n : Nat} {w0 : World} {F : Fr} {m : Mem} {Rs : List Res} {Q : Exit → Act → World → Prop} {α : Type} [Inhabited α] {f : α → List Value} {sz : Nat}
theorem At.appendF {ops : Array Oper} {rest : List Oper} {d : Nat} {x y : Operand} {t tx e2 : TypeId} {ty : TypeId} {pos : String} {aft : Array Edge} {E : TypeId} {p p2 : Option Addr} {c ln ln2 c2 : Nat} {l l2 : List α}
    (hx : ev F x = some (.slice p ln c)) (hy : ev F y = some (.slice p2 ln2 c2)) (h1 : Rdb (HW w0 m Rs) f sz p c l) (hln : ln = l.length) (h2 : Rdb (HW w0 m Rs) f sz p2 c2 l2) (hl2 : ln2 = l2.length)
    (ht : P.underlying t = some (.slice E)) (ht2 : P.underlying tx = some (.slice e2)) (he : elemB P E sz = true) (hc : c < l.length + l2.length)
    (hsm : l.length + l2.length ≤ 34359738368) (hd : Nat.blt d n = true)
    (h : ∀ p' c', At n w0 ((d, .slice p' (l ++ l2).length c') :: F) m (.own f sz E p' c' (l ++ l2) :: Rs) (wpList P ops Q rest)) :
    At n w0 F m Rs (wpList P ops Q (⟨some d, .call ⟨.builtin .append, #[x, y], #[t, tx]⟩, ty, pos, aft, none⟩ :: rest)) := fun a w ha hw =>
  wpList_plain rfl fun K hK => by
    subst hln hl2
    have hf := h1.fl
    obtain ⟨i, z, hi, hz, hsz, hbt, hzs⟩ := elemB_spec he
    have hby : (l.length + l2.length) * i.bytes ≤ 140737488355328 := Nat.le_trans (Nat.mul_le_mul hsm hbt) (by omega)
    have h63 : l.length + l2.length ≤ maxLen := by simp only [maxLen]; omega
    have hsmall : ((l.length + l2.length : Nat) : Int) ≤ 9223372036854775807 := by omega
    have s1 := rdb_src (P := P) h1 hw ht
    have s2 := rdb_src (P := P) h2 hw ht2
    have hl1 := flatMap_length hf.len l
    have hl2 := flatMap_length hf.len l2
    have hll : (l ++ l2).length = l.length + l2.length := by simp
    have hold : (Builtin.firstCells i.size l.length (.slice p l.length c)).run P w.drew = .ok (l.flatMap f).toArray w.drew := by rw [hsz]; exact s1.cellsD
    have hr := run_append_grow_src (P := P) (ty := ty) (w := w) t tx E i z ht hi hz p l.length c (l.flatMap f) hold (.slice p2 l2.length c2) l2.length (l2.flatMap f) (by rw [hsz]; exact s2) hc hsmall (growslice_fits hc hby)
    have hge := grownCap_ge w (l.length + l2.length) c E
    have hcm : grownCap w (l.length + l2.length) c E ≤ maxLen := grownCap_le_maxLen w (l.length + l2.length) c E h63
    rw [← hll] at hr hge hcm
    unfold Oper.wp
    have hrun : ∀ v w', (Builtin.append_ #[t, tx] ty #[.slice p l.length c, .slice p2 l2.length c2]).run P w = .ok v w' → (execOp a.eval ⟨some d, .call ⟨.builtin .append, #[x, y], #[t, tx]⟩, ty, pos, aft, none⟩).run P w = .ok (.value v) w' := fun v w' hr => by
      rw [BigFrame.execOp_builtin]
      simp [BigFrame.builtin_append, ha.ev hx, ha.ev hy, hr]
    rw [hrun _ _ hr]
    refine hK _ _ (h _ _ _ _ (ha.put hd) (hw.add rfl rfl rfl (by simp) (fun k hk => heap_alloc_old w.drew _ hk) ⟨fun k => k = w.heap.size, .inr ⟨w.heap.size, 0, _, rfl, heap_alloc_new w.drew _, hge, hcm, ?_, fun j hj => ?_, fun _ => Iff.rfl⟩, fun k hk => by omega⟩))
    · simp only [Array.size_append, List.size_toArray, size_zeroCells, hzs, List.length_append, hl1, hl2, ← Nat.add_mul]
      rw [List.length_append] at hge
      rw [Nat.add_sub_cancel' hge, Nat.zero_add]
      exact Nat.le_refl _
    · rw [Nat.zero_add, List.flatMap_append, Array.getElem?_append_left (by
        rw [hll, Nat.add_mul] at hj
        simp only [List.size_toArray, List.length_append, hl1, hl2]; omega)]
      simp
theorem addr_add0 (a : Addr) : a.add 0 = a := by cases a; simp [Addr.add]
theorem subp0 (p : Option Addr) (c sz : Nat) : subp p c 0 sz = p := by
  unfold subp
  split
  · rfl
  · rw [Nat.zero_mul]; cases p <;> simp [addr_add0]
theorem Rdb.cut {C : World → Prop} {p : Option Addr} {c : Nat} {l : List α} (h : Rdb C f sz p c l) (hi : Nat) (h1 : hi ≤ l.length) : Rdb C f sz p hi (l.take hi) := by
  have := Rdb.subh h hi h1
  rw [subp0] at this
  exact ⟨this.fl, this.some, fun w hw => by rw [List.length_take]; omega, this.cell⟩
/-- a part from the front, with no room behind it -/
theorem run_slice3 {t e : TypeId} (ht : P.underlying t = some (.slice e)) (hs : sizeB P e = some sz) (p : Option Addr) (l c hi : Nat) (h2 : hi ≤ c) (k k' : IntKind) (w : World) :
    (Instr.sliceAt t (.slice p l c) none (some (.int k (hi : Int))) (some (.int k' (hi : Int)))).run P w = .ok (.slice p hi hi) w := by
  have hr : ∀ w, (underlying t).run P w = .ok (.slice e) w := fun w => by simp only [underlying, program, bind, Sem.bind, Sem.run, ht]; rfl
  have a2 : (0 : Int) ≤ (hi : Int) ∧ (hi : Int) ≤ (c : Int) := ⟨by omega, by omega⟩
  unfold Instr.sliceAt
  simp only [Sem.run_bind, hr, Result.andThen]
  unfold Instr.slice
  simp only [Sem.run_bind, hr, Result.andThen]
  have hb : (Instr.sliceBounds true l c none (some (.int k (hi : Int))) (some (.int k' (hi : Int)))).run P w = .ok (0, hi, hi) w := by
    unfold Instr.sliceBounds Instr.sliceBound
    simp [asIntOf, pure, Sem.run, bind, Sem.bind, h2]
  rw [hb]
  simp only [run_sizeOf hs, pure, Sem.run]
  have := subp0 p hi sz
  unfold subp at this
  simp only [Nat.sub_zero, this]
theorem pr_slice3 {C : World → Prop} {x y z : Operand} {t e : TypeId} {p : Option Addr} {l c hi : Nat} {k k' : IntKind} (hx : ev F x = some (.slice p l c)) (hz : ev F z = some (.int k (hi : Int))) (hy : ev F y = some (.int k' (hi : Int))) (ht : P.underlying t = some (.slice e)) (hs : sizeB P e = some sz) (hle : LeSz C sz c l) (h2 : hi ≤ l) :
    PR P n F C (.slice t x none (some z) (some y)) (.slice p hi hi) := fun _ _ _ _ _ a w ha hC => by
  simp only [execOp, ha.ev hx, Sem.run_bind, Option.map_none, Option.map_some, ha.ev hz, ha.ev hy]
  rw [run_slice3 ht hs p l c hi (Nat.le_trans h2 (hle w hC))]
  rfl
end
end Go.J
/- What one owns may be made to stay: for a call's argument, and for what comes back. -/
set_option linter.unusedSimpArgs false
set_option linter.unusedVariables false
set_option linter.unusedSectionVars false
set_option maxRecDepth 20000
namespace Go.J
open Go
section
variable {P : Program} {m : Mem} {Rs : List Res} {α : Type} [Inhabited α] {f : α → List Value} {sz : Nat}
theorem HW.freeze {w0 w : World} {E : TypeId} {p : Option Addr} {c : Nat} {l : List α} (hf : Fl f sz) (hw : HW w0 m (.own f sz E p c l :: Rs) w) : ∃ m', m.le m' ∧ Sl m' f sz p c l ∧ HW w0 m' Rs w := by
  have k := At.own_freeze (n := 0) (w0 := w0) (F := []) (m := m) (Rs := .own f sz E p c l :: Rs) (K := fun _ w => ∃ m', m.le m' ∧ Sl m' f sz p c l ∧ HW w0 m' Rs w) hf pk0
    (fun m' hm' sl => by
      unfold At
      intro a w1 _ hw1
      exact ⟨m', hm', sl, hw1⟩)
  unfold At at k
  exact k ⟨#[], []⟩ w ⟨rfl, rfl, fun _ _ h => by cases h⟩ hw
theorem Ct.freezeG {g : FuncId} {args : Array Value} {E : TypeId} {p : Option Addr} {c : Nat} {l : List α} {R : Value → Mem → List Res → Prop} (hf : Fl f sz) (h : ∀ m', m.le m' → Sl m' f sz p c l → Ct P g args m' Rs R) :
    Ct P g args m (.own f sz E p c l :: Rs) R := by
  unfold Ct at h ⊢
  intro w0 Rest w hw
  obtain ⟨m', hm', sl, hw'⟩ := HW.freeze hf hw
  exact (h m' hm' sl w0 Rest w hw').mono fun _ _ ⟨v, m2, B, h1, h2, h3, h4⟩ => ⟨v, m2, B, h1, Mem.le_trans hm' h2, h3, h4⟩
theorem Ct.slice {g : FuncId} {args : Array Value} {A B0 : List Res} {E : TypeId} {l : List α} {R : Value → Option Addr → Nat → Prop} (hf : Fl f sz) (h : Ct P g args m A (fun v m' B => ∃ p c, R v p c ∧ B = .own f sz E p c l :: B0)) :
    Ct P g args m A (fun v m' B => B = B0 ∧ ∃ p c, R v p c ∧ Sl m' f sz p c l) := by
  unfold Ct at h ⊢
  intro w0 Rest w hw
  refine (h w0 Rest w hw).mono fun _ _ ⟨v, m2, B, h1, h2, ⟨p, c, h3, hB⟩, h4⟩ => ?_
  subst hB
  obtain ⟨m3, hm3, sl, hw3⟩ := HW.freeze hf h4
  exact ⟨v, m3, B0, h1, Mem.le_trans h2 hm3, ⟨rfl, p, c, h3, sl⟩, hw3⟩
/-- a slice's literal, that stays -/
theorem At.litF {n : Nat} {w0 : World} {F : Fr} {Q : Exit → Act → World → Prop} {ops : Array Oper} {rest : List Oper} {d : Nat} {t E : TypeId} {len : Nat} {xs : List (Nat × Operand)} {ps : List (Nat × Value)} {ty : TypeId} {pos : String} {aft : Array Edge}
    (f : α → List Value) (l : List α) (hf : Fl f sz) (ht : P.underlying t = some (.slice E)) (he : elemB P E sz = true) (hx : evps F xs = some ps) (hsm : Nat.ble (len * sz) 16777216 = true) (hl : l.length = len)
    (hb : litL P E sz len ps = flat (l.flatMap f)) (hd : Nat.blt d n = true)
    (h : ∀ b m', m.le m' → Sl m' f sz (some ⟨b, 0, none⟩) len l → At n w0 ((d, .slice (some ⟨b, 0, none⟩) len len) :: F) m' Rs (wpList P ops Q rest)) :
    At n w0 F m Rs (wpList P ops Q (⟨some d, .buildSlice t len xs.toArray, ty, pos, aft, none⟩ :: rest)) :=
  At.lit f l hf ht he hx hsm hl hb hd (fun b => At.own_freeze hf pk0 fun m' hm' sl => h b m' hm' sl)
end
end Go.J
/- A number's text, as both say it. -/
set_option linter.unusedSimpArgs false
set_option linter.unusedVariables false
set_option linter.unusedSectionVars false
set_option maxRecDepth 20000
set_option maxHeartbeats 4000000
namespace Go.Proofs.YtpdleggpmhlagaaDoor
open Go Go.J
attribute [local irreducible] At AtQ AtM AtM1 PR Ct Pu Rd Res.blk Res.own Res.ex RVs RV
namespace Wide
/-- the library's table lies in what stays -/
def Tab (m : Mem) : Prop := ∀ w : World, (∀ k o, m k = some o → w.heap[k]? = some o) → Lib.TabIs Tryd.prog w (Tryd.prog.globals[4]!).name .u64 Lib.pow10Tab
theorem Tab.mono {m m' : Mem} (h : Tab m) (hm : m.le m') : Tab m' := fun w hw => h w fun k o hk => hw k o (hm k o hk)
theorem flat_byt (l : List UInt8) : (l.map bI).flatMap fb = Lib.byteCells l := by
  unfold Lib.byteCells
  rw [List.flatMap_map]
  induction l with
  | nil => rfl
  | cons a l ih => simp only [List.flatMap_cons, List.map_cons, ih]; rfl
theorem append_i {m : Mem} (ht : Tab m) (u : Nat) (hu : u < 18446744073709551616) :
    Ct Tryd.prog 54 #[.slice none 0 0, .int .u64 (u : Int), .int .i64 10] m [] (fun v m' B => B = [] ∧ ∃ p c, v = .slice p ((dd u).map bI).length c ∧ Sl m' fb 1 p c ((dd u).map bI)) := by
  have h : Ct Tryd.prog 54 #[.slice none 0 0, .int .u64 (u : Int), .int .i64 10] m [] (fun v m' B => ∃ p c, v = .slice p ((dd u).map bI).length c ∧ m = m' ∧ B = [.own fb 1 5 p c ((dd u).map bI)]) :=
    Ct.of_row inferInstance fun w hw => (Any.internal_strconv_AppendUint_10 laysmn288 w.heap.size 0 u hu (.slice none 0 0) [] w (World.ownsRow_nil _ _ _ _) (Nat.le_refl _) (by decide) (ht w hw)).mono fun e w' ⟨v', he, hown, hb, _⟩ => ⟨v', he, by
      rw [Nat.zero_add, List.nil_append] at hown
      rw [flat_byt, List.length_map]
      exact hown, hb⟩
  exact Ct.slice inferInstance (h.mono fun v m' B _ ⟨p, c, h1, _, h3⟩ => ⟨p, c, h1, h3⟩)
theorem append_u {m : Mem} (ht : Tab m) (u : Nat) (hu : u < 18446744073709551616) :
    Ct Tryd.prog 49 #[.slice none 0 0, .int .u64 (u : Int), .int .i64 10] m [] (fun v m' B => B = [] ∧ ∃ p c, v = .slice p ((dd u).map bI).length c ∧ Sl m' fb 1 p c ((dd u).map bI)) := by
  refine Ct.enterV (by rfl) Tryd.func49 rfl Tryd.ntmps49 rfl (fun w0 Rest => ?_)
  (repeat' (first | refine zss ?_ | ((first | (with_reducible first | apply At.val | apply AtQ.val)); (exact zprA); exact rfl) | refine zsM ?_ | ((with_reducible first | apply At.c1 | apply At.c0); exact rfl; exact rfl; exact append_i ht u hu; exact ztk; kernel_rfl; rintro v' m' B' hm' ⟨rfl, p2, c2, rfl, sl1⟩; (try replace sl1 := sl1.mono hm'); (try (have hq0 : hm' = Mem.le_refl _ := rfl; clear hq0 hm'))) | (refine zsp ?_ ?_ <;> (intro hc; (try simp only [zhcs, reduceCtorEq] at hc); (try (exfalso; first | contradiction | omega | exact absurd rfl hc | exact absurd (by decide) hc))))))
  all_goals ((with_reducible apply At.retB1 (B := [])); exact rfl; exact rfl; exact zml; exact zkp; exact ⟨rfl, p2, c2, rfl, sl1⟩)
theorem text_ (x : Nat) : x < 340282366920938463463374607431768211456 → ∀ {m : Mem}, Tab m → Rd Tryd.prog 33 #[wv x] m [] (.string (str (dd x))) := by
  induction x using Nat.strongRecOn with
  | _ x ih =>
    intro hx m ht
    have hdl : ∀ u, u < 340282366920938463463374607431768211456 → (dd u).length ≤ 39 := fun u hu => dd_len_le 39 u (by decide) (Nat.lt_trans hu (by decide))
    unfold Rd
    by_cases h : x < 18446744073709551616
    · have k := append_u ht x h
      have hw : wv x = .agg #[.int .u64 0, .int .u64 (x : Int)] := (wd_small h).symm
      rw [hw]
      refine Ct.forget (R := fun v m' B => v = .string (str (dd x)) ∧ B = []) ?_ (fun v m' B hm hr => ⟨hr.1, rfl, hr.2⟩)
      refine Ct.enterV (by rfl) Tryd.func33 rfl Tryd.ntmps33 rfl (fun w0 Rest => ?_)
      (repeat' (first | refine zss ?_ | ((first | (with_reducible first | apply At.val | apply AtQ.val)); (exact zprA); exact rfl) | refine zsM ?_ | ((with_reducible first | apply At.c1 | apply At.c0); exact rfl; exact rfl; exact k; exact ztk; kernel_rfl; rintro v' m' B' hm' ⟨rfl, p2, c2, rfl, sl1⟩; (try replace sl1 := sl1.mono hm'); (try (have hq0 : hm' = Mem.le_refl _ := rfl; clear hq0 hm'))) | ((with_reducible apply At.box (d := 1)); exact rfl; exact rfl; exact rfl; intro b1) | ((with_reducible apply At.alloc (d := 3)); exact rfl; exact rfl; intro b3) | (refine zsp ?_ ?_ <;> (intro hc; (try simp only [zhcs, reduceCtorEq] at hc); (try (exfalso; first | omega | contradiction | omega | exact absurd rfl hc | exact absurd (by decide) hc))))))
      all_goals ((with_reducible apply At.retB1 (B := [])); exact rfl; exact rfl; exact zml; exact zkp; exact ⟨by rw [u8_map], rfl⟩)
    · obtain ⟨e, hl⟩ := dd_text x (by omega)
      have kd : Pu Tryd.prog 50 #[wv x, .int .u64 1000000000000000000] (.tuple #[wv (x / 1000000000000000000), .int .u64 ((x % 1000000000000000000 : Nat) : Int), .int .i64 0]) := div x 1000000000000000000 hx (by decide) (by decide)
      have hf : x / 1000000000000000000 < x := by omega
      have hfb : x / 1000000000000000000 < 340282366920938463463374607431768211456 := by omega
      have i := fun {m' : Mem} (hm : m.le m') => ih _ hf hfb (ht.mono hm)
      have hfl := hdl _ hfb
      obtain ⟨r, hr⟩ : ∃ r, r = x % 1000000000000000000 := ⟨_, rfl⟩
      have hrl : r < 1000000000000000000 := by omega
      have ha : IntKind.wrap .u64 (1000000000000000000 + (r : Int)) = ((1000000000000000000 + r : Nat) : Int) := by rw [IntKind.wrap_u64]; omega
      rw [← hr] at e hl kd
      have k := fun {m' : Mem} (hm : m.le m') => append_u (ht.mono hm) (1000000000000000000 + r) (by omega)
      rw [hl, show 19 - 18 = 1 from rfl] at e
      have hL : ((dd (1000000000000000000 + r)).map bI).length = 19 := by rw [List.length_map, hl]
      have hu : (((dd (1000000000000000000 + r)).map bI).drop 1).map u8 = (dd (1000000000000000000 + r)).drop 1 := by rw [← List.map_drop, u8_map]
      rw [← hu] at e
      rw [e]
      generalize (dd (1000000000000000000 + r)).map bI = L at k hL e
      generalize x / 1000000000000000000 = q at *
      have hs : IntKind.wrap .i64 (((L.length : Nat) : Int) - 18) = ((1 : Nat) : Int) := by rw [hL]; rfl
      have hadd : (dd q).length + ((L.drop 1).map u8).length ≤ 9223372036854775807 := by rw [List.length_map, List.length_drop]; omega
      refine Ct.forget (R := fun v m' B => v = .string (str (dd q ++ (L.drop 1).map u8)) ∧ B = []) ?_ (fun v m' B hm hr => ⟨hr.1, rfl, hr.2⟩)
      clear e hr hf hfb hrl hu hdl ih
      refine Ct.enterV (by rfl) Tryd.func33 rfl Tryd.ntmps33 rfl (fun w0 Rest => ?_)
      (repeat' (first | refine zss ?_ | ((first | (with_reducible first | apply At.val | apply AtQ.val)); (first | exact pr_add (by rfl) (by rfl) ha | exact pr_sub (by rfl) (by rfl) hs | exact pr_stradd (by rfl) (by rfl) hadd | exact pr_bytes_str (l := L.drop 1) (by rfl) (by rfl) (by rfl) (by rfl) (Rdb.subl (Sl.rdb sl1) 1 (by omega)) (by rw [List.length_drop]) | exact zprA); exact rfl) | refine zsM ?_ | ((with_reducible first | apply AtM1.callp | apply AtQ.callp | apply At.callp); kernel_rfl; exact rfl; exact rfl; exact kd) | ((with_reducible first | apply At.c1 | apply At.c0); exact rfl; exact rfl; exact k zml; exact ztk; kernel_rfl; rintro v' m' B' hm' ⟨rfl, p2, c2, rfl, sl1⟩; (try replace sl1 := sl1.mono hm'); (try (have hq0 : hm' = Mem.le_refl _ := rfl; clear hq0 hm'))) | ((with_reducible first | apply AtM1.cr | apply AtQ.cr | apply At.cr); exact rfl; exact rfl; exact fun _ hmm => i zml; exact ztk; kernel_rfl) | fail | ((with_reducible apply At.box (d := 1)); exact rfl; exact rfl; exact rfl; intro b1) | ((with_reducible apply At.alloc (d := 3)); exact rfl; exact rfl; intro b3) | (refine zsp ?_ ?_ <;> (intro hc; (try simp only [zhcs, reduceCtorEq] at hc); (try (exfalso; first | omega | contradiction | omega | exact absurd rfl hc | exact absurd (by decide) hc))))))
      all_goals ((with_reducible apply At.retB1 (B := [])); exact rfl; exact rfl; exact zml; exact zkp; exact ⟨rfl, rfl⟩)
end Wide
end Go.Proofs.YtpdleggpmhlagaaDoor
/- Ratios: Text. -/
set_option linter.unusedSimpArgs false
set_option linter.unusedVariables false
set_option linter.unusedSectionVars false
set_option maxRecDepth 20000
set_option maxHeartbeats 4000000
namespace Go.Proofs.YtpdleggpmhlagaaDoor
open Go Go.J
attribute [local irreducible] At AtQ AtM AtM1 PR Ct Pu Rd Res.blk Res.own Res.ex RVs RV
namespace Ra
open Wide
theorem text {m : Mem} (hT : Tab m) (n d : Nat) (hn : n < 340282366920938463463374607431768211456) (hd : d < 340282366920938463463374607431768211456) : Rd Tryd.prog 18 #[rv n d] m [] (.string (str (dd n ++ [47] ++ dd d))) := by
  unfold Rd
  have k1 := fun (m' : Mem) (hm' : m.le m') => text_ n hn (hT.mono hm')
  have k2 := fun (m' : Mem) (hm' : m.le m') => text_ d hd (hT.mono hm')
  have n1 := dd_len_le 39 n (by decide) (Nat.lt_trans hn (by decide))
  have n2 := dd_len_le 39 d (by decide) (Nat.lt_trans hd (by decide))
  generalize dd n = A at k1 n1 ⊢
  generalize dd d = B at k2 n2 ⊢
  have a1 : A.length + ([47] : List UInt8).length ≤ 9223372036854775807 := by simp; omega
  have a2 : (A ++ [47]).length + B.length ≤ 9223372036854775807 := by simp; omega
  refine Ct.enterV (by rfl) Tryd.func18 rfl Tryd.ntmps18 rfl (fun w0 Rest => ?_)
  (repeat' (first | refine zss ?_ | ((first | (with_reducible first | apply At.val | apply AtQ.val)); (first | exact pr_stradd (by rfl) (by rfl) a1 | exact pr_stradd (by rfl) (by rfl) a2 | exact zprA); exact rfl) | refine zs0 ?_ | ((with_reducible first | apply AtM1.cr | apply AtQ.cr | apply At.cr); exact rfl; exact rfl; exact fun _ hmm => k1 _ hmm; exact ztk; kernel_rfl) | ((with_reducible first | apply AtM1.cr | apply AtQ.cr | apply At.cr); exact rfl; exact rfl; exact fun _ hmm => k2 _ hmm; exact ztk; kernel_rfl) | fail | ((with_reducible apply At.box (d := 1)); exact rfl; exact rfl; exact rfl; intro b1) | (refine zsp ?_ ?_ <;> (intro hc; (try simp only [zhcs, reduceCtorEq] at hc); (try (exfalso; first | contradiction | omega | exact absurd rfl hc | exact absurd (by decide) hc))))))
  all_goals ((with_reducible apply At.retB1 (B := [])); exact rfl; exact rfl; exact zml; exact zkp; exact ⟨rfl, rfl, rfl⟩)
end Ra
end Go.Proofs.YtpdleggpmhlagaaDoor
/- Ratios, the document's: Gcd and Floor out of its Whole. -/
set_option linter.unusedSimpArgs false
set_option linter.unusedVariables false
set_option linter.unusedSectionVars false
set_option maxRecDepth 20000
set_option maxHeartbeats 4000000
namespace Go.Proofs.YtpdleggpmhlagaaDoor
open Go Go.J
attribute [local irreducible] At AtQ AtM AtM1 PR Ct Pu Rd Res.blk Res.own Res.ex RVs RV
namespace Ra
open Wide
/-- what the document's Whole is to tell -/
def WholeR : Prop := ∀ a d : Nat, a < 340282366920938463463374607431768211456 → d < 340282366920938463463374607431768211456 → Pu Tryd.prog 26 #[wv a, wv d] (.tuple #[wv (a / d), wv (a % d)])
theorem gcd_r (hW : WholeR) (x y : Nat) (hx : x < 340282366920938463463374607431768211456) (hy : y < 340282366920938463463374607431768211456) : Pu Tryd.prog 15 #[wv x, wv y] (wv (Nat.gcd x y)) := Pu.intro fun m => by
  refine Ct.enterV (by rfl) Tryd.func15 rfl Tryd.ntmps15 rfl (fun w0 Rest => ?_)
  (repeat' (first | refine zss ?_ | refine zs0 ?_ | ((with_reducible apply At.box (d := 2)); exact rfl; exact rfl; exact rfl; intro b2) | ((with_reducible apply At.box (d := 3)); exact rfl; exact rfl; exact rfl; intro b3) | ((with_reducible apply At.alloc (d := 4)); exact rfl; exact rfl; intro b4) | ((with_reducible apply At.alloc (d := 5)); exact rfl; exact rfl; intro b5) | ((with_reducible apply At.alloc (d := 6)); exact rfl; exact rfl; intro b6) | (refine zsp ?_ ?_ <;> (intro hc; (try simp only [zhcs, reduceCtorEq] at hc); (try (exfalso; first | contradiction | omega | exact absurd rfl hc | exact absurd (by decide) hc))))))
  (refine At.loopk (σ := GS) [2, 3, 4] (fun s F0 => F0) (fun s => m) (fun s => .blk b2 24 (wd s.a) :: .blk b3 24 (wd s.b) :: .blk b4 24 (wd 0) :: Rest) (fun s => s.a < 340282366920938463463374607431768211456 ∧ s.b < 340282366920938463463374607431768211456 ∧ Nat.gcd s.a s.b = Nat.gcd x y) (fun s => s.b) ⟨x, y⟩ (by rfl) ?_ zsubs zml zente ?_)
  · exact ⟨hx, hy, rfl⟩
  rintro ⟨a, b⟩ ⟨g1, g2, g3⟩
  dsimp only at g1 g2 g3 ⊢
  by_cases hb : b = 0
  · subst hb
    rw [Nat.gcd_zero_right] at g3
    subst g3
    (repeat' (first | refine zss ?_ | ((first | (with_reducible first | apply At.val | apply AtQ.val)); (exact pr_wne (a := 0) (b := 0) (by rfl) (by rfl)); exact rfl) | refine zs0 ?_ | ((with_reducible apply At.box (d := 2)); exact rfl; exact rfl; exact rfl; intro b2) | ((with_reducible apply At.box (d := 3)); exact rfl; exact rfl; exact rfl; intro b3) | ((with_reducible apply At.alloc (d := 4)); exact rfl; exact rfl; intro b4) | ((with_reducible apply At.alloc (d := 5)); exact rfl; exact rfl; intro b5) | ((with_reducible apply At.alloc (d := 6)); exact rfl; exact rfl; intro b6) | (refine zsp ?_ ?_ <;> (intro hc; (try simp only [zhcs, reduceCtorEq] at hc); (try (exfalso; first | contradiction | omega | exact absurd rfl hc | exact absurd (by decide) hc))))))
    all_goals ((with_reducible apply At.retV (B := [])); exact rfl; (repeat' (first | exact RVs.nil | (with_reducible apply RVs.cons) | exact rv_tmp (by rfl) | exact rv_cellN (by rfl) (by repeat constructor) (by rfl) (by rfl) (by rfl) | exact rv_cell1 (by rfl) (by repeat constructor) (by rfl) (by rfl))); exact zml; exact zkp; exact ⟨rfl, rfl, rfl⟩)
  · have k1 := hW a b g1 g2
    have e : (!decide (b = 0)) = true := by rw [decide_eq_false hb]; rfl
    have pw : ∀ {n' : Nat} {F : Fr} {C : World → Prop} {x y : Operand} {u : TypeId}, ev F x = some (wv b) → ev F y = some (wv 0) → PR Tryd.prog n' F C (.binOp .neq 24 x y u) (.bool true) := fun hx hy => by rw [← e]; exact pr_wne hx hy
    have hm := Nat.mod_lt a (Nat.pos_of_ne_zero hb)
    have hg : Nat.gcd b (a % b) = Nat.gcd a b := by rw [Nat.gcd_comm b, ← Nat.gcd_rec, Nat.gcd_comm]
    generalize a % b = c at k1 hm hg
    generalize a / b = q at k1
    (repeat' (first | ((with_reducible apply At.mixedB (id := 3) 2 4 (.q 0 (.q 1 (.l 2 (.x 3 .done))))); exact rfl; exact (by repeat constructor); exact rfl; kernel_rfl; kernel_rfl; kernel_rfl) | refine zsx ?_ | refine zss ?_ | ((with_reducible apply AtM.bo); exact rfl; exact rfl; exact rfl) | ((first | (with_reducible first | apply At.val | apply AtQ.val) | ((with_reducible first | apply AtM1.valz | apply AtM1.val); exact rfl) | ((with_reducible apply AtM1.val); exact rfl)); (exact pw (by rfl) (by rfl)); exact rfl) | refine zs0 ?_ | refine zx0 ?_ | ((with_reducible first | apply AtM1.callp | apply AtQ.callp | apply At.callp); kernel_rfl; exact rfl; exact rfl; exact k1) | ((with_reducible apply At.box (d := 2)); exact rfl; exact rfl; exact rfl; intro b2) | ((with_reducible apply At.box (d := 3)); exact rfl; exact rfl; exact rfl; intro b3) | ((with_reducible apply At.alloc (d := 4)); exact rfl; exact rfl; intro b4) | ((with_reducible apply At.alloc (d := 5)); exact rfl; exact rfl; intro b5) | ((with_reducible apply At.alloc (d := 6)); exact rfl; exact rfl; intro b6) | (refine zsp ?_ ?_ <;> (intro hc; (try simp only [zhcs, reduceCtorEq] at hc); (try (exfalso; first | contradiction | omega | exact absurd rfl hc | exact absurd (by decide) hc))))))
    all_goals ((with_reducible refine At.reachk ((⟨b, c⟩ : GS)) ?_ ?_ ?_ ?_); exact zsubs; exact zml; exact zente; exact ⟨⟨g2, Nat.lt_trans hm g2, hg.trans g3⟩, hm⟩)
theorem floor_r (hW : WholeR) (n d : Nat) (hn : n < 340282366920938463463374607431768211456) (hd : d < 340282366920938463463374607431768211456) : Pu Tryd.prog 12 #[rv n d] (.tuple #[wv (flo n d).1, .int .i64 (flo n d).2]) := Pu.intro fun m => by
  unfold flo
  by_cases h : d = 0
  · rw [if_pos h]
    subst h
    refine Ct.enterV (by rfl) Tryd.func12 rfl Tryd.ntmps12 rfl (fun w0 Rest => ?_)
    (repeat' (first | refine zss ?_ | ((first | (with_reducible first | apply At.val | apply AtQ.val)); (exact pr_weq (a := 0) (b := 0) (by rfl) (by rfl)); exact rfl) | refine zs0 ?_ | ((with_reducible apply At.box (d := 1)); exact rfl; exact rfl; exact rfl; intro b1) | ((with_reducible apply At.alloc (d := 2)); exact rfl; exact rfl; intro b2) | ((with_reducible apply At.alloc (d := 4)); exact rfl; exact rfl; intro b4) | ((with_reducible apply At.alloc (d := 5)); exact rfl; exact rfl; intro b5) | (refine zsp ?_ ?_ <;> (intro hc; (try simp only [zhcs, reduceCtorEq] at hc); (try (exfalso; first | contradiction | omega | exact absurd rfl hc | exact absurd (by decide) hc))))))
    all_goals ((with_reducible apply At.retV (B := [])); exact rfl; (repeat' (first | exact RVs.nil | (with_reducible apply RVs.cons) | exact rv_tmp (by rfl) | exact rv_cellN (by rfl) (by repeat constructor) (by rfl) (by rfl) (by rfl) | exact rv_cell1 (by rfl) (by repeat constructor) (by rfl) (by rfl))); exact zml; exact zkp; exact ⟨rfl, rfl, rfl⟩)
  · rw [if_neg h]
    have k1 := hW n d hn hd
    have e : decide (d = 0) = false := decide_eq_false h
    have pw : ∀ {n' : Nat} {F : Fr} {C : World → Prop} {x y : Operand} {u : TypeId}, ev F x = some (wv d) → ev F y = some (wv 0) → PR Tryd.prog n' F C (.binOp .eql 24 x y u) (.bool false) := fun hx hy => by rw [← e]; exact pr_weq hx hy
    generalize n % d = c at k1
    generalize n / d = q at k1 ⊢
    refine Ct.enterV (by rfl) Tryd.func12 rfl Tryd.ntmps12 rfl (fun w0 Rest => ?_)
    (repeat' (first | refine zss ?_ | ((first | (with_reducible first | apply At.val | apply AtQ.val)); (exact pw (by rfl) (by rfl)); exact rfl) | refine zs0 ?_ | ((with_reducible first | apply AtM1.callp | apply AtQ.callp | apply At.callp); kernel_rfl; exact rfl; exact rfl; exact k1) | ((with_reducible apply At.box (d := 1)); exact rfl; exact rfl; exact rfl; intro b1) | ((with_reducible apply At.alloc (d := 2)); exact rfl; exact rfl; intro b2) | ((with_reducible apply At.alloc (d := 4)); exact rfl; exact rfl; intro b4) | ((with_reducible apply At.alloc (d := 5)); exact rfl; exact rfl; intro b5) | (refine zsp ?_ ?_ <;> (intro hc; (try simp only [zhcs, reduceCtorEq] at hc); (try (exfalso; first | contradiction | omega | exact absurd rfl hc | exact absurd (by decide) hc))))))
    all_goals ((with_reducible apply At.retV (B := [])); exact rfl; (repeat' (first | exact RVs.nil | (with_reducible apply RVs.cons) | exact rv_tmp (by rfl) | exact rv_cellN (by rfl) (by repeat constructor) (by rfl) (by rfl) (by rfl) | exact rv_cell1 (by rfl) (by repeat constructor) (by rfl) (by rfl))); exact zml; exact zkp; exact ⟨rfl, rfl, rfl⟩)
end Ra
end Go.Proofs.YtpdleggpmhlagaaDoor

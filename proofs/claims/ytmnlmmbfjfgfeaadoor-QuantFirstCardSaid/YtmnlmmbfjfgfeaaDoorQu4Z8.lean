/- Part 8 of what the law's proof needs: rules of the walk, contracts of functions, plain laws. No condition. -/
import Derived.Test.YtmnlmmbfjfgfeaaDoorQu4Z7
import Derived.Test.YtmnlmmbfjfgfeaaDoorRows
import Derived.Lib.ItoaNum
import Derived.Lib.LaidTab
import Derived.Lib.FrozenHead
/- How often a number goes into another one, and one number less another one, as both say it. -/
set_option linter.unusedSimpArgs false
set_option linter.unusedVariables false
set_option linter.unusedSectionVars false
set_option maxRecDepth 20000
set_option maxHeartbeats 4000000
namespace Go.Proofs.YtmnlmmbfjfgfeaaDoor
open Go Go.J
attribute [local irreducible] At AtQ AtM AtM1 PR Ct Pu Rd Res.blk Res.own Res.ex RVs RV
namespace Wide
theorem dv_arith (x n : Nat) (hn : 0 < n) : x / n / 18446744073709551616 = x / 18446744073709551616 / n ∧ x / n % 18446744073709551616 = (x / 18446744073709551616 % n * 18446744073709551616 + x % 18446744073709551616) / n ∧ x % n = (x / 18446744073709551616 % n * 18446744073709551616 + x % 18446744073709551616) % n := by
  obtain ⟨H, hH⟩ : ∃ H, H = x / 18446744073709551616 := ⟨_, rfl⟩
  obtain ⟨L, hL⟩ : ∃ L, L = x % 18446744073709551616 := ⟨_, rfl⟩
  obtain ⟨V, hV⟩ : ∃ V, V = H % n * 18446744073709551616 + L := ⟨_, rfl⟩
  have hr := Nat.mod_lt H hn
  have hd := Nat.div_add_mod H n
  have e : x = n * (H / n * 18446744073709551616) + V := by rw [← Nat.mul_assoc]; omega
  have hVn : V / n < 18446744073709551616 := by rw [Nat.div_lt_iff_lt_mul hn, Nat.mul_comm]; omega
  have e1 : x / n = H / n * 18446744073709551616 + V / n := by rw [e, Nat.mul_add_div hn]
  have e2 : x % n = V % n := by rw [e, Nat.mul_add_mod]
  rw [← hH, ← hL, ← hV, e1, e2]
  generalize V / n = t at *
  generalize H / n = s at *
  exact ⟨by omega, by omega, rfl⟩
/-! ### the document's -/
theorem bw_dig (z y s : Nat) : (dg (z + y) s : Int) - (dg y s : Int) - (cy z y s : Int) = (dg z s : Int) - 256 * (cy z y (s + 1) : Int) := by
  have h1 := cy_succ z y s
  have h2 := cy_dig z y s
  omega
theorem sub_r (x y : Nat) (hx : x < 340282366920938463463374607431768211456) (hy : y < 340282366920938463463374607431768211456) : Pu Tryd.prog 51 #[wv x, wv y] (.tuple #[wv (x - y), .int .i64 (dE x y)]) := Pu.intro fun m => by
  have kl := less_r x y hx hy
  by_cases h : x < y
  · have e1 : x - y = 0 := by omega
    have e2 : dE x y = 1 := if_pos h
    rw [decide_eq_true h] at kl
    rw [e1, e2]
    refine Ct.enterV (by rfl) Tryd.func51 rfl Tryd.ntmps51 rfl (fun w0 Rest => ?_)
    (repeat' (first | refine zss ?_ | ((first | (with_reducible first | apply At.val | apply AtQ.val)); (exact zprA); exact rfl) | refine zs0 ?_ | ((with_reducible first | apply AtM1.callp | apply AtQ.callp | apply At.callp); kernel_rfl; exact rfl; exact rfl; exact kl) | ((with_reducible apply At.box (d := 2)); exact rfl; exact rfl; exact rfl; intro b2) | ((with_reducible apply At.box (d := 3)); exact rfl; exact rfl; exact rfl; intro b3) | ((with_reducible apply At.alloc (d := 4)); exact rfl; exact rfl; intro b4) | ((with_reducible apply At.alloc (d := 6)); exact rfl; exact rfl; intro b6) | ((with_reducible apply At.alloc (d := 7)); exact rfl; exact rfl; intro b7) | (refine zsp ?_ ?_ <;> (intro hc; (try simp only [zhcs, reduceCtorEq] at hc); (try (exfalso; first | (first | omega | exact absurd rfl hc) | contradiction | omega | exact absurd rfl hc | exact absurd (by decide) hc))))))
    all_goals ((with_reducible apply At.retV (B := [])); exact rfl; (repeat' (first | exact RVs.nil | (with_reducible apply RVs.cons) | exact rv_tmp (by rfl) | exact rv_cellN (by rfl) (by repeat constructor) (by rfl) (by rfl) (by rfl) | exact rv_cell1 (by rfl) (by repeat constructor) (by rfl) (by rfl) | exact rv_cellA (by rfl) (by repeat constructor) (by rfl) (by rfl) zlq)); exact zml; exact zkp; exact ⟨rfl, rfl, rfl⟩)
  · have e2 : dE x y = 0 := if_neg h
    rw [decide_eq_false h] at kl
    obtain ⟨z, rfl⟩ : ∃ z, x = z + y := ⟨x - y, by omega⟩
    rw [Nat.add_sub_cancel, e2]
    have hz : z < 340282366920938463463374607431768211456 := by omega
    have hlx := tab_len (dg (z + y))
    have hly := tab_len (dg y)
    have hmx := tabm_len (dg (z + y))
    have hmy := tabm_len (dg y)
    refine Ct.enterV (by rfl) Tryd.func51 rfl Tryd.ntmps51 rfl (fun w0 Rest => ?_)
    (repeat' (first | ((with_reducible apply At.mixed (id := 3) 8 (.q 0 (.q 1 (.q 2 (.q 3 (.b 4 5 (.l 5 (.x 6 (.x 7 .done))) (.l 4 (.x 6 (.x 7 .done))))))))); exact rfl; kernel_rfl; kernel_rfl; kernel_rfl) | refine zsx ?_ | refine zss ?_ | ((with_reducible apply AtM.bo); exact rfl; exact rfl; exact rfl) | ((first | (with_reducible first | apply At.val | apply AtQ.val) | ((with_reducible first | apply AtM1.valz | apply AtM1.val); exact rfl) | ((with_reducible apply AtM1.val); exact rfl)); (exact zprA); exact rfl) | refine zs0 ?_ | refine zx0 ?_ | ((with_reducible first | apply AtM1.callp | apply AtQ.callp | apply At.callp); kernel_rfl; exact rfl; exact rfl; exact kl) | ((with_reducible first | apply AtM1.callp | apply AtQ.callp | apply At.callp); kernel_rfl; exact rfl; exact rfl; exact bytes (z + y) hx) | ((with_reducible first | apply AtM1.callp | apply AtQ.callp | apply At.callp); kernel_rfl; exact rfl; exact rfl; exact bytes y hy) | ((with_reducible apply At.storeA); exact rfl; exact rfl; exact rfl; exact all_gi _; exact (by repeat constructor); (first | exact rfl | (first | omega | (simp only [lns] <;> omega))); (first | exact rfl | (first | omega | (simp only [lns] <;> omega)))) | ((with_reducible apply At.box (d := 2)); exact rfl; exact rfl; exact rfl; intro b2) | ((with_reducible apply At.box (d := 3)); exact rfl; exact rfl; exact rfl; intro b3) | ((with_reducible apply At.alloc (d := 4)); exact rfl; exact rfl; intro b4) | ((with_reducible apply At.alloc (d := 6)); exact rfl; exact rfl; intro b6) | ((with_reducible apply At.alloc (d := 7)); exact rfl; exact rfl; intro b7) | (refine zsp ?_ ?_ <;> (intro hc; (try simp only [zhcs, reduceCtorEq] at hc); (try (exfalso; first | (first | omega | exact absurd hc (by decide)) | contradiction | omega | exact absurd rfl hc | exact absurd (by decide) hc))))))
    all_goals (refine At.loopk (σ := AS) [4, 6, 7] (fun s F0 => (19, .int .i64 (s.i : Int)) :: (8, .int .i64 (s.c : Int)) :: F0) (fun s => m) (fun s => .blk b7 77 ((tab (dg y)).map gi) :: .blk b6 77 ((tab (fun j => if j < s.i then dg z j else dg (z + y) j)).map gi) :: .blk b4 25 (wd 0) :: Rest) (fun s => s.i ≤ 16 ∧ s.c = cy z y s.i) (fun s => 16 - s.i) ⟨0, 0⟩ (by rfl) ?_ zsubs zml zente ?_)
    all_goals try exact ⟨Nat.zero_le _, by simp [cy, Nat.mod_one]⟩
    all_goals
      rintro ⟨s, c⟩ ⟨hs, hc0⟩
      dsimp only at hs hc0 ⊢
      have hc2 := cy_lt z y s
      have hc3 := cy_lt z y (s + 1)
      rw [← hc0] at hc2
      by_cases h : s < 16
      · have h1 := dg_lt (z + y) s
        have h2 := dg_lt y s
        have h3 := dg_lt z s
        have hb := bw_dig z y s
        rw [← hc0] at hb
        have hl := tab_len (fun j => if j < s then dg z j else dg (z + y) j)
        have e : (tab (fun j => if j < s then dg z j else dg (z + y) j)).set s ((dg z s : Nat) : Int) = tab (fun j => if j < s + 1 then dg z j else dg (z + y) j) := by
          rw [tab_set _ _ h]
          apply tab_congr
          intro j hj
          by_cases e1 : j = s
          · subst e1; rw [if_pos rfl, if_pos (by omega)]
          · rw [if_neg e1]
            by_cases e2 : j < s
            · rw [if_pos e2, if_pos (by omega)]
            · rw [if_neg e2, if_neg (by omega)]
        obtain ⟨c', hc'⟩ : ∃ c', c' = cy z y (s + 1) := ⟨_, rfl⟩
        rw [← hc'] at hc3 hb
        by_cases hn : c' = 0
        · have hw : IntKind.wrap .i64 (((dg (z + y) s : Nat) : Int) - ((dg y s : Nat) : Int)) = ((dg (z + y) s : Nat) : Int) - ((dg y s : Nat) : Int) := by rw [IntKind.wrap_i64]; omega
          have hw2 : IntKind.wrap .i64 (((dg (z + y) s : Nat) : Int) - ((dg y s : Nat) : Int) - (c : Int)) = ((dg z s : Nat) : Int) := by rw [IntKind.wrap_i64]; omega
          (repeat' (first | ((with_reducible apply At.mixed (id := 3) 8 (.q 0 (.q 1 (.q 2 (.q 3 (.b 4 5 (.l 5 (.x 6 (.x 7 .done))) (.l 4 (.x 6 (.x 7 .done))))))))); exact rfl; kernel_rfl; kernel_rfl; kernel_rfl) | refine zsx ?_ | refine zss ?_ | ((with_reducible apply AtM.bo); exact rfl; exact rfl; exact rfl) | ((first | (with_reducible first | apply At.val | apply AtQ.val) | ((with_reducible first | apply AtM1.valz | apply AtM1.val); exact rfl) | ((with_reducible apply AtM1.val); exact rfl)); (first | exact pr_load_tabv (k := s) (v := dg (z + y) s) (by rfl) (by first | exact pk0 | exact pk1 | exact pk2 | exact pk3) (by rfl) (by omega) (if_neg (Nat.lt_irrefl s)) | exact pr_load_tab (k := s) (by rfl) (by first | exact pk0 | exact pk1 | exact pk2 | exact pk3) (by rfl) (by omega) | exact pr_sub (by rfl) (by rfl) hw | exact pr_sub (by rfl) (by rfl) hw2 | exact zprA); exact rfl) | refine zs0 ?_ | refine zx0 ?_ | ((with_reducible apply At.storeArr (g := gi) (((dg z s : Nat) : Int))); exact rfl; exact rfl; exact rfl; exact rfl; exact rfl; exact rfl; exact (by repeat constructor); (first | omega | (simp only [lns] <;> omega))) | ((with_reducible apply At.box (d := 2)); exact rfl; exact rfl; exact rfl; intro b2) | ((with_reducible apply At.box (d := 3)); exact rfl; exact rfl; exact rfl; intro b3) | ((with_reducible apply At.alloc (d := 4)); exact rfl; exact rfl; intro b4) | ((with_reducible apply At.alloc (d := 6)); exact rfl; exact rfl; intro b6) | ((with_reducible apply At.alloc (d := 7)); exact rfl; exact rfl; intro b7) | (refine zsp ?_ ?_ <;> (intro hc; (try simp only [zhcs, reduceCtorEq] at hc); (try (exfalso; first | omega | contradiction | omega | exact absurd rfl hc | exact absurd (by decide) hc))))))
          all_goals (rw [e])
          all_goals ((with_reducible refine At.reachk (⟨s + 1, 0⟩) ?_ ?_ ?_ ?_); exact zsubs; exact zml; exact zente; exact ⟨⟨Nat.succ_le_of_lt h, by dsimp only; omega⟩, by dsimp only; omega⟩)
        · have hw : IntKind.wrap .i64 (((dg (z + y) s : Nat) : Int) - ((dg y s : Nat) : Int)) = ((dg (z + y) s : Nat) : Int) - ((dg y s : Nat) : Int) := by rw [IntKind.wrap_i64]; omega
          have hw2 : IntKind.wrap .i64 (((dg (z + y) s : Nat) : Int) - ((dg y s : Nat) : Int) - (c : Int)) = ((dg z s : Nat) : Int) - 256 := by rw [IntKind.wrap_i64]; omega
          have hw3 : IntKind.wrap .i64 (((dg z s : Nat) : Int) - 256 + 256) = ((dg z s : Nat) : Int) := by rw [IntKind.wrap_i64]; omega
          (repeat' (first | ((with_reducible apply At.mixed (id := 3) 8 (.q 0 (.q 1 (.q 2 (.q 3 (.b 4 5 (.l 5 (.x 6 (.x 7 .done))) (.l 4 (.x 6 (.x 7 .done))))))))); exact rfl; kernel_rfl; kernel_rfl; kernel_rfl) | refine zsx ?_ | refine zss ?_ | ((with_reducible apply AtM.bo); exact rfl; exact rfl; exact rfl) | ((first | (with_reducible first | apply At.val | apply AtQ.val) | ((with_reducible first | apply AtM1.valz | apply AtM1.val); exact rfl) | ((with_reducible apply AtM1.val); exact rfl)); (first | exact pr_load_tabv (k := s) (v := dg (z + y) s) (by rfl) (by first | exact pk0 | exact pk1 | exact pk2 | exact pk3) (by rfl) (by omega) (if_neg (Nat.lt_irrefl s)) | exact pr_load_tab (k := s) (by rfl) (by first | exact pk0 | exact pk1 | exact pk2 | exact pk3) (by rfl) (by omega) | exact pr_sub (by rfl) (by rfl) hw | exact pr_sub (by rfl) (by rfl) hw2 | exact pr_add (by rfl) (by rfl) hw3 | exact zprA); exact rfl) | refine zs0 ?_ | refine zx0 ?_ | ((with_reducible apply At.storeArr (g := gi) (((dg z s : Nat) : Int))); exact rfl; exact rfl; exact rfl; exact rfl; exact rfl; exact rfl; exact (by repeat constructor); (first | omega | (simp only [lns] <;> omega))) | ((with_reducible apply At.box (d := 2)); exact rfl; exact rfl; exact rfl; intro b2) | ((with_reducible apply At.box (d := 3)); exact rfl; exact rfl; exact rfl; intro b3) | ((with_reducible apply At.alloc (d := 4)); exact rfl; exact rfl; intro b4) | ((with_reducible apply At.alloc (d := 6)); exact rfl; exact rfl; intro b6) | ((with_reducible apply At.alloc (d := 7)); exact rfl; exact rfl; intro b7) | (refine zsp ?_ ?_ <;> (intro hc; (try simp only [zhcs, reduceCtorEq] at hc); (try (exfalso; first | omega | contradiction | omega | exact absurd rfl hc | exact absurd (by decide) hc))))))
          all_goals (rw [e])
          all_goals ((with_reducible refine At.reachk (⟨s + 1, 1⟩) ?_ ?_ ?_ ?_); exact zsubs; exact zml; exact zente; exact ⟨⟨Nat.succ_le_of_lt h, by dsimp only; omega⟩, by dsimp only; omega⟩)
      · have e16 : s = 16 := by omega
        subst e16
        have e : tab (fun j => if j < 16 then dg z j else dg (z + y) j) = tab (dg z) := tab_congr fun j hj => if_pos hj
        rw [e]
        have hlz := tabm_len (dg z)
        (repeat' (first | refine zss ?_ | ((first | (with_reducible first | apply At.val | apply AtQ.val)); (exact zprA); exact rfl) | refine zs0 ?_ | ((with_reducible first | apply AtM1.callp | apply AtQ.callp | apply At.callp); kernel_rfl; exact rfl; exact rfl; exact of_r z hz) | ((with_reducible apply At.box (d := 2)); exact rfl; exact rfl; exact rfl; intro b2) | ((with_reducible apply At.box (d := 3)); exact rfl; exact rfl; exact rfl; intro b3) | ((with_reducible apply At.alloc (d := 4)); exact rfl; exact rfl; intro b4) | ((with_reducible apply At.alloc (d := 6)); exact rfl; exact rfl; intro b6) | ((with_reducible apply At.alloc (d := 7)); exact rfl; exact rfl; intro b7) | (refine zsp ?_ ?_ <;> (intro hc; (try simp only [zhcs, reduceCtorEq] at hc); (try (exfalso; first | omega | contradiction | omega | exact absurd rfl hc | exact absurd (by decide) hc))))))
        all_goals ((with_reducible apply At.retV (B := [])); exact rfl; (repeat' (first | exact RVs.nil | (with_reducible apply RVs.cons) | exact rv_tmp (by rfl) | exact rv_cellN (by rfl) (by repeat constructor) (by rfl) (by rfl) (by rfl) | exact rv_cell1 (by rfl) (by repeat constructor) (by rfl) (by rfl) | exact rv_cellA (by rfl) (by repeat constructor) (by rfl) (by rfl) zlq)); exact zml; exact zkp; exact ⟨rfl, rfl, rfl⟩)
end Wide
end Go.Proofs.YtmnlmmbfjfgfeaaDoor
/- The document's division, bit by bit. -/
set_option linter.unusedSimpArgs false
set_option linter.unusedVariables false
set_option linter.unusedSectionVars false
set_option maxRecDepth 20000
set_option maxHeartbeats 4000000
namespace Go.Proofs.YtmnlmmbfjfgfeaaDoor
open Go Go.J
attribute [local irreducible] At AtQ AtM AtM1 PR Ct Pu Rd Res.blk Res.own Res.ex RVs RV
namespace Wide
theorem i64_or8' : ∀ (a : Fin 256) (r : Fin 8), a.val % 2 ^ (r.val + 1) = 0 → bits .or .i64 (a.val : Int) ((2 ^ r.val : Nat) : Int) = ((a.val + 2 ^ r.val : Nat) : Int) := by decide +kernel
theorem i64_or8 {a r : Nat} (ha : a < 256) (hr : r < 8) (h : a % 2 ^ (r + 1) = 0) : bits .or .i64 (a : Int) ((2 ^ r : Nat) : Int) = ((a + 2 ^ r : Nat) : Int) := i64_or8' ⟨a, ha⟩ ⟨r, hr⟩ h
theorem i64_and1' : ∀ a : Fin 256, bits .and .i64 (a.val : Int) 1 = ((a.val % 2 : Nat) : Int) := by decide +kernel
theorem i64_and1 {a : Nat} (ha : a < 256) : bits .and .i64 (a : Int) 1 = ((a % 2 : Nat) : Int) := i64_and1' ⟨a, ha⟩
theorem pow_split (i : Nat) : (2 : Nat) ^ i = 256 ^ (i / 8) * 2 ^ (i % 8) := by
  rw [show (256 : Nat) = 2 ^ 8 from rfl, ← Nat.pow_mul, ← Nat.pow_add, Nat.div_add_mod]
theorem bit_of (x i : Nat) : dg x (i / 8) / 2 ^ (i % 8) % 2 = x / 2 ^ i % 2 := by
  have hr : i % 8 < 8 := Nat.mod_lt _ (by decide)
  unfold dg
  rw [pow_split i, ← Nat.div_div_eq_div_mul]
  generalize x / 256 ^ (i / 8) = a
  generalize i % 8 = r at *
  have e : (256 : Nat) = 2 ^ r * 2 ^ (8 - r) := by rw [← Nat.pow_add, show r + (8 - r) = 8 by omega]
  rw [e, Nat.mod_mul_right_div_self, Nat.mod_mod_of_dvd]
  rw [show 8 - r = (7 - r) + 1 by omega, Nat.pow_succ]
  exact Nat.dvd_mul_left _ _
theorem dg_zero (O i k : Nat) (hO : O % 2 ^ i = 0) (hk : k < i / 8) : dg O k = 0 := by
  unfold dg
  obtain ⟨q, rfl⟩ := Nat.dvd_of_mod_eq_zero hO
  have e : i = 8 * k + 8 + (i - (8 * k + 8)) := by omega
  rw [e, Nat.pow_add, Nat.pow_add, Nat.pow_mul, Nat.mul_assoc, Nat.mul_assoc, show (2 ^ 8 : Nat) = 256 from rfl, Nat.mul_div_cancel_left _ (Nat.pow_pos (by decide)), Nat.mul_mod_right]
theorem dg_or_mod (O i : Nat) (hO : O % 2 ^ (i + 1) = 0) : dg O (i / 8) % 2 ^ (i % 8 + 1) = 0 := by
  have hr : i % 8 < 8 := Nat.mod_lt _ (by decide)
  unfold dg
  obtain ⟨q, rfl⟩ := Nat.dvd_of_mod_eq_zero hO
  rw [Nat.pow_succ, pow_split i, Nat.mul_assoc, Nat.mul_assoc, Nat.mul_div_cancel_left _ (Nat.pow_pos (by decide)), ← Nat.mul_assoc, ← Nat.pow_succ]
  generalize i % 8 = r at *
  have e : (256 : Nat) = 2 ^ (r + 1) * 2 ^ (7 - r) := by rw [← Nat.pow_add, show r + 1 + (7 - r) = 8 by omega]
  rw [e, Nat.mod_mod_of_dvd _ (Nat.dvd_mul_right _ _), Nat.mul_mod_right]
theorem dg_add_bit (O i k : Nat) (hO : O % 2 ^ (i + 1) = 0) : dg (O + 2 ^ i) k = if k = i / 8 then dg O k + 2 ^ (i % 8) else dg O k := by
  have hr : i % 8 < 8 := Nat.mod_lt _ (by decide)
  by_cases h : k = i / 8
  · rw [if_pos h]
    subst h
    have hm := dg_or_mod O i hO
    have hl := dg_lt O (i / 8)
    have e : (O + 2 ^ i) / 256 ^ (i / 8) = O / 256 ^ (i / 8) + 2 ^ (i % 8) := by
      rw [pow_split i, Nat.add_mul_div_left _ _ (Nat.pow_pos (by decide))]
    unfold dg at *
    rw [e]
    generalize O / 256 ^ (i / 8) = a at *
    generalize i % 8 = r at *
    have hp : 2 ^ r < 256 := by
      have : (2 : Nat) ^ r ≤ 2 ^ 7 := Nat.pow_le_pow_right (by decide) (by omega)
      omega
    obtain ⟨q, hq⟩ := Nat.dvd_of_mod_eq_zero hm
    have h256 : (256 : Nat) = 2 ^ (r + 1) * 2 ^ (7 - r) := by rw [← Nat.pow_add, show r + 1 + (7 - r) = 8 by omega]
    have hq2 : q < 2 ^ (7 - r) := by
      apply Nat.lt_of_mul_lt_mul_left (a := 2 ^ (r + 1))
      rw [← hq, ← h256]; exact hl
    have hq3 : 2 ^ (r + 1) * (q + 1) ≤ 256 := by
      rw [h256]; exact Nat.mul_le_mul_left _ hq2
    rw [Nat.mul_add, ← hq, Nat.pow_succ] at hq3
    rw [Nat.add_mod, Nat.mod_eq_of_lt hp, Nat.mod_eq_of_lt (by omega)]
  · rw [if_neg h]
    by_cases h2 : k < i / 8
    · have hO' : O % 2 ^ i = 0 := by
        obtain ⟨q, rfl⟩ := Nat.dvd_of_mod_eq_zero hO
        rw [Nat.pow_succ, Nat.mul_assoc, Nat.mul_mod_right]
      rw [dg_zero O i k hO' h2, dg_zero _ i k (by rw [Nat.add_mod_right]; exact hO') h2]
    · unfold dg
      obtain ⟨q, rfl⟩ := Nat.dvd_of_mod_eq_zero hO
      have hk : i + 1 ≤ 8 * k := by omega
      have e : (256 : Nat) ^ k = 2 ^ (i + 1) * 2 ^ (8 * k - (i + 1)) := by rw [← Nat.pow_add, show i + 1 + (8 * k - (i + 1)) = 8 * k by omega, Nat.pow_mul]
      rw [e, ← Nat.div_div_eq_div_mul, ← Nat.div_div_eq_div_mul, Nat.mul_div_cancel_left _ (Nat.pow_pos (by decide)), Nat.mul_add_div (Nat.pow_pos (by decide)), Nat.div_eq_of_lt (show 2 ^ i < 2 ^ (i + 1) by rw [Nat.pow_succ]; have : 0 < 2 ^ i := Nat.pow_pos (by decide); omega), Nat.add_zero]
theorem tab_bit (O i : Nat) (hi : i < 128) (hO : O % 2 ^ (i + 1) = 0) : (tab (dg O)).set (i / 8) ((dg O (i / 8) + 2 ^ (i % 8) : Nat) : Int) = tab (dg (O + 2 ^ i)) := by
  rw [tab_set _ _ (by omega)]
  apply tab_congr
  intro j _
  rw [dg_add_bit O i j hO]
  by_cases h : j = i / 8
  · subst h; rw [if_pos rfl]
  · rw [if_neg h, if_neg h]
/-- one bit more -/
theorem div_bit (x n i : Nat) (hn : 0 < n) : x / 2 ^ i = 2 * (x / 2 ^ (i + 1)) + x / 2 ^ i % 2 ∧
    (2 * (x / 2 ^ (i + 1) % n) + x / 2 ^ i % 2 < n → x / 2 ^ i % n = 2 * (x / 2 ^ (i + 1) % n) + x / 2 ^ i % 2 ∧ x / 2 ^ i / n = 2 * (x / 2 ^ (i + 1) / n)) ∧
    (¬ 2 * (x / 2 ^ (i + 1) % n) + x / 2 ^ i % 2 < n → x / 2 ^ i % n = 2 * (x / 2 ^ (i + 1) % n) + x / 2 ^ i % 2 - n ∧ x / 2 ^ i / n = 2 * (x / 2 ^ (i + 1) / n) + 1) := by
  have e0 : x / 2 ^ (i + 1) = x / 2 ^ i / 2 := by rw [Nat.pow_succ, ← Nat.div_div_eq_div_mul]
  rw [e0]
  generalize x / 2 ^ i = a
  obtain ⟨c, hc⟩ : ∃ c, c = a / 2 := ⟨_, rfl⟩
  rw [← hc]
  have hd := Nat.div_add_mod c n
  have hm := Nat.mod_lt c hn
  have hq : n * (2 * (c / n)) = 2 * (n * (c / n)) := by rw [Nat.mul_left_comm]
  refine ⟨by omega, fun h => ?_, fun h => ?_⟩
  · have e : a = n * (2 * (c / n)) + (2 * (c % n) + a % 2) := by omega
    have e1 := Nat.mul_add_div hn (2 * (c / n)) (2 * (c % n) + a % 2)
    have e2 := Nat.mul_add_mod n (2 * (c / n)) (2 * (c % n) + a % 2)
    rw [← e, Nat.div_eq_of_lt h] at e1
    rw [← e, Nat.mod_eq_of_lt h] at e2
    exact ⟨e2, by omega⟩
  · have e : a = n * (2 * (c / n) + 1) + (2 * (c % n) + a % 2 - n) := by rw [Nat.mul_add, Nat.mul_one]; omega
    have hl : 2 * (c % n) + a % 2 - n < n := by omega
    have e1 := Nat.mul_add_div hn (2 * (c / n) + 1) (2 * (c % n) + a % 2 - n)
    have e2 := Nat.mul_add_mod n (2 * (c / n) + 1) (2 * (c % n) + a % 2 - n)
    rw [← e, Nat.div_eq_of_lt hl] at e1
    rw [← e, Nat.mod_eq_of_lt hl] at e2
    exact ⟨e2, by omega⟩
theorem wd_small {b : Nat} (h : b < 18446744073709551616) : Value.agg #[.int .u64 0, .int .u64 (b : Int)] = wv b := wd_mk (by omega) (by omega)
structure DS where
  (i : Nat) (O : Nat) (L : Nat)
theorem div_r0 (x : Nat) : Pu Tryd.prog 33 #[wv x, .int .u64 0] (.tuple #[wv 0, .int .u64 0, .int .i64 1]) := Pu.intro fun m => by
  refine Ct.enterV (by rfl) Tryd.func33 rfl Tryd.ntmps33 rfl (fun w0 Rest => ?_)
  (repeat' (first | refine zss ?_ | ((first | (with_reducible first | apply At.val | apply AtQ.val)); (exact zprA); exact rfl) | refine zs0 ?_ | ((with_reducible apply At.box (d := 2)); exact rfl; exact rfl; exact rfl; intro b2) | ((with_reducible apply At.alloc (d := 4)); exact rfl; exact rfl; intro b4) | ((with_reducible apply At.alloc (d := 7)); exact rfl; exact rfl; intro b7) | ((with_reducible apply At.alloc (d := 8)); exact rfl; exact rfl; intro b8) | ((with_reducible apply At.alloc (d := 9)); exact rfl; exact rfl; intro b9) | ((with_reducible apply At.alloc (d := 10)); exact rfl; exact rfl; intro b10) | (refine zsp ?_ ?_ <;> (intro hc; (try simp only [zhcs, reduceCtorEq] at hc); (try (exfalso; first | omega | contradiction | omega | exact absurd rfl hc | exact absurd (by decide) hc))))))
  all_goals ((with_reducible apply At.retV (B := [])); exact rfl; (repeat' (first | exact RVs.nil | (with_reducible apply RVs.cons) | exact rv_tmp (by rfl) | exact rv_cellN (by rfl) (by repeat constructor) (by rfl) (by rfl) (by rfl) | exact rv_cell1 (by rfl) (by repeat constructor) (by rfl) (by rfl) | exact rv_cellA (by rfl) (by repeat constructor) (by rfl) (by rfl) zlq)); exact zml; exact zkp; exact ⟨rfl, rfl, rfl⟩)
theorem div_r (x n : Nat) (hx : x < 340282366920938463463374607431768211456) (hn : 0 < n) (hnb : n < 18446744073709551616) :
    Pu Tryd.prog 33 #[wv x, .int .u64 (n : Int)] (.tuple #[wv (x / n), .int .u64 ((x % n : Nat) : Int), .int .i64 0]) := Pu.intro fun m => by
  have hlx := tab_len (dg x)
  have hmx := tabm_len (dg x)
  refine Ct.enterV (by rfl) Tryd.func33 rfl Tryd.ntmps33 rfl (fun w0 Rest => ?_)
  (repeat' (first | refine zss ?_ | ((first | (with_reducible first | apply At.val | apply AtQ.val)); (exact zprA); exact rfl) | refine zs0 ?_ | ((with_reducible first | apply AtM1.callp | apply AtQ.callp | apply At.callp); kernel_rfl; exact rfl; exact rfl; exact bytes x hx) | ((with_reducible apply At.storeA); exact rfl; exact rfl; exact rfl; exact all_gi _; exact (by repeat constructor); (first | exact rfl | (first | omega | (simp only [lns] <;> omega))); (first | exact rfl | (first | omega | (simp only [lns] <;> omega)))) | ((with_reducible apply At.box (d := 2)); exact rfl; exact rfl; exact rfl; intro b2) | ((with_reducible apply At.alloc (d := 4)); exact rfl; exact rfl; intro b4) | ((with_reducible apply At.alloc (d := 7)); exact rfl; exact rfl; intro b7) | ((with_reducible apply At.alloc (d := 8)); exact rfl; exact rfl; intro b8) | ((with_reducible apply At.alloc (d := 9)); exact rfl; exact rfl; intro b9) | ((with_reducible apply At.alloc (d := 10)); exact rfl; exact rfl; intro b10) | (refine zsp ?_ ?_ <;> (intro hc; (try simp only [zhcs, reduceCtorEq] at hc); (try (exfalso; first | omega | contradiction | omega | exact absurd rfl hc | exact absurd (by decide) hc))))))
  rw [show ([.int .u64 0, .int .u64 0] : List Value) = wd 0 from rfl]
  (refine At.loopk (σ := DS) [4, 7, 8, 9, 10] (fun s F0 => (11, .int .i64 ((s.i : Int) - 1)) :: F0) (fun s => m) (fun s => .blk b10 25 [.int .u64 0, .int .u64 (n : Int)] :: .blk b9 77 ((tab (dg x)).map gi) :: .blk b8 25 (wd s.L) :: .blk b7 77 ((tab (dg s.O)).map gi) :: .blk b4 25 (wd 0) :: Rest) (fun s => s.i ≤ 128 ∧ s.O = x / 2 ^ s.i / n * 2 ^ s.i ∧ s.L = x / 2 ^ s.i % n) (fun s => s.i) ⟨128, 0, 0⟩ (by rfl) ?_ zsubs zml zente ?_)
  · refine ⟨Nat.le_refl _, ?_, ?_⟩
    · show 0 = x / 2 ^ 128 / n * 2 ^ 128
      rw [Nat.div_eq_of_lt (show x < 2 ^ 128 from hx), Nat.zero_div, Nat.zero_mul]
    · show 0 = x / 2 ^ 128 % n
      rw [Nat.div_eq_of_lt (show x < 2 ^ 128 from hx), Nat.zero_mod]
  rintro ⟨i, O, L⟩ ⟨hi, hO, hL⟩
  dsimp only at hi hO hL ⊢
  have hlO := tab_len (dg O)
  have hmO := tabm_len (dg O)
  rcases i with _ | i
  · rw [Nat.pow_zero, Nat.div_one, Nat.mul_one] at hO
    rw [Nat.pow_zero, Nat.div_one] at hL
    have hOb : O < 340282366920938463463374607431768211456 := by rw [hO]; exact Nat.lt_of_le_of_lt (Nat.div_le_self _ _) hx
    have hLn : L < n := by rw [hL]; exact Nat.mod_lt _ hn
    rw [← hO, ← hL, show ((L : Nat) : Int) = ((L % 18446744073709551616 : Nat) : Int) by omega]
    (repeat' (first | ((with_reducible apply At.mixed (id := 11) 16 (.q 0 (.q 1 (.q 2 (.q 3 (.q 4 (.q 5 (.q 6 (.q 7 (.q 8 (.q 9 (.q 10 (.x 11 (.q 12 (.q 13 (.q 14 (.x 15 .done))))))))))))))))); exact rfl; kernel_rfl; kernel_rfl; kernel_rfl) | ((with_reducible apply At.mixed (id := 14) 10 (.q 0 (.q 1 (.q 2 (.q 3 (.q 4 (.q 5 (.q 6 (.q 7 (.q 8 (.x 9 .done))))))))))); exact rfl; kernel_rfl; kernel_rfl; kernel_rfl) | ((with_reducible apply At.mixedB (id := 15) 4 7 (.q 0 (.q 1 (.q 2 (.q 3 (.l 4 (.q 5 (.q 6 .done)))))))); exact rfl; exact (by repeat constructor); exact rfl; kernel_rfl; kernel_rfl; kernel_rfl) | refine zsx ?_ | refine zss ?_ | ((with_reducible apply AtM.bo); exact rfl; exact rfl; exact rfl) | ((first | (with_reducible first | apply At.val | apply AtQ.val) | ((with_reducible first | apply AtM1.valz | apply AtM1.val); exact rfl) | ((with_reducible apply AtM1.val); exact rfl)); (exact zprA); exact rfl) | refine zs0 ?_ | refine zx0 ?_ | ((with_reducible first | apply AtM1.callp | apply AtQ.callp | apply At.callp); kernel_rfl; exact rfl; exact rfl; exact of_r O hOb) | ((with_reducible apply At.box (d := 2)); exact rfl; exact rfl; exact rfl; intro b2) | ((with_reducible apply At.alloc (d := 4)); exact rfl; exact rfl; intro b4) | ((with_reducible apply At.alloc (d := 7)); exact rfl; exact rfl; intro b7) | ((with_reducible apply At.alloc (d := 8)); exact rfl; exact rfl; intro b8) | ((with_reducible apply At.alloc (d := 9)); exact rfl; exact rfl; intro b9) | ((with_reducible apply At.alloc (d := 10)); exact rfl; exact rfl; intro b10) | (refine zsp ?_ ?_ <;> (intro hc; (try simp only [zhcs, reduceCtorEq] at hc); (try (exfalso; first | omega | contradiction | omega | exact absurd rfl hc | exact absurd (by decide) hc))))))
    all_goals ((with_reducible apply At.retV (B := [])); exact rfl; (repeat' (first | exact RVs.nil | (with_reducible apply RVs.cons) | exact rv_tmp (by rfl) | exact rv_cellN (by rfl) (by repeat constructor) (by rfl) (by rfl) (by rfl) | exact rv_cell1 (by rfl) (by repeat constructor) (by rfl) (by rfl) | exact rv_cellA (by rfl) (by repeat constructor) (by rfl) (by rfl) zlq)); exact zml; exact zkp; exact ⟨rfl, rfl, rfl⟩)
  · rw [show (((i + 1 : Nat) : Int) - 1) = (i : Int) by omega]
    obtain ⟨d0, d1, d2⟩ := div_bit x n i hn
    have hLn : L < n := by rw [hL]; exact Nat.mod_lt _ hn
    have hbit := bit_of x i
    obtain ⟨b, hb⟩ : ∃ b, b = x / 2 ^ i % 2 := ⟨_, rfl⟩
    have hb2 : b < 2 := by rw [hb]; exact Nat.mod_lt _ (by decide)
    rw [← hb] at d0 d1 d2 hbit
    rw [← hL] at d1 d2
    have hOm : O % 2 ^ (i + 1) = 0 := by rw [hO]; exact Nat.mul_mod_left _ _
    have hdl := dg_lt x (i / 8)
    have hol := dg_lt O (i / 8)
    have f1 : IntKind.wrap .i64 ((i : Int).tdiv 8) = ((i / 8 : Nat) : Int) := by
      have e : (i : Int).tdiv 8 = ((i / 8 : Nat) : Int) := (Int.ofNat_tdiv i 8).symm
      rw [e, IntKind.wrap_i64]; omega
    have f2 : (i : Int).tmod 8 = ((i % 8 : Nat) : Int) := u_rem i 8
    have f3 := u_shr (dg x (i / 8)) (i % 8)
    have f4 := i64_and1 (a := dg x (i / 8) / 2 ^ (i % 8)) (Nat.lt_of_le_of_lt (Nat.div_le_self _ _) hdl)
    rw [hbit] at f4
    have f5 := u_inN (a := b) (by omega)
    have ad1 := add_r L L (by omega) (by omega)
    rw [show sV (L + L) = L + L from if_pos (by omega), show sE (L + L) = 0 from if_pos (by omega)] at ad1
    have ad2 := add_r (L + L) b (by omega) (by omega)
    rw [show sV (L + L + b) = L + L + b from if_pos (by omega), show sE (L + L + b) = 0 from if_pos (by omega), ← wd_small (b := b) (by omega)] at ad2
    have kl := less_r (L + L + b) n (by omega) (by omega)
    rw [← wd_small hnb] at kl
    by_cases hc0 : L + L + b < n
    · rw [decide_eq_true hc0] at kl
      obtain ⟨r1, r2⟩ := d1 (by omega)
      (repeat' (first | ((with_reducible apply At.mixed (id := 11) 16 (.q 0 (.q 1 (.q 2 (.q 3 (.q 4 (.q 5 (.q 6 (.q 7 (.q 8 (.q 9 (.q 10 (.q 11 (.q 12 (.q 13 (.q 14 (.x 15 .done))))))))))))))))); exact rfl; kernel_rfl; kernel_rfl; kernel_rfl) | ((with_reducible apply At.mixed (id := 14) 10 (.q 0 (.q 1 (.q 2 (.q 3 (.q 4 (.q 5 (.q 6 (.q 7 (.q 8 (.x 9 .done))))))))))); exact rfl; kernel_rfl; kernel_rfl; kernel_rfl) | ((with_reducible apply At.mixedB (id := 15) 4 7 (.q 0 (.q 2 (.q 3 (.l 1 (.l 4 (.q 5 (.q 6 .done)))))))); exact rfl; exact (by repeat constructor); exact rfl; kernel_rfl; kernel_rfl; kernel_rfl) | refine zsx ?_ | refine zss ?_ | ((with_reducible apply AtM.bo); exact rfl; exact rfl; exact rfl) | ((first | (with_reducible first | apply At.val | apply AtQ.val) | ((with_reducible first | apply AtM1.valz | apply AtM1.val); exact rfl) | ((with_reducible apply AtM1.val); exact rfl)); (first | exact pr_quo (by rfl) (by rfl) (by omega) f1 | exact pr_rem (by rfl) (by rfl) (by omega) f2 | exact pr_shrv (by rfl) (by rfl) (by omega) (by simp only [IntKind.bits]; omega) f3 | exact pr_and (by rfl) (by rfl) f4 | exact pr_load_tab (k := i / 8) (by rfl) (by first | exact pk0 | exact pk1 | exact pk2 | exact pk3 | exact pk4) (by rfl) (by omega) | exact zprA); exact rfl) | refine zs0 ?_ | refine zx0 ?_ | ((with_reducible first | apply AtM1.callp | apply AtQ.callp | apply At.callp); kernel_rfl; exact rfl; exact rfl; exact ad1) | ((with_reducible first | apply AtM1.callp | apply AtQ.callp | apply At.callp); kernel_rfl; exact rfl; exact rfl; exact ad2) | ((with_reducible first | apply AtM1.callp | apply AtQ.callp | apply At.callp); kernel_rfl; exact rfl; exact rfl; exact kl) | ((with_reducible apply At.box (d := 2)); exact rfl; exact rfl; exact rfl; intro b2) | ((with_reducible apply At.alloc (d := 4)); exact rfl; exact rfl; intro b4) | ((with_reducible apply At.alloc (d := 7)); exact rfl; exact rfl; intro b7) | ((with_reducible apply At.alloc (d := 8)); exact rfl; exact rfl; intro b8) | ((with_reducible apply At.alloc (d := 9)); exact rfl; exact rfl; intro b9) | ((with_reducible apply At.alloc (d := 10)); exact rfl; exact rfl; intro b10) | (refine zsp ?_ ?_ <;> (intro hc; (try simp only [zhcs, reduceCtorEq] at hc); (try (exfalso; first | (first | omega | exact absurd hc (by decide)) | contradiction | omega | exact absurd rfl hc | exact absurd (by decide) hc))))))
      all_goals ((with_reducible refine At.reachk (⟨i, O, L + L + b⟩) ?_ ?_ ?_ ?_); exact zsubs; exact zml; exact zente; exact ⟨⟨by dsimp only; omega, by dsimp only; rw [r2, hO, Nat.pow_succ]; rw [Nat.mul_comm 2, Nat.mul_assoc, Nat.mul_comm 2], by dsimp only; rw [r1]; omega⟩, Nat.lt_succ_self i⟩)
    · rw [decide_eq_false hc0] at kl
      obtain ⟨r1, r2⟩ := d2 (by omega)
      have ks := sub_r (L + L + b) n (by omega) (by omega)
      rw [show dE (L + L + b) n = 0 from if_neg hc0, ← wd_small hnb] at ks
      have f6 : IntKind.wrap .i64 (1 * 2 ^ ((i % 8 : Nat) : Int).toNat) = ((2 ^ (i % 8) : Nat) : Int) := by
        have : (2 : Nat) ^ (i % 8) ≤ 2 ^ 7 := Nat.pow_le_pow_right (by decide) (by omega)
        rw [Int.toNat_natCast, Int.one_mul, show ((2 : Int) ^ (i % 8)) = ((2 ^ (i % 8) : Nat) : Int) by rw [Int.natCast_pow]; rfl, IntKind.wrap_i64]
        generalize 2 ^ (i % 8) = p at *
        omega
      have f7 := i64_or8 hol (Nat.mod_lt i (by decide)) (dg_or_mod O i hOm)
      have e := tab_bit O i (by omega) hOm
      (repeat' (first | ((with_reducible apply At.mixed (id := 11) 16 (.q 0 (.q 1 (.q 2 (.q 3 (.q 4 (.q 5 (.q 6 (.q 7 (.q 8 (.q 9 (.q 10 (.q 11 (.q 12 (.q 13 (.q 14 (.x 15 .done))))))))))))))))); exact rfl; kernel_rfl; kernel_rfl; kernel_rfl) | ((with_reducible apply At.mixed (id := 14) 10 (.q 0 (.q 1 (.q 2 (.q 3 (.q 4 (.q 5 (.q 6 (.q 7 (.q 8 (.x 9 .done))))))))))); exact rfl; kernel_rfl; kernel_rfl; kernel_rfl) | ((with_reducible apply At.mixedB (id := 15) 4 7 (.q 0 (.q 2 (.q 3 (.l 1 (.l 4 (.q 5 (.q 6 .done)))))))); exact rfl; exact (by repeat constructor); exact rfl; kernel_rfl; kernel_rfl; kernel_rfl) | refine zsx ?_ | refine zss ?_ | ((with_reducible apply AtM.bo); exact rfl; exact rfl; exact rfl) | ((first | (with_reducible first | apply At.val | apply AtQ.val) | ((with_reducible first | apply AtM1.valz | apply AtM1.val); exact rfl) | ((with_reducible apply AtM1.val); exact rfl)); (first | exact pr_quo (by rfl) (by rfl) (by omega) f1 | exact pr_rem (by rfl) (by rfl) (by omega) f2 | exact pr_shrv (by rfl) (by rfl) (by omega) (by simp only [IntKind.bits]; omega) f3 | exact pr_shlv (by rfl) (by rfl) (by omega) (by simp only [IntKind.bits]; omega) f6 | exact pr_and (by rfl) (by rfl) f4 | exact pr_or (by rfl) (by rfl) f7 | exact pr_load_tab (k := i / 8) (by rfl) (by first | exact pk0 | exact pk1 | exact pk2 | exact pk3 | exact pk4) (by rfl) (by omega) | exact zprA); exact rfl) | refine zs0 ?_ | refine zx0 ?_ | ((with_reducible apply At.storeArr (g := gi) (((dg O (i / 8) + 2 ^ (i % 8) : Nat) : Int))); exact rfl; exact rfl; exact rfl; exact rfl; exact rfl; exact rfl; exact (by repeat constructor); (first | omega | (simp only [lns] <;> omega))) | ((with_reducible first | apply AtM1.callp | apply AtQ.callp | apply At.callp); kernel_rfl; exact rfl; exact rfl; exact ad1) | ((with_reducible first | apply AtM1.callp | apply AtQ.callp | apply At.callp); kernel_rfl; exact rfl; exact rfl; exact ad2) | ((with_reducible first | apply AtM1.callp | apply AtQ.callp | apply At.callp); kernel_rfl; exact rfl; exact rfl; exact kl) | ((with_reducible first | apply AtM1.callp | apply AtQ.callp | apply At.callp); kernel_rfl; exact rfl; exact rfl; exact ks) | ((with_reducible apply At.box (d := 2)); exact rfl; exact rfl; exact rfl; intro b2) | ((with_reducible apply At.alloc (d := 4)); exact rfl; exact rfl; intro b4) | ((with_reducible apply At.alloc (d := 7)); exact rfl; exact rfl; intro b7) | ((with_reducible apply At.alloc (d := 8)); exact rfl; exact rfl; intro b8) | ((with_reducible apply At.alloc (d := 9)); exact rfl; exact rfl; intro b9) | ((with_reducible apply At.alloc (d := 10)); exact rfl; exact rfl; intro b10) | (refine zsp ?_ ?_ <;> (intro hc; (try simp only [zhcs, reduceCtorEq] at hc); (try (exfalso; first | (first | omega | exact absurd hc (by decide)) | contradiction | omega | exact absurd rfl hc | exact absurd (by decide) hc))))))
      all_goals (rw [e])
      all_goals ((with_reducible refine At.reachk (⟨i, O + 2 ^ i, L + L + b - n⟩) ?_ ?_ ?_ ?_); exact zsubs; exact zml; exact zente; exact ⟨⟨by dsimp only; omega, by dsimp only; rw [r2, hO, Nat.pow_succ, Nat.add_mul, Nat.one_mul]; rw [Nat.mul_comm 2, Nat.mul_assoc, Nat.mul_comm 2], by dsimp only; rw [r1]; omega⟩, Nat.lt_succ_self i⟩)
end Wide
end Go.Proofs.YtmnlmmbfjfgfeaaDoor
/- A number's digits, and the number of digits (no program). -/
set_option linter.unusedSimpArgs false
set_option linter.unusedVariables false
set_option linter.unusedSectionVars false
set_option maxRecDepth 20000
set_option maxHeartbeats 4000000
namespace Go.Proofs.YtmnlmmbfjfgfeaaDoor
namespace Wide
abbrev dd := Lib.decDigits
theorem dd_small {u : Nat} (h : u < 10) : dd u = [UInt8.ofNat (48 + u)] := Lib.decDigits_one h
theorem dd_big {u : Nat} (h : ¬ u < 10) : dd u = dd (u / 10) ++ [UInt8.ofNat (48 + u % 10)] := by
  show Lib.decDigits u = _
  rw [Lib.decDigits, dif_neg h]
def pad : Nat → Nat → List UInt8
  | 0, _ => []
  | k + 1, r => pad k (r / 10) ++ [UInt8.ofNat (48 + r % 10)]
theorem pad_len : ∀ k r, (pad k r).length = k
  | 0, _ => rfl
  | k + 1, r => by simp [pad, pad_len k]
theorem dd_pad : ∀ (k q r : Nat), 0 < q → r < 10 ^ k → dd (q * 10 ^ k + r) = dd q ++ pad k r
  | 0, q, r, _, hr => by
    have : r = 0 := by simpa using hr
    subst this; simp [pad]
  | k + 1, q, r, hq, hr => by
    have hp : 0 < 10 ^ k := Nat.pow_pos (by decide)
    have e : q * 10 ^ (k + 1) = 10 * (q * 10 ^ k) := by rw [Nat.pow_succ, ← Nat.mul_assoc, Nat.mul_comm]
    have hqp : 10 ^ k ≤ q * 10 ^ k := Nat.le_mul_of_pos_left _ hq
    have ih := dd_pad k q (r / 10) hq (by rw [Nat.pow_succ] at hr; omega)
    rw [dd_big (by omega), e, show (10 * (q * 10 ^ k) + r) / 10 = q * 10 ^ k + r / 10 by omega, show (10 * (q * 10 ^ k) + r) % 10 = r % 10 by omega, ih, List.append_assoc]
    rfl
theorem dd_len_le : ∀ (k u : Nat), 0 < k → u < 10 ^ k → (dd u).length ≤ k
  | 0, _, h, _ => absurd h (Nat.lt_irrefl _)
  | k + 1, u, _, hu => by
    by_cases h : u < 10
    · rw [dd_small h]; simp
    · rw [dd_big h]
      rcases k with _ | k
      · simp at hu; omega
      · have := dd_len_le (k + 1) (u / 10) (by omega) (by rw [Nat.pow_succ] at hu; omega)
        simp only [List.length_append, List.length_singleton]; omega
theorem dd_ne (u : Nat) : dd u ≠ [] := by
  by_cases h : u < 10
  · rw [dd_small h]; simp
  · rw [dd_big h]; simp
theorem dd_pos (u : Nat) : 0 < (dd u).length := List.length_pos_iff.2 (dd_ne u)
/-- a text's digits -/
def dgt (c : UInt8) : Nat := (c.toNat + 208) % 256 % 10
def isd (c : UInt8) : Prop := 48 ≤ c.toNat ∧ c.toNat ≤ 57
instance (c : UInt8) : Decidable (isd c) := inferInstanceAs (Decidable (_ ∧ _))
def pv (s : List UInt8) : Nat := s.foldl (fun a c => a * 10 + dgt c) 0
theorem pv_snoc (t : List UInt8) (c : UInt8) : pv (t ++ [c]) = pv t * 10 + dgt c := by simp [pv, List.foldl_append]
theorem dgt_of {d : Nat} (h : d < 10) : dgt (UInt8.ofNat (48 + d)) = d := by
  unfold dgt
  rw [UInt8.toNat_ofNat', Nat.mod_eq_of_lt (show 48 + d < 2 ^ 8 by omega)]
  omega
theorem isd_of {d : Nat} (h : d < 10) : isd (UInt8.ofNat (48 + d)) := by
  unfold isd
  rw [UInt8.toNat_ofNat', Nat.mod_eq_of_lt (show 48 + d < 2 ^ 8 by omega)]
  omega
theorem of_dgt {c : UInt8} (h : isd c) : UInt8.ofNat (48 + dgt c) = c := by
  apply UInt8.toNat_inj.1
  have := UInt8.toNat_lt c
  unfold isd at h
  unfold dgt
  rw [UInt8.toNat_ofNat', show 48 + (c.toNat + 208) % 256 % 10 = c.toNat by omega, Nat.mod_eq_of_lt this]
theorem pv_dd (u : Nat) : pv (dd u) = u := by
  induction u using Nat.strongRecOn with
  | _ u ih =>
    by_cases h : u < 10
    · rw [dd_small h, show [UInt8.ofNat (48 + u)] = [] ++ [UInt8.ofNat (48 + u)] from rfl, pv_snoc, dgt_of h]
      show 0 * 10 + u = u
      omega
    · rw [dd_big h, pv_snoc, ih (u / 10) (by omega), dgt_of (Nat.mod_lt _ (by decide))]
      omega
theorem dd_isd (u : Nat) : ∀ c ∈ dd u, isd c := by
  induction u using Nat.strongRecOn with
  | _ u ih =>
    by_cases h : u < 10
    · rw [dd_small h]
      intro c hc
      rw [List.mem_singleton.1 hc]; exact isd_of h
    · rw [dd_big h]
      intro c hc
      rcases List.mem_append.1 hc with hc | hc
      · exact ih (u / 10) (by omega) c hc
      · rw [List.mem_singleton.1 hc]; exact isd_of (Nat.mod_lt _ (by decide))
/-- the first digit of what is not zero -/
theorem dd_lead (u : Nat) (hu : 0 < u) : (dd u).head? ≠ some 48 := by
  induction u using Nat.strongRecOn with
  | _ u ih =>
    by_cases h : u < 10
    · rw [dd_small h]
      intro e
      have e1 : UInt8.ofNat (48 + u) = 48 := Option.some.inj e
      have e2 := congrArg UInt8.toNat e1
      rw [UInt8.toNat_ofNat', Nat.mod_eq_of_lt (show 48 + u < 2 ^ 8 by omega)] at e2
      have : (48 : UInt8).toNat = 48 := rfl
      omega
    · rw [dd_big h, List.head?_append]
      have i := ih (u / 10) (by omega) (by omega)
      cases hd : (dd (u / 10)).head? with
      | none => exact absurd (List.head?_eq_none_iff.1 hd) (dd_ne _)
      | some c => rw [hd] at i; exact i
theorem dd_lead1 (u : Nat) (h : (dd u).head? = some 48) : (dd u).length = 1 := by
  by_cases h0 : u < 10
  · rw [dd_small h0]; rfl
  · exact absurd h (dd_lead u (by omega))
/-- a right text is that of its number -/
theorem dd_pv : ∀ (n : Nat) (s : List UInt8), s.length = n → s ≠ [] → (∀ c ∈ s, isd c) → (s.length = 1 ∨ s.head? ≠ some 48) → dd (pv s) = s := by
  intro n
  induction n with
  | zero => intro s hl hs; exact absurd (List.length_eq_zero_iff.1 hl) hs
  | succ n ih =>
    intro s hl hs hd h0
    obtain ⟨t, c, rfl⟩ : ∃ t c, s = t ++ [c] := ⟨s.dropLast, s.getLast hs, (List.dropLast_concat_getLast hs).symm⟩
    have hc := hd c (by simp)
    rw [pv_snoc]
    have hdl : dgt c < 10 := Nat.mod_lt _ (by decide)
    by_cases ht : t = []
    · subst ht
      show dd (0 * 10 + dgt c) = _
      rw [Nat.zero_mul, Nat.zero_add, dd_small hdl, of_dgt hc]; rfl
    · have hh : (t ++ [c]).head? = t.head? := by
        cases t with
        | nil => exact absurd rfl ht
        | cons a b => rfl
      have h1 : ¬ (t ++ [c]).length = 1 := by
        have := List.length_pos_iff.2 ht
        simp; omega
      have h2 : t.head? ≠ some 48 := by rw [← hh]; exact h0.resolve_left h1
      have i := ih t (by simpa using hl) ht (fun x hx => hd x (by simp [hx])) (.inr h2)
      have hp : 0 < pv t := by
        apply Nat.pos_of_ne_zero
        intro e
        rw [e] at i
        rw [← i] at h2
        exact h2 (by rw [dd_small (by decide)]; rfl)
      rw [dd_big (by omega), show (pv t * 10 + dgt c) / 10 = pv t by omega, show (pv t * 10 + dgt c) % 10 = dgt c by omega, i, of_dgt hc]
theorem pv_take {s : List UInt8} {i : Nat} (h : i < s.length) : pv (s.take (i + 1)) = pv (s.take i) * 10 + dgt (s[i]!) := by
  rw [List.take_add_one, List.getElem?_eq_getElem h, getElem!_pos s i h]
  exact pv_snoc _ _
theorem pv_mono {s : List UInt8} (i : Nat) : pv (s.take i) ≤ pv s := by
  have : ∀ (r : List UInt8) (a : Nat), a ≤ r.foldl (fun a c => a * 10 + dgt c) a := by
    intro r
    induction r with
    | nil => intro a; exact Nat.le_refl _
    | cons c r ih => intro a; exact Nat.le_trans (by omega) (ih (a * 10 + dgt c))
  conv => rhs; rw [← List.take_append_drop i s]
  unfold pv
  rw [List.foldl_append]
  exact this _ _
/-- what a text's number is, and whether it has one -/
def pok (s : List UInt8) : Prop := dd (pv s) = s ∧ pv s < 340282366920938463463374607431768211456
instance (s : List UInt8) : Decidable (pok s) := inferInstanceAs (Decidable (_ ∧ _))
def pV (s : List UInt8) : Nat := if pok s then pv s else 0
def pE (s : List UInt8) : Int := if pok s then 0 else 4
theorem pok_dd {u : Nat} (h : u < 340282366920938463463374607431768211456) : pok (dd u) := by
  unfold pok
  rw [pv_dd]
  exact ⟨rfl, h⟩
theorem pok_isd {s : List UInt8} (h : pok s) : ∀ c ∈ s, isd c := by
  rw [← h.1]; exact dd_isd _
theorem pok_len {s : List UInt8} (h : pok s) : s.length ≤ 39 := by
  rw [← h.1]
  exact dd_len_le 39 _ (by decide) (Nat.lt_trans h.2 (by decide))
theorem pok_take {s : List UInt8} (h : pok s) (i : Nat) : pv (s.take i) < 340282366920938463463374607431768211456 := Nat.lt_of_le_of_lt (pv_mono i) h.2
/-- a text of eighteen digits more -/
theorem dd_text (x : Nat) (h : 18446744073709551616 ≤ x) : dd x = dd (x / 1000000000000000000) ++ (dd (1000000000000000000 + x % 1000000000000000000)).drop ((dd (1000000000000000000 + x % 1000000000000000000)).length - 18) ∧ (dd (1000000000000000000 + x % 1000000000000000000)).length = 19 := by
  have p : (10 : Nat) ^ 18 = 1000000000000000000 := rfl
  have hr : x % 1000000000000000000 < 10 ^ 18 := by rw [p]; exact Nat.mod_lt _ (by decide)
  have e1 := dd_pad 18 (x / 1000000000000000000) (x % 1000000000000000000) (by omega) hr
  have e2 := dd_pad 18 1 (x % 1000000000000000000) (by decide) hr
  rw [p] at e1 e2
  have e3 : x / 1000000000000000000 * 1000000000000000000 + x % 1000000000000000000 = x := Nat.div_add_mod' x _
  rw [e3] at e1
  rw [Nat.one_mul, dd_small (show 1 < 10 by decide)] at e2
  have hl : (dd (1000000000000000000 + x % 1000000000000000000)).length = 19 := by rw [e2]; simp [pad_len]
  refine ⟨?_, hl⟩
  rw [hl, e1, e2, show 19 - 18 = 1 from rfl]
  exact congrArg (_ ++ ·) (List.drop_left (l₁ := [UInt8.ofNat (48 + 1)])).symm
end Wide
end Go.Proofs.YtmnlmmbfjfgfeaaDoor
/- A number's text, as both say it. -/
set_option linter.unusedSimpArgs false
set_option linter.unusedVariables false
set_option linter.unusedSectionVars false
set_option maxRecDepth 20000
set_option maxHeartbeats 4000000
namespace Go.Proofs.YtmnlmmbfjfgfeaaDoor
open Go Go.J
attribute [local irreducible] At AtQ AtM AtM1 PR Ct Pu Rd Res.blk Res.own Res.ex RVs RV
namespace Wide
theorem flat_byt (l : List UInt8) : (l.map bI).flatMap fb = Lib.byteCells l := by
  unfold Lib.byteCells
  rw [List.flatMap_map]
  induction l with
  | nil => rfl
  | cons a l ih => simp only [List.flatMap_cons, List.map_cons, ih]; rfl
end Wide
end Go.Proofs.YtmnlmmbfjfgfeaaDoor
/- Ratios: Text. -/
set_option linter.unusedSimpArgs false
set_option linter.unusedVariables false
set_option linter.unusedSectionVars false
set_option maxRecDepth 20000
set_option maxHeartbeats 4000000
namespace Go.Proofs.YtmnlmmbfjfgfeaaDoor
open Go Go.J
attribute [local irreducible] At AtQ AtM AtM1 PR Ct Pu Rd Res.blk Res.own Res.ex RVs RV
namespace Ra
open Wide
end Ra
end Go.Proofs.YtmnlmmbfjfgfeaaDoor
/- Ratios, the document's: Gcd and Floor out of its Whole. -/
set_option linter.unusedSimpArgs false
set_option linter.unusedVariables false
set_option linter.unusedSectionVars false
set_option maxRecDepth 20000
set_option maxHeartbeats 4000000
namespace Go.Proofs.YtmnlmmbfjfgfeaaDoor
open Go Go.J
attribute [local irreducible] At AtQ AtM AtM1 PR Ct Pu Rd Res.blk Res.own Res.ex RVs RV
namespace Ra
open Wide
/-- what the document's Whole is to tell -/
def WholeR : Prop := ∀ a d : Nat, a < 340282366920938463463374607431768211456 → d < 340282366920938463463374607431768211456 → Pu Tryd.prog 54 #[wv a, wv d] (.tuple #[wv (a / d), wv (a % d)])
theorem gcd_r (hW : WholeR) (x y : Nat) (hx : x < 340282366920938463463374607431768211456) (hy : y < 340282366920938463463374607431768211456) : Pu Tryd.prog 53 #[wv x, wv y] (wv (Nat.gcd x y)) := Pu.intro fun m => by
  refine Ct.enterV (by rfl) Tryd.func53 rfl Tryd.ntmps53 rfl (fun w0 Rest => ?_)
  (repeat' (first | refine zss ?_ | refine zs0 ?_ | ((with_reducible apply At.box (d := 2)); exact rfl; exact rfl; exact rfl; intro b2) | ((with_reducible apply At.box (d := 3)); exact rfl; exact rfl; exact rfl; intro b3) | ((with_reducible apply At.alloc (d := 4)); exact rfl; exact rfl; intro b4) | ((with_reducible apply At.alloc (d := 5)); exact rfl; exact rfl; intro b5) | ((with_reducible apply At.alloc (d := 6)); exact rfl; exact rfl; intro b6) | (refine zsp ?_ ?_ <;> (intro hc; (try simp only [zhcs, reduceCtorEq] at hc); (try (exfalso; first | contradiction | omega | exact absurd rfl hc | exact absurd (by decide) hc))))))
  (refine At.loopk (σ := GS) [2, 3, 4] (fun s F0 => F0) (fun s => m) (fun s => .blk b2 25 (wd s.a) :: .blk b3 25 (wd s.b) :: .blk b4 25 (wd 0) :: Rest) (fun s => s.a < 340282366920938463463374607431768211456 ∧ s.b < 340282366920938463463374607431768211456 ∧ Nat.gcd s.a s.b = Nat.gcd x y) (fun s => s.b) ⟨x, y⟩ (by rfl) ?_ zsubs zml zente ?_)
  · exact ⟨hx, hy, rfl⟩
  rintro ⟨a, b⟩ ⟨g1, g2, g3⟩
  dsimp only at g1 g2 g3 ⊢
  by_cases hb : b = 0
  · subst hb
    rw [Nat.gcd_zero_right] at g3
    subst g3
    (repeat' (first | refine zss ?_ | ((first | (with_reducible first | apply At.val | apply AtQ.val)); (exact pr_wne (a := 0) (b := 0) (by rfl) (by rfl)); exact rfl) | refine zs0 ?_ | ((with_reducible apply At.box (d := 2)); exact rfl; exact rfl; exact rfl; intro b2) | ((with_reducible apply At.box (d := 3)); exact rfl; exact rfl; exact rfl; intro b3) | ((with_reducible apply At.alloc (d := 4)); exact rfl; exact rfl; intro b4) | ((with_reducible apply At.alloc (d := 5)); exact rfl; exact rfl; intro b5) | ((with_reducible apply At.alloc (d := 6)); exact rfl; exact rfl; intro b6) | (refine zsp ?_ ?_ <;> (intro hc; (try simp only [zhcs, reduceCtorEq] at hc); (try (exfalso; first | contradiction | omega | exact absurd rfl hc | exact absurd (by decide) hc))))))
    all_goals ((with_reducible apply At.retV (B := [])); exact rfl; (repeat' (first | exact RVs.nil | (with_reducible apply RVs.cons) | exact rv_tmp (by rfl) | exact rv_cellN (by rfl) (by repeat constructor) (by rfl) (by rfl) (by rfl) | exact rv_cell1 (by rfl) (by repeat constructor) (by rfl) (by rfl))); exact zml; exact zkp; exact ⟨rfl, rfl, rfl⟩)
  · have k1 := hW a b g1 g2
    have e : (!decide (b = 0)) = true := by rw [decide_eq_false hb]; rfl
    have pw : ∀ {n' : Nat} {F : Fr} {C : World → Prop} {x y : Operand} {u : TypeId}, ev F x = some (wv b) → ev F y = some (wv 0) → PR Tryd.prog n' F C (.binOp .neq 25 x y u) (.bool true) := fun hx hy => by rw [← e]; exact pr_wne hx hy
    have hm := Nat.mod_lt a (Nat.pos_of_ne_zero hb)
    have hg : Nat.gcd b (a % b) = Nat.gcd a b := by rw [Nat.gcd_comm b, ← Nat.gcd_rec, Nat.gcd_comm]
    generalize a % b = c at k1 hm hg
    generalize a / b = q at k1
    (repeat' (first | ((with_reducible apply At.mixedB (id := 3) 2 4 (.q 0 (.q 1 (.l 2 (.x 3 .done))))); exact rfl; exact (by repeat constructor); exact rfl; kernel_rfl; kernel_rfl; kernel_rfl) | refine zsx ?_ | refine zss ?_ | ((with_reducible apply AtM.bo); exact rfl; exact rfl; exact rfl) | ((first | (with_reducible first | apply At.val | apply AtQ.val) | ((with_reducible first | apply AtM1.valz | apply AtM1.val); exact rfl) | ((with_reducible apply AtM1.val); exact rfl)); (exact pw (by rfl) (by rfl)); exact rfl) | refine zs0 ?_ | refine zx0 ?_ | ((with_reducible first | apply AtM1.callp | apply AtQ.callp | apply At.callp); kernel_rfl; exact rfl; exact rfl; exact k1) | ((with_reducible apply At.box (d := 2)); exact rfl; exact rfl; exact rfl; intro b2) | ((with_reducible apply At.box (d := 3)); exact rfl; exact rfl; exact rfl; intro b3) | ((with_reducible apply At.alloc (d := 4)); exact rfl; exact rfl; intro b4) | ((with_reducible apply At.alloc (d := 5)); exact rfl; exact rfl; intro b5) | ((with_reducible apply At.alloc (d := 6)); exact rfl; exact rfl; intro b6) | (refine zsp ?_ ?_ <;> (intro hc; (try simp only [zhcs, reduceCtorEq] at hc); (try (exfalso; first | contradiction | omega | exact absurd rfl hc | exact absurd (by decide) hc))))))
    all_goals ((with_reducible refine At.reachk ((⟨b, c⟩ : GS)) ?_ ?_ ?_ ?_); exact zsubs; exact zml; exact zente; exact ⟨⟨g2, Nat.lt_trans hm g2, hg.trans g3⟩, hm⟩)
end Ra
end Go.Proofs.YtmnlmmbfjfgfeaaDoor
/- Ratios, the document's: Reduce and Rate out of its Whole. -/
set_option linter.unusedSimpArgs false
set_option linter.unusedVariables false
set_option linter.unusedSectionVars false
set_option maxRecDepth 20000
set_option maxHeartbeats 4000000
namespace Go.Proofs.YtmnlmmbfjfgfeaaDoor
open Go Go.J
attribute [local irreducible] At AtQ AtM AtM1 PR Ct Pu Rd Res.blk Res.own Res.ex RVs RV
namespace Ra
open Wide
theorem reduce_r (hW : WholeR) (n d : Nat) (hn : n < 340282366920938463463374607431768211456) (hd : d < 340282366920938463463374607431768211456) : Pu Tryd.prog 34 #[wv n, wv d] (.tuple #[rv (red n d).1.1 (red n d).1.2, .int .i64 (red n d).2]) := Pu.intro fun m => by
  unfold red
  by_cases h : d = 0
  · rw [if_pos h]
    subst h
    refine Ct.enterV (by rfl) Tryd.func34 rfl Tryd.ntmps34 rfl (fun w0 Rest => ?_)
    (repeat' (first | refine zss ?_ | ((first | (with_reducible first | apply At.val | apply AtQ.val)); (first | exact pr_weq (a := 0) (b := 0) (by rfl) (by rfl) | exact zprA); exact rfl) | refine zs0 ?_ | ((with_reducible apply At.box (d := 2)); exact rfl; exact rfl; exact rfl; intro b2) | ((with_reducible apply At.box (d := 3)); exact rfl; exact rfl; exact rfl; intro b3) | ((with_reducible apply At.alloc (d := 4)); exact rfl; exact rfl; intro b4) | ((with_reducible apply At.alloc (d := 6)); exact rfl; exact rfl; intro b6) | ((with_reducible apply At.alloc (d := 7)); exact rfl; exact rfl; intro b7) | ((with_reducible apply At.alloc (d := 8)); exact rfl; exact rfl; intro b8) | ((with_reducible apply At.alloc (d := 9)); exact rfl; exact rfl; intro b9) | ((with_reducible apply At.alloc (d := 10)); exact rfl; exact rfl; intro b10) | (refine zsp ?_ ?_ <;> (intro hc; (try simp only [zhcs, reduceCtorEq] at hc); (try (exfalso; first | contradiction | omega | exact absurd rfl hc | exact absurd (by decide) hc))))))
    all_goals ((with_reducible apply At.retV (B := [])); exact rfl; (repeat' (first | exact RVs.nil | (with_reducible apply RVs.cons) | exact rv_tmp (by rfl) | exact rv_cellN (by rfl) (by repeat constructor) (by rfl) (by rfl) (by rfl) | exact rv_cell1 (by rfl) (by repeat constructor) (by rfl) (by rfl) | exact rv_cellA (by rfl) (by repeat constructor) (by rfl) (by rfl) zlq)); exact zml; exact zkp; exact ⟨rfl, rfl, rfl⟩)
  · rw [if_neg h]
    have e : decide (d = 0) = false := decide_eq_false h
    have pw : ∀ {n' : Nat} {F : Fr} {C : World → Prop} {x y : Operand} {u : TypeId}, ev F x = some (wv d) → ev F y = some (wv 0) → PR Tryd.prog n' F C (.binOp .eql 25 x y u) (.bool false) := fun hx hy => by rw [← e]; exact pr_weq hx hy
    have k2 := gcd_r hW n d hn hd
    have hg : Nat.gcd n d < 340282366920938463463374607431768211456 := Nat.lt_of_le_of_lt (Nat.gcd_le_right n (Nat.pos_of_ne_zero h) : Nat.gcd n d ≤ d) hd
    generalize Nat.gcd n d = g at k2 hg ⊢
    have k3 := hW n g hn hg
    have k4 := hW d g hd hg
    generalize n % g = r1 at k3
    generalize d % g = r2 at k4
    generalize n / g = q1 at k3 ⊢
    generalize d / g = q2 at k4 ⊢
    refine Ct.enterV (by rfl) Tryd.func34 rfl Tryd.ntmps34 rfl (fun w0 Rest => ?_)
    (repeat' (first | refine zss ?_ | ((first | (with_reducible first | apply At.val | apply AtQ.val)); (first | exact pw (by rfl) (by rfl) | exact zprA); exact rfl) | refine zs0 ?_ | ((with_reducible first | apply AtM1.callp | apply AtQ.callp | apply At.callp); kernel_rfl; exact rfl; exact rfl; exact k2) | ((with_reducible first | apply AtM1.callp | apply AtQ.callp | apply At.callp); kernel_rfl; exact rfl; exact rfl; exact k3) | ((with_reducible first | apply AtM1.callp | apply AtQ.callp | apply At.callp); kernel_rfl; exact rfl; exact rfl; exact k4) | ((with_reducible apply At.box (d := 2)); exact rfl; exact rfl; exact rfl; intro b2) | ((with_reducible apply At.box (d := 3)); exact rfl; exact rfl; exact rfl; intro b3) | ((with_reducible apply At.alloc (d := 4)); exact rfl; exact rfl; intro b4) | ((with_reducible apply At.alloc (d := 6)); exact rfl; exact rfl; intro b6) | ((with_reducible apply At.alloc (d := 7)); exact rfl; exact rfl; intro b7) | ((with_reducible apply At.alloc (d := 8)); exact rfl; exact rfl; intro b8) | ((with_reducible apply At.alloc (d := 9)); exact rfl; exact rfl; intro b9) | ((with_reducible apply At.alloc (d := 10)); exact rfl; exact rfl; intro b10) | (refine zsp ?_ ?_ <;> (intro hc; (try simp only [zhcs, reduceCtorEq] at hc); (try (exfalso; first | contradiction | omega | exact absurd rfl hc | exact absurd (by decide) hc))))))
    all_goals ((with_reducible apply At.retV (B := [])); exact rfl; (repeat' (first | exact RVs.nil | (with_reducible apply RVs.cons) | exact rv_tmp (by rfl) | exact rv_cellN (by rfl) (by repeat constructor) (by rfl) (by rfl) (by rfl) | exact rv_cell1 (by rfl) (by repeat constructor) (by rfl) (by rfl) | exact rv_cellA (by rfl) (by repeat constructor) (by rfl) (by rfl) zlq)); exact zml; exact zkp; exact ⟨rfl, rfl, rfl⟩)
end Ra
end Go.Proofs.YtmnlmmbfjfgfeaaDoor
/- Ratios, the document's: Whole, a bit at a time. -/
set_option linter.unusedSimpArgs false
set_option linter.unusedVariables false
set_option linter.unusedSectionVars false
set_option maxRecDepth 20000
set_option maxHeartbeats 4000000
namespace Go.Proofs.YtmnlmmbfjfgfeaaDoor
open Go Go.J
attribute [local irreducible] At AtQ AtM AtM1 PR Ct Pu Rd Res.blk Res.own Res.ex RVs RV
namespace Ra
open Wide
theorem whole_r : WholeR := fun a d ha hd => Pu.intro fun m => by
  by_cases h0 : d = 0
  · subst h0
    rw [Nat.div_zero, Nat.mod_zero]
    refine Ct.enterV (by rfl) Tryd.func54 rfl Tryd.ntmps54 rfl (fun w0 Rest => ?_)
    (repeat' (first | ((with_reducible apply At.mixedB (id := 2) 4 4 (.q 0 (.q 1 (.l 2 (.x 3 .done))))); exact rfl; exact (by repeat constructor); exact rfl; kernel_rfl; kernel_rfl; kernel_rfl) | ((with_reducible apply At.mixed (id := 13) 16 (.q 0 (.q 1 (.q 2 (.q 3 (.q 4 (.q 5 (.q 6 (.q 7 (.q 8 (.q 9 (.q 10 (.q 11 (.q 12 (.q 13 (.q 14 (.x 15 .done))))))))))))))))); exact rfl; kernel_rfl; kernel_rfl; kernel_rfl) | ((with_reducible apply At.mixed (id := 15) 10 (.q 0 (.q 1 (.q 2 (.q 3 (.q 4 (.q 5 (.q 6 (.q 7 (.q 8 (.x 9 .done))))))))))); exact rfl; kernel_rfl; kernel_rfl; kernel_rfl) | ((with_reducible apply At.mixed (id := 16) 16 (.q 0 (.q 1 (.q 2 (.q 3 (.q 4 (.q 5 (.q 6 (.q 7 (.q 8 (.q 9 (.q 10 (.q 11 (.q 12 (.q 13 (.q 14 (.x 15 .done))))))))))))))))); exact rfl; kernel_rfl; kernel_rfl; kernel_rfl) | ((with_reducible apply At.mixed (id := 19) 10 (.q 0 (.q 1 (.q 2 (.q 3 (.q 4 (.q 5 (.q 6 (.q 7 (.q 8 (.x 9 .done))))))))))); exact rfl; kernel_rfl; kernel_rfl; kernel_rfl) | ((with_reducible apply At.mixedB (id := 20) 4 5 (.q 0 (.q 1 (.q 2 (.l 3 (.x 4 .done)))))); exact rfl; exact (by repeat constructor); exact rfl; kernel_rfl; kernel_rfl; kernel_rfl) | refine zsx ?_ | refine zss ?_ | ((with_reducible apply AtM.bo); exact rfl; exact rfl; exact rfl) | ((first | (with_reducible first | apply At.val | apply AtQ.val) | ((with_reducible first | apply AtM1.valz | apply AtM1.val); exact rfl) | ((with_reducible apply AtM1.val); exact rfl)); (first | exact pr_weq (a := 0) (b := 0) (by rfl) (by rfl) | exact zprA); exact rfl) | refine zs0 ?_ | refine zx0 ?_ | ((with_reducible apply At.box (d := 2)); exact rfl; exact rfl; exact rfl; intro b2) | ((with_reducible apply At.box (d := 3)); exact rfl; exact rfl; exact rfl; intro b3) | ((with_reducible apply At.alloc (d := 4)); exact rfl; exact rfl; intro b4) | ((with_reducible apply At.alloc (d := 5)); exact rfl; exact rfl; intro b5) | ((with_reducible apply At.alloc (d := 6)); exact rfl; exact rfl; intro b6) | ((with_reducible apply At.alloc (d := 7)); exact rfl; exact rfl; intro b7) | ((with_reducible apply At.alloc (d := 8)); exact rfl; exact rfl; intro b8) | ((with_reducible apply At.alloc (d := 10)); exact rfl; exact rfl; intro b10) | ((with_reducible apply At.alloc (d := 12)); exact rfl; exact rfl; intro b12) | (refine zsp ?_ ?_ <;> (intro hc; (try simp only [zhcs, reduceCtorEq] at hc); (try (exfalso; first | contradiction | omega | exact absurd rfl hc | exact absurd (by decide) hc))))))
    all_goals ((with_reducible apply At.retV (B := [])); exact rfl; (repeat' (first | exact RVs.nil | (with_reducible apply RVs.cons) | exact rv_tmp (by rfl) | exact rv_cellN (by rfl) (by repeat constructor) (by rfl) (by rfl) (by rfl) | exact rv_cell1 (by rfl) (by repeat constructor) (by rfl) (by rfl) | exact rv_cellA (by rfl) (by repeat constructor) (by rfl) (by rfl) zlq)); exact zml; exact zkp; exact ⟨rfl, rfl, rfl⟩)
  have hn : 0 < d := Nat.pos_of_ne_zero h0
  have pw : ∀ {n' : Nat} {F : Fr} {C : World → Prop} {x y : Operand} {u : TypeId}, ev F x = some (wv d) → ev F y = some (wv 0) → PR Tryd.prog n' F C (.binOp .eql 25 x y u) (.bool false) := fun hx hy => by rw [← decide_eq_false h0]; exact pr_weq hx hy
  have hlx := tab_len (dg a)
  have hmx := tabm_len (dg a)
  refine Ct.enterV (by rfl) Tryd.func54 rfl Tryd.ntmps54 rfl (fun w0 Rest => ?_)
  (repeat' (first | refine zss ?_ | ((first | (with_reducible first | apply At.val | apply AtQ.val)); (first | exact pw (by rfl) (by rfl) | exact zprA); exact rfl) | refine zs0 ?_ | ((with_reducible first | apply AtM1.callp | apply AtQ.callp | apply At.callp); kernel_rfl; exact rfl; exact rfl; exact Wide.bytes a ha) | ((with_reducible apply At.storeA); exact rfl; exact rfl; exact rfl; exact all_gi _; exact (by repeat constructor); (first | exact rfl | (first | omega | (simp only [lns] <;> omega))); (first | exact rfl | (first | omega | (simp only [lns] <;> omega)))) | ((with_reducible apply At.box (d := 2)); exact rfl; exact rfl; exact rfl; intro b2) | ((with_reducible apply At.box (d := 3)); exact rfl; exact rfl; exact rfl; intro b3) | ((with_reducible apply At.alloc (d := 4)); exact rfl; exact rfl; intro b4) | ((with_reducible apply At.alloc (d := 5)); exact rfl; exact rfl; intro b5) | ((with_reducible apply At.alloc (d := 6)); exact rfl; exact rfl; intro b6) | ((with_reducible apply At.alloc (d := 7)); exact rfl; exact rfl; intro b7) | ((with_reducible apply At.alloc (d := 8)); exact rfl; exact rfl; intro b8) | ((with_reducible apply At.alloc (d := 10)); exact rfl; exact rfl; intro b10) | ((with_reducible apply At.alloc (d := 12)); exact rfl; exact rfl; intro b12) | (refine zsp ?_ ?_ <;> (intro hc; (try simp only [zhcs, reduceCtorEq] at hc); (try (exfalso; first | omega | contradiction | omega | exact absurd rfl hc | exact absurd (by decide) hc))))))
  rw [show ([.int .u64 0, .int .u64 0] : List Value) = wd 0 from rfl]
  (refine At.loopk (σ := DS) [3, 4, 5, 6, 7, 8] (fun s F0 => (9, .int .i64 ((s.i : Int) - 1)) :: F0) (fun s => m) (fun s => .blk b8 77 ((tab (dg a)).map gi) :: .blk b7 25 (wd s.L) :: .blk b6 77 ((tab (dg s.O)).map gi) :: .blk b5 25 (wd 0) :: .blk b4 25 (wd 0) :: .blk b3 25 (wd d) :: Rest) (fun s => s.i ≤ 128 ∧ s.O = a / 2 ^ s.i / d * 2 ^ s.i ∧ s.L = a / 2 ^ s.i % d) (fun s => s.i) ⟨128, 0, 0⟩ (by rfl) ?_ zsubs zml zente ?_)
  · refine ⟨Nat.le_refl _, ?_, ?_⟩
    · show 0 = a / 2 ^ 128 / d * 2 ^ 128
      rw [Nat.div_eq_of_lt (show a < 2 ^ 128 from ha), Nat.zero_div, Nat.zero_mul]
    · show 0 = a / 2 ^ 128 % d
      rw [Nat.div_eq_of_lt (show a < 2 ^ 128 from ha), Nat.zero_mod]
  rintro ⟨i, O, L⟩ ⟨hi, hO, hL⟩
  dsimp only at hi hO hL ⊢
  have hlO := tab_len (dg O)
  have hmO := tabm_len (dg O)
  have hLn : L < d := by rw [hL]; exact Nat.mod_lt _ hn
  rcases i with _ | i
  · rw [Nat.pow_zero, Nat.div_one, Nat.mul_one] at hO
    rw [Nat.pow_zero, Nat.div_one] at hL
    have hOb : O < 340282366920938463463374607431768211456 := by rw [hO]; exact Nat.lt_of_le_of_lt (Nat.div_le_self _ _) ha
    rw [← hO, ← hL]
    (repeat' (first | ((with_reducible apply At.mixedB (id := 2) 4 4 (.q 0 (.q 1 (.l 2 (.x 3 .done))))); exact rfl; exact (by repeat constructor); exact rfl; kernel_rfl; kernel_rfl; kernel_rfl) | ((with_reducible apply At.mixed (id := 13) 16 (.q 0 (.q 1 (.q 2 (.q 3 (.q 4 (.q 5 (.q 6 (.q 7 (.q 8 (.q 9 (.q 10 (.q 11 (.q 12 (.q 13 (.q 14 (.x 15 .done))))))))))))))))); exact rfl; kernel_rfl; kernel_rfl; kernel_rfl) | ((with_reducible apply At.mixed (id := 15) 10 (.q 0 (.q 1 (.q 2 (.q 3 (.q 4 (.q 5 (.q 6 (.q 7 (.q 8 (.x 9 .done))))))))))); exact rfl; kernel_rfl; kernel_rfl; kernel_rfl) | ((with_reducible apply At.mixed (id := 16) 16 (.q 0 (.q 1 (.q 2 (.q 3 (.q 4 (.q 5 (.q 6 (.q 7 (.q 8 (.q 9 (.q 10 (.q 11 (.q 12 (.q 13 (.q 14 (.x 15 .done))))))))))))))))); exact rfl; kernel_rfl; kernel_rfl; kernel_rfl) | ((with_reducible apply At.mixed (id := 19) 10 (.q 0 (.q 1 (.q 2 (.q 3 (.q 4 (.q 5 (.q 6 (.q 7 (.q 8 (.x 9 .done))))))))))); exact rfl; kernel_rfl; kernel_rfl; kernel_rfl) | ((with_reducible apply At.mixedB (id := 20) 4 5 (.q 0 (.q 1 (.q 2 (.l 3 (.x 4 .done)))))); exact rfl; exact (by repeat constructor); exact rfl; kernel_rfl; kernel_rfl; kernel_rfl) | refine zsx ?_ | refine zss ?_ | ((with_reducible apply AtM.bo); exact rfl; exact rfl; exact rfl) | ((first | (with_reducible first | apply At.val | apply AtQ.val) | ((with_reducible first | apply AtM1.valz | apply AtM1.val); exact rfl) | ((with_reducible apply AtM1.val); exact rfl)); (exact zprA); exact rfl) | refine zs0 ?_ | refine zx0 ?_ | ((with_reducible first | apply AtM1.callp | apply AtQ.callp | apply At.callp); kernel_rfl; exact rfl; exact rfl; exact of_r O hOb) | ((with_reducible apply At.box (d := 2)); exact rfl; exact rfl; exact rfl; intro b2) | ((with_reducible apply At.box (d := 3)); exact rfl; exact rfl; exact rfl; intro b3) | ((with_reducible apply At.alloc (d := 4)); exact rfl; exact rfl; intro b4) | ((with_reducible apply At.alloc (d := 5)); exact rfl; exact rfl; intro b5) | ((with_reducible apply At.alloc (d := 6)); exact rfl; exact rfl; intro b6) | ((with_reducible apply At.alloc (d := 7)); exact rfl; exact rfl; intro b7) | ((with_reducible apply At.alloc (d := 8)); exact rfl; exact rfl; intro b8) | ((with_reducible apply At.alloc (d := 10)); exact rfl; exact rfl; intro b10) | ((with_reducible apply At.alloc (d := 12)); exact rfl; exact rfl; intro b12) | (refine zsp ?_ ?_ <;> (intro hc; (try simp only [zhcs, reduceCtorEq] at hc); (try (exfalso; first | omega | contradiction | omega | exact absurd rfl hc | exact absurd (by decide) hc))))))
    all_goals ((with_reducible apply At.retV (B := [])); exact rfl; (repeat' (first | exact RVs.nil | (with_reducible apply RVs.cons) | exact rv_tmp (by rfl) | exact rv_cellN (by rfl) (by repeat constructor) (by rfl) (by rfl) (by rfl) | exact rv_cell1 (by rfl) (by repeat constructor) (by rfl) (by rfl) | exact rv_cellA (by rfl) (by repeat constructor) (by rfl) (by rfl) zlq)); exact zml; exact zkp; exact ⟨rfl, rfl, rfl⟩)
  · rw [show (((i + 1 : Nat) : Int) - 1) = (i : Int) by omega]
    obtain ⟨d0, d1, d2⟩ := div_bit a d i hn
    have hbit := bit_of a i
    obtain ⟨b, hb⟩ : ∃ b, b = a / 2 ^ i % 2 := ⟨_, rfl⟩
    have hb2 : b < 2 := by rw [hb]; exact Nat.mod_lt _ (by decide)
    rw [← hb] at d0 d1 d2 hbit
    rw [← hL] at d1 d2
    have hOm : O % 2 ^ (i + 1) = 0 := by rw [hO]; exact Nat.mul_mod_left _ _
    have hdl := dg_lt a (i / 8)
    have hol := dg_lt O (i / 8)
    have f1 : IntKind.wrap .i64 ((i : Int).tdiv 8) = ((i / 8 : Nat) : Int) := by
      have e : (i : Int).tdiv 8 = ((i / 8 : Nat) : Int) := (Int.ofNat_tdiv i 8).symm
      rw [e, IntKind.wrap_i64]; omega
    have f2 : (i : Int).tmod 8 = ((i % 8 : Nat) : Int) := u_rem i 8
    have f3 := u_shr (dg a (i / 8)) (i % 8)
    have f4 := i64_and1 (a := dg a (i / 8) / 2 ^ (i % 8)) (Nat.lt_of_le_of_lt (Nat.div_le_self _ _) hdl)
    rw [hbit] at f4
    have f5 := u_inN (a := b) (by omega)
    have f6 : IntKind.wrap .i64 (1 * 2 ^ ((i % 8 : Nat) : Int).toNat) = ((2 ^ (i % 8) : Nat) : Int) := by
      have : (2 : Nat) ^ (i % 8) ≤ 2 ^ 7 := Nat.pow_le_pow_right (by decide) (by omega)
      rw [Int.toNat_natCast, Int.one_mul, show ((2 : Int) ^ (i % 8)) = ((2 ^ (i % 8) : Nat) : Int) by rw [Int.natCast_pow]; rfl, IntKind.wrap_i64]
      generalize 2 ^ (i % 8) = p at *
      omega
    have f7 := i64_or8 hol (Nat.mod_lt i (by decide)) (dg_or_mod O i hOm)
    have e := tab_bit O i (by omega) hOm
    have ad1 := add_r L L (by omega) (by omega)
    by_cases hov : L + L < 340282366920938463463374607431768211456
    · rw [show sV (L + L) = L + L from if_pos hov, show sE (L + L) = 0 from if_pos hov] at ad1
      have hov2 : L + L + b < 340282366920938463463374607431768211456 := by omega
      have ad2 := add_r (L + L) b hov (by omega)
      rw [show sV (L + L + b) = L + L + b from if_pos hov2, show sE (L + L + b) = 0 from if_pos hov2, ← wd_small (b := b) (by omega)] at ad2
      have kl := less_r (L + L + b) d hov2 hd
      by_cases hc0 : L + L + b < d
      · rw [decide_eq_true hc0] at kl
        obtain ⟨r1, r2⟩ := d1 (by omega)
        clear d0 d1 d2 hbit
        (repeat' (first | ((with_reducible apply At.mixedB (id := 2) 4 4 (.q 0 (.q 1 (.l 2 (.x 3 .done))))); exact rfl; exact (by repeat constructor); exact rfl; kernel_rfl; kernel_rfl; kernel_rfl) | ((with_reducible apply At.mixed (id := 13) 16 (.q 0 (.q 1 (.q 2 (.q 3 (.q 4 (.q 5 (.q 6 (.q 7 (.q 8 (.q 9 (.q 10 (.q 11 (.q 12 (.q 13 (.q 14 (.x 15 .done))))))))))))))))); exact rfl; kernel_rfl; kernel_rfl; kernel_rfl) | ((with_reducible apply At.mixed (id := 15) 10 (.q 0 (.q 1 (.q 2 (.q 3 (.q 4 (.q 5 (.q 6 (.q 7 (.q 8 (.x 9 .done))))))))))); exact rfl; kernel_rfl; kernel_rfl; kernel_rfl) | ((with_reducible apply At.mixed (id := 16) 16 (.q 0 (.q 1 (.q 2 (.q 3 (.q 4 (.q 5 (.q 6 (.q 7 (.q 8 (.q 9 (.q 10 (.q 11 (.q 12 (.q 13 (.q 14 (.x 15 .done))))))))))))))))); exact rfl; kernel_rfl; kernel_rfl; kernel_rfl) | ((with_reducible apply At.mixed (id := 19) 10 (.q 0 (.q 1 (.q 2 (.q 3 (.q 4 (.q 5 (.q 6 (.q 7 (.q 8 (.x 9 .done))))))))))); exact rfl; kernel_rfl; kernel_rfl; kernel_rfl) | ((with_reducible apply At.mixedB (id := 20) 4 5 (.q 0 (.q 1 (.q 2 (.l 3 (.x 4 .done)))))); exact rfl; exact (by repeat constructor); exact rfl; kernel_rfl; kernel_rfl; kernel_rfl) | refine zsx ?_ | refine zss ?_ | ((with_reducible apply AtM.bo); exact rfl; exact rfl; exact rfl) | ((first | (with_reducible first | apply At.val | apply AtQ.val) | ((with_reducible first | apply AtM1.valz | apply AtM1.val); exact rfl) | ((with_reducible apply AtM1.val); exact rfl)); (first | exact pr_quo (by rfl) (by rfl) (by omega) f1 | exact pr_rem (by rfl) (by rfl) (by omega) f2 | exact pr_shrv (by rfl) (by rfl) (by omega) (by simp only [IntKind.bits]; omega) f3 | exact pr_shlv (by rfl) (by rfl) (by omega) (by simp only [IntKind.bits]; omega) f6 | exact pr_and (by rfl) (by rfl) f4 | exact pr_or (by rfl) (by rfl) f7 | exact pr_load_tab (k := i / 8) (by rfl) (by first | exact pk0 | exact pk1 | exact pk2 | exact pk3 | exact pk4 | exact pk5 | exact pk6) (by rfl) (by omega) | exact zprA); exact rfl) | refine zs0 ?_ | refine zx0 ?_ | ((with_reducible apply At.storeArr (g := gi) (((dg O (i / 8) + 2 ^ (i % 8) : Nat) : Int))); exact rfl; exact rfl; exact rfl; exact rfl; exact rfl; exact rfl; exact (by repeat constructor); (first | omega | (simp only [lns] <;> omega))) | ((with_reducible first | apply AtM1.callp | apply AtQ.callp | apply At.callp); kernel_rfl; exact rfl; exact rfl; exact ad1) | ((with_reducible first | apply AtM1.callp | apply AtQ.callp | apply At.callp); kernel_rfl; exact rfl; exact rfl; exact ad2) | ((with_reducible first | apply AtM1.callp | apply AtQ.callp | apply At.callp); kernel_rfl; exact rfl; exact rfl; exact kl) | ((with_reducible apply At.box (d := 2)); exact rfl; exact rfl; exact rfl; intro b2) | ((with_reducible apply At.box (d := 3)); exact rfl; exact rfl; exact rfl; intro b3) | ((with_reducible apply At.alloc (d := 4)); exact rfl; exact rfl; intro b4) | ((with_reducible apply At.alloc (d := 5)); exact rfl; exact rfl; intro b5) | ((with_reducible apply At.alloc (d := 6)); exact rfl; exact rfl; intro b6) | ((with_reducible apply At.alloc (d := 7)); exact rfl; exact rfl; intro b7) | ((with_reducible apply At.alloc (d := 8)); exact rfl; exact rfl; intro b8) | ((with_reducible apply At.alloc (d := 10)); exact rfl; exact rfl; intro b10) | ((with_reducible apply At.alloc (d := 12)); exact rfl; exact rfl; intro b12) | (refine zsp ?_ ?_ <;> (intro hc; (try simp only [zhcs, reduceCtorEq] at hc); (try (exfalso; first | (first | omega | exact absurd hc (by decide)) | contradiction | omega | exact absurd rfl hc | exact absurd (by decide) hc))))))
        all_goals ((with_reducible refine At.reachk (⟨i, O, L + L + b⟩) ?_ ?_ ?_ ?_); exact zsubs; exact zml; exact zente; exact ⟨⟨by dsimp only; omega, by dsimp only; rw [r2, hO, Nat.pow_succ]; rw [Nat.mul_comm 2, Nat.mul_assoc, Nat.mul_comm 2], by dsimp only; rw [r1]; omega⟩, Nat.lt_succ_self i⟩)
      · rw [decide_eq_false hc0] at kl
        obtain ⟨r1, r2⟩ := d2 (by omega)
        have ks := sub_r (L + L + b) d hov2 hd
        rw [show dE (L + L + b) d = 0 from if_neg hc0] at ks
        clear d0 d1 d2 hbit
        (repeat' (first | ((with_reducible apply At.mixedB (id := 2) 4 4 (.q 0 (.q 1 (.l 2 (.x 3 .done))))); exact rfl; exact (by repeat constructor); exact rfl; kernel_rfl; kernel_rfl; kernel_rfl) | ((with_reducible apply At.mixed (id := 13) 16 (.q 0 (.q 1 (.q 2 (.q 3 (.q 4 (.q 5 (.q 6 (.q 7 (.q 8 (.q 9 (.q 10 (.q 11 (.q 12 (.q 13 (.q 14 (.x 15 .done))))))))))))))))); exact rfl; kernel_rfl; kernel_rfl; kernel_rfl) | ((with_reducible apply At.mixed (id := 15) 10 (.q 0 (.q 1 (.q 2 (.q 3 (.q 4 (.q 5 (.q 6 (.q 7 (.q 8 (.x 9 .done))))))))))); exact rfl; kernel_rfl; kernel_rfl; kernel_rfl) | ((with_reducible apply At.mixed (id := 16) 16 (.q 0 (.q 1 (.q 2 (.q 3 (.q 4 (.q 5 (.q 6 (.q 7 (.q 8 (.q 9 (.q 10 (.q 11 (.q 12 (.q 13 (.q 14 (.x 15 .done))))))))))))))))); exact rfl; kernel_rfl; kernel_rfl; kernel_rfl) | ((with_reducible apply At.mixed (id := 19) 10 (.q 0 (.q 1 (.q 2 (.q 3 (.q 4 (.q 5 (.q 6 (.q 7 (.q 8 (.x 9 .done))))))))))); exact rfl; kernel_rfl; kernel_rfl; kernel_rfl) | ((with_reducible apply At.mixedB (id := 20) 4 5 (.q 0 (.q 1 (.q 2 (.l 3 (.x 4 .done)))))); exact rfl; exact (by repeat constructor); exact rfl; kernel_rfl; kernel_rfl; kernel_rfl) | refine zsx ?_ | refine zss ?_ | ((with_reducible apply AtM.bo); exact rfl; exact rfl; exact rfl) | ((first | (with_reducible first | apply At.val | apply AtQ.val) | ((with_reducible first | apply AtM1.valz | apply AtM1.val); exact rfl) | ((with_reducible apply AtM1.val); exact rfl)); (first | exact pr_quo (by rfl) (by rfl) (by omega) f1 | exact pr_rem (by rfl) (by rfl) (by omega) f2 | exact pr_shrv (by rfl) (by rfl) (by omega) (by simp only [IntKind.bits]; omega) f3 | exact pr_shlv (by rfl) (by rfl) (by omega) (by simp only [IntKind.bits]; omega) f6 | exact pr_and (by rfl) (by rfl) f4 | exact pr_or (by rfl) (by rfl) f7 | exact pr_load_tab (k := i / 8) (by rfl) (by first | exact pk0 | exact pk1 | exact pk2 | exact pk3 | exact pk4 | exact pk5 | exact pk6) (by rfl) (by omega) | exact zprA); exact rfl) | refine zs0 ?_ | refine zx0 ?_ | ((with_reducible apply At.storeArr (g := gi) (((dg O (i / 8) + 2 ^ (i % 8) : Nat) : Int))); exact rfl; exact rfl; exact rfl; exact rfl; exact rfl; exact rfl; exact (by repeat constructor); (first | omega | (simp only [lns] <;> omega))) | ((with_reducible first | apply AtM1.callp | apply AtQ.callp | apply At.callp); kernel_rfl; exact rfl; exact rfl; exact ad1) | ((with_reducible first | apply AtM1.callp | apply AtQ.callp | apply At.callp); kernel_rfl; exact rfl; exact rfl; exact ad2) | ((with_reducible first | apply AtM1.callp | apply AtQ.callp | apply At.callp); kernel_rfl; exact rfl; exact rfl; exact kl) | ((with_reducible first | apply AtM1.callp | apply AtQ.callp | apply At.callp); kernel_rfl; exact rfl; exact rfl; exact ks) | ((with_reducible apply At.box (d := 2)); exact rfl; exact rfl; exact rfl; intro b2) | ((with_reducible apply At.box (d := 3)); exact rfl; exact rfl; exact rfl; intro b3) | ((with_reducible apply At.alloc (d := 4)); exact rfl; exact rfl; intro b4) | ((with_reducible apply At.alloc (d := 5)); exact rfl; exact rfl; intro b5) | ((with_reducible apply At.alloc (d := 6)); exact rfl; exact rfl; intro b6) | ((with_reducible apply At.alloc (d := 7)); exact rfl; exact rfl; intro b7) | ((with_reducible apply At.alloc (d := 8)); exact rfl; exact rfl; intro b8) | ((with_reducible apply At.alloc (d := 10)); exact rfl; exact rfl; intro b10) | ((with_reducible apply At.alloc (d := 12)); exact rfl; exact rfl; intro b12) | (refine zsp ?_ ?_ <;> (intro hc; (try simp only [zhcs, reduceCtorEq] at hc); (try (exfalso; first | (first | omega | exact absurd hc (by decide)) | contradiction | omega | exact absurd rfl hc | exact absurd (by decide) hc))))))
        all_goals (rw [e])
        all_goals ((with_reducible refine At.reachk (⟨i, O + 2 ^ i, L + L + b - d⟩) ?_ ?_ ?_ ?_); exact zsubs; exact zml; exact zente; exact ⟨⟨by dsimp only; omega, by dsimp only; rw [r2, hO, Nat.pow_succ, Nat.add_mul, Nat.one_mul]; rw [Nat.mul_comm 2, Nat.mul_assoc, Nat.mul_comm 2], by dsimp only; rw [r1]; omega⟩, Nat.lt_succ_self i⟩)
    · rw [show sV (L + L) = 0 from if_neg hov, show sE (L + L) = 1 from if_neg hov] at ad1
      obtain ⟨r1, r2⟩ := d2 (by omega)
      have ks1 := sub_r d L hd (by omega)
      rw [show dE d L = 0 from if_neg (by omega)] at ks1
      obtain ⟨R, hR⟩ : ∃ R, R = d - L := ⟨_, rfl⟩
      rw [← hR] at ks1
      have ks2 := sub_r L R (by omega) (by omega)
      rw [show dE L R = 0 from if_neg (by omega)] at ks2
      obtain ⟨T, hT⟩ : ∃ T, T = L - R := ⟨_, rfl⟩
      rw [← hT] at ks2
      have hov2 : T + b < 340282366920938463463374607431768211456 := by omega
      have ad2 := add_r T b (by omega) (by omega)
      rw [show sV (T + b) = T + b from if_pos hov2, show sE (T + b) = 0 from if_pos hov2, ← wd_small (b := b) (by omega)] at ad2
      have eT : 2 * L + b - d = T + b := by omega
      rw [eT] at r1
      clear d0 d1 d2 hbit
      (repeat' (first | ((with_reducible apply At.mixedB (id := 2) 4 4 (.q 0 (.q 1 (.l 2 (.x 3 .done))))); exact rfl; exact (by repeat constructor); exact rfl; kernel_rfl; kernel_rfl; kernel_rfl) | ((with_reducible apply At.mixed (id := 13) 16 (.q 0 (.q 1 (.q 2 (.q 3 (.q 4 (.q 5 (.q 6 (.q 7 (.q 8 (.q 9 (.q 10 (.q 11 (.q 12 (.q 13 (.q 14 (.x 15 .done))))))))))))))))); exact rfl; kernel_rfl; kernel_rfl; kernel_rfl) | ((with_reducible apply At.mixed (id := 15) 10 (.q 0 (.q 1 (.q 2 (.q 3 (.q 4 (.q 5 (.q 6 (.q 7 (.q 8 (.x 9 .done))))))))))); exact rfl; kernel_rfl; kernel_rfl; kernel_rfl) | ((with_reducible apply At.mixed (id := 16) 16 (.q 0 (.q 1 (.q 2 (.q 3 (.q 4 (.q 5 (.q 6 (.q 7 (.q 8 (.q 9 (.q 10 (.q 11 (.q 12 (.q 13 (.q 14 (.x 15 .done))))))))))))))))); exact rfl; kernel_rfl; kernel_rfl; kernel_rfl) | ((with_reducible apply At.mixed (id := 19) 10 (.q 0 (.q 1 (.q 2 (.q 3 (.q 4 (.q 5 (.q 6 (.q 7 (.q 8 (.x 9 .done))))))))))); exact rfl; kernel_rfl; kernel_rfl; kernel_rfl) | ((with_reducible apply At.mixedB (id := 20) 4 5 (.q 0 (.q 1 (.q 2 (.l 3 (.x 4 .done)))))); exact rfl; exact (by repeat constructor); exact rfl; kernel_rfl; kernel_rfl; kernel_rfl) | refine zsx ?_ | refine zss ?_ | ((with_reducible apply AtM.bo); exact rfl; exact rfl; exact rfl) | ((first | (with_reducible first | apply At.val | apply AtQ.val) | ((with_reducible first | apply AtM1.valz | apply AtM1.val); exact rfl) | ((with_reducible apply AtM1.val); exact rfl)); (first | exact pr_quo (by rfl) (by rfl) (by omega) f1 | exact pr_rem (by rfl) (by rfl) (by omega) f2 | exact pr_shrv (by rfl) (by rfl) (by omega) (by simp only [IntKind.bits]; omega) f3 | exact pr_shlv (by rfl) (by rfl) (by omega) (by simp only [IntKind.bits]; omega) f6 | exact pr_and (by rfl) (by rfl) f4 | exact pr_or (by rfl) (by rfl) f7 | exact pr_load_tab (k := i / 8) (by rfl) (by first | exact pk0 | exact pk1 | exact pk2 | exact pk3 | exact pk4 | exact pk5 | exact pk6) (by rfl) (by omega) | exact zprA); exact rfl) | refine zs0 ?_ | refine zx0 ?_ | ((with_reducible apply At.storeArr (g := gi) (((dg O (i / 8) + 2 ^ (i % 8) : Nat) : Int))); exact rfl; exact rfl; exact rfl; exact rfl; exact rfl; exact rfl; exact (by repeat constructor); (first | omega | (simp only [lns] <;> omega))) | ((with_reducible first | apply AtM1.callp | apply AtQ.callp | apply At.callp); kernel_rfl; exact rfl; exact rfl; exact ad1) | ((with_reducible first | apply AtM1.callp | apply AtQ.callp | apply At.callp); kernel_rfl; exact rfl; exact rfl; exact ad2) | ((with_reducible first | apply AtM1.callp | apply AtQ.callp | apply At.callp); kernel_rfl; exact rfl; exact rfl; exact ks1) | ((with_reducible first | apply AtM1.callp | apply AtQ.callp | apply At.callp); kernel_rfl; exact rfl; exact rfl; exact ks2) | ((with_reducible apply At.box (d := 2)); exact rfl; exact rfl; exact rfl; intro b2) | ((with_reducible apply At.box (d := 3)); exact rfl; exact rfl; exact rfl; intro b3) | ((with_reducible apply At.alloc (d := 4)); exact rfl; exact rfl; intro b4) | ((with_reducible apply At.alloc (d := 5)); exact rfl; exact rfl; intro b5) | ((with_reducible apply At.alloc (d := 6)); exact rfl; exact rfl; intro b6) | ((with_reducible apply At.alloc (d := 7)); exact rfl; exact rfl; intro b7) | ((with_reducible apply At.alloc (d := 8)); exact rfl; exact rfl; intro b8) | ((with_reducible apply At.alloc (d := 10)); exact rfl; exact rfl; intro b10) | ((with_reducible apply At.alloc (d := 12)); exact rfl; exact rfl; intro b12) | (refine zsp ?_ ?_ <;> (intro hc; (try simp only [zhcs, reduceCtorEq] at hc); (try (exfalso; first | (first | omega | exact absurd hc (by decide)) | contradiction | omega | exact absurd rfl hc | exact absurd (by decide) hc))))))
      all_goals (rw [e])
      all_goals ((with_reducible refine At.reachk (⟨i, O + 2 ^ i, T + b⟩) ?_ ?_ ?_ ?_); exact zsubs; exact zml; exact zente; exact ⟨⟨by dsimp only; omega, by dsimp only; rw [r2, hO, Nat.pow_succ, Nat.add_mul, Nat.one_mul]; rw [Nat.mul_comm 2, Nat.mul_assoc, Nat.mul_comm 2], by dsimp only; rw [r1]⟩, Nat.lt_succ_self i⟩)
end Ra
end Go.Proofs.YtmnlmmbfjfgfeaaDoor
/- The bytes of a text that may be written; an array as a slice. -/
set_option linter.unusedSimpArgs false
set_option linter.unusedVariables false
set_option linter.unusedSectionVars false
set_option maxRecDepth 20000
namespace Go.J
open Go
/-- the bytes of a text, that may be written -/
def Res.byt (E : TypeId) (p : Option Addr) (c : Nat) (L : List Int) : Res where
  p w s := ∃ g cur, p = some ⟨g, 0, none⟩ ∧ w.heap[g]? = some (.cells cur E (cur.size, cur.size + 1)) ∧ L.length ≤ c ∧ c ≤ maxLen ∧ c ≤ cur.size ∧ (∀ j, j < L.length → cur[j]? = some (.int .u8 L[j]!)) ∧ ∀ k, s k ↔ k = g
  loc := fun {w w' s} h he => by
    obtain ⟨g, cur, h1, h2, h3, h4, h5, h6, h7⟩ := h
    exact ⟨g, cur, h1, by rw [he g ((h7 g).2 rfl)]; exact h2, h3, h4, h5, h6, h7⟩
  dom := fun {w s k} h hk => by
    obtain ⟨g, cur, h1, h2, h3, h4, h5, h6, h7⟩ := h
    rw [(h7 k).1 hk]; exact (Array.getElem?_eq_some_iff.1 h2).1
section
variable {P : Program} {n : Nat} {w0 : World} {F : Fr} {m : Mem} {Rs Rs' : List Res} {Q : Exit → Act → World → Prop} {K : Act → World → Prop} {E : TypeId} {p : Option Addr} {c : Nat} {L : List Int}
theorem byt_rdb (hp : Pick Rs (.byt E p c L) Rs') : Rdb (HW w0 m Rs) fb 1 p c L := by
  refine ⟨inferInstance, fun w hw hl => ?_, fun w hw => ?_, fun w hw i j hi hj => ?_⟩
  · obtain ⟨_, g, cur, h1, _⟩ := hw.get hp
    exact ⟨g, 0, h1⟩
  · obtain ⟨_, g, cur, h1, h2, h3, _⟩ := hw.get hp
    exact h3
  · obtain ⟨_, g, cur, h1, h2, h3, h4, h5, h6, h7⟩ := hw.get hp
    subst h1
    have hj0 : j = 0 := by omega
    subst hj0
    show w.cell? ⟨g, 0 + (i * 1 + 0), none⟩ = _
    rw [World.cell_of h2, show 0 + (i * 1 + 0) = i by omega, h6 i hi]
    rfl
theorem At.byt_freeze (hp : Pick Rs (.byt E p c L) Rs') (h : ∀ m' : Mem, m.le m' → Sl m' fb 1 p c L → At n w0 F m' Rs' K) : At n w0 F m Rs K := fun a w ha hw => by
  obtain ⟨s, ⟨s1, s2, h1, h2, hd, he⟩, hm⟩ := (hw.ent (Ent.of_pick hp)).res
  obtain ⟨g, cur, rfl, h4, h5, h6, h7, h8, hg⟩ := h1
  have hmb : m g = none := hm g ((he g).2 (.inl ((hg g).2 rfl)))
  refine h (fun k => if k = g then some (.cells cur E (cur.size, cur.size + 1)) else m k) (fun k o hk => ?_) ⟨inferInstance, h5, h6, (fun e => by cases e), fun a' ha' _ => ?_⟩ a w ha
    ⟨hw.os, hw.tape, hw.output, hw.size, hw.dr, fun k o hk => ?_, s2, h2, fun k hk => ?_⟩
  · show (if k = g then _ else _) = _
    rw [if_neg (fun e => by subst e; rw [hmb] at hk; cases hk)]; exact hk
  · cases ha'
    refine ⟨rfl, E, cur, _, if_pos rfl, by show 0 + c * 1 ≤ _; omega, fun i j hi hj => ?_⟩
    have hj0 : j = 0 := by omega
    subst hj0
    show cur[0 + (i * 1 + 0)]? = _
    rw [show 0 + (i * 1 + 0) = i by omega, h8 i hi]
    rfl
  · by_cases e : k = g
    · subst e
      rw [if_pos rfl] at hk; cases hk; exact h4
    · rw [if_neg e] at hk; exact hw.mem k o hk
  · show (if k = g then _ else _) = _
    rw [if_neg (fun e => hd k ⟨(hg k).2 e, hk⟩)]
    exact hm k ((he k).2 (.inr hk))
theorem At.str_own {ops : Array Oper} {rest : List Oper} {d : Nat} {x : Operand} {s t e : TypeId} {ty : TypeId} {pos : String} {aft : Array Edge} {l : List UInt8}
    (hs : P.underlying s = some .string) (ht : P.underlying t = some (.slice e)) (he : P.underlying e = some (.int .u8)) (hx : ev F x = some (.string (str l))) (hl : l.length ≤ 34359738368) (hd : Nat.blt d n = true)
    (h : ∀ p c, At n w0 ((d, .slice p (l.map bI).length c) :: F) m (.byt e p c (l.map bI) :: Rs) (wpList P ops Q rest)) : At n w0 F m Rs (wpList P ops Q (⟨some d, .convert s t x, ty, pos, aft, none⟩ :: rest)) := fun a w ha hw =>
  wpList_plain rfl fun K hK => by
    have hrun := run_bytes_of_string (P := P) w s t e (str l) hs ht he
    have hge := grownCap_ge w (str l).size 0 e
    have hle := grownCap_le_maxLen w (str l).size 0 e (by rw [str_size]; simp only [maxLen]; omega)
    generalize grownCap w (str l).size 0 e = c at hrun hge hle
    rw [str_size] at hrun hge
    have hsize : (bytesRow (str l) c).size = c := by rw [bytesRow_str]; simp; omega
    unfold Oper.wp
    have hex : (execOp a.eval ⟨some d, .convert s t x, ty, pos, aft, none⟩).run P w = .ok (.value (.slice (some ⟨w.heap.size, 0, none⟩) l.length c)) (w.drew.alloc (.cells (bytesRow (str l) c) e ((bytesRow (str l) c).size, (bytesRow (str l) c).size + 1))) := by
      simp only [execOp, ha.ev hx, Sem.run_bind, hrun, Result.andThen]
      rfl
    rw [hex]
    refine hK _ _ (h (some ⟨w.heap.size, 0, none⟩) c _ _ (by rw [List.length_map]; exact ha.put hd) (hw.add rfl rfl rfl (by show w.heap.size ≤ (w.heap.push _).size; simp) (fun k hk => by show (w.heap.push _)[k]? = _; rw [Array.getElem?_push, if_neg (by omega)])
      ⟨fun k => k = w.heap.size, ⟨w.heap.size, bytesRow (str l) c, rfl, by show (w.heap.push _)[w.heap.size]? = _; simp, by simpa using hge, hle, by rw [hsize]; exact Nat.le_refl _, fun j hj => ?_, fun _ => Iff.rfl⟩, fun k hk => by omega⟩))
    have hj' : j < l.length := by simpa using hj
    rw [bytesRow_str, Array.getElem?_append_left (by simp; omega)]
    simp [hj']
theorem At.store_byt {ops : Array Oper} {rest : List Oper} {t : TypeId} {x y : Operand} {ty : TypeId} {pos : String} {aft : Array Edge} {k : Nat} {v : Int}
    (hx : ev F x = some (.pointer (some (at_ p (k * 1))))) (hy : ev F y = some (.int .u8 v)) (hp : Pick Rs (.byt E p c L) Rs') (hs : sizeB P t = some 1) (hk : k < L.length)
    (h : At n w0 F m (.byt E p c (L.set k v) :: Rs') (wpList P ops Q rest)) : At n w0 F m Rs (wpList P ops Q (⟨none, .store t x y, ty, pos, aft, none⟩ :: rest)) := fun a w ha hw =>
  wpList_plain rfl fun K hK => by
    have hrow : ∀ s, (Res.byt E p c L).p w s → ∃ w', (storeVar t (at_ p (k * 1)) (.int .u8 v)).run P w = .ok () w' ∧ (Res.byt E p c (L.set k v)).p w' s ∧ w'.os = w.os ∧ w'.tape = w.tape ∧ w'.output = w.output ∧ w.heap.size ≤ w'.heap.size ∧ (∀ k, k < w.heap.size → ¬ s k → w'.heap[k]? = w.heap[k]?) := fun s hown => by
      obtain ⟨g, cur, rfl, h4, h5, h6, h7, h8, hgs⟩ := hown
      have hkc : k < cur.size := by omega
      have e0 : at_ (some ⟨g, 0, none⟩) (k * 1) = ⟨g, k, none⟩ := by show (⟨g, 0 + k * 1, none⟩ : Addr) = _; congr 1; omega
      have hcell : w.cell? ⟨g, k, none⟩ = some cur[k] := by simp [World.cell?, h4, hkc]
      have hfro : w.frozen? ⟨g, k, none⟩ = false := by
        simp only [World.frozen?, h4, Bool.and_eq_false_iff, decide_eq_false_iff_not]
        left
        omega
      have hst : (storeVar t (at_ (some ⟨g, 0, none⟩) (k * 1)) (.int .u8 v)).run P w = .ok () (w.setRow g (cur.setIfInBounds k (.int .u8 v))) := by
        have hs1 : (_root_.Go.store (⟨g, k, none⟩ : Addr) (.int .u8 v)).run P w = .ok () (w.setRow g (cur.setIfInBounds k (.int .u8 v))) := by
          rw [run_store P w _ _ _ rfl, hcell]
          simp [hfro, setCell_eq_setRow w g k cur E _ (.int .u8 v) h4]
        have ha0 : (⟨g, k, none⟩ : Addr).add 0 = ⟨g, k, none⟩ := addr_add0 _
        rw [e0]
        simp only [storeVar, Sem.run_bind, run_sizeOf hs, Result.andThen]
        simp only [Value.cells, storeCells, Sem.run_bind, ha0, hs1, Result.andThen]
        rw [if_neg (show ¬ ((#[Value.int .u8 v] : Array Value).size ≠ 1) by simp)]
        simp only [Sem.run_bind, hs1, Result.andThen]
        rfl
      refine ⟨_, hst, ⟨g, cur.setIfInBounds k (.int .u8 v), rfl, by rw [Array.size_setIfInBounds]; exact setRow_heap w g cur _ E _ h4, by rw [List.length_set]; exact h5, h6, by rw [Array.size_setIfInBounds]; exact h7, fun j hj => ?_, hgs⟩, rfl, rfl, rfl, by simp, fun i _ hi => setRow_other w g i _ (fun e => hi ((hgs i).2 e))⟩
      rw [List.length_set] at hj
      by_cases e : j = k
      · subst e
        rw [Array.getElem?_setIfInBounds_self_of_lt hkc, List.getElem!_eq_getElem?_getD, List.getElem?_set_self hj]; rfl
      · rw [Array.getElem?_setIfInBounds_ne (Ne.symm e), h8 j hj, List.getElem!_eq_getElem?_getD, List.getElem!_eq_getElem?_getD, List.getElem?_set_ne (Ne.symm e)]
    obtain ⟨s0, hown⟩ := hw.get hp
    obtain ⟨w', hr', _⟩ := hrow s0 hown
    have hrun' : (execOp a.eval ⟨none, .store t x y, ty, pos, aft, none⟩).run P w = .ok .skip w' := by
      have e0 : (Pure.pure (at_ p (k * 1)) : Sem Addr).run P w = .ok (at_ p (k * 1)) w := rfl
      simp only [execOp, ha.ev hx, ha.ev hy, Instr.storeAt, Instr.sureAddr, Sem.run_bind, e0, Result.andThen, hr']
      rfl
    unfold Oper.wp
    rw [hrun']
    refine hK _ _ (h _ _ ha (hw.turn hp fun s hs => ?_))
    obtain ⟨w2, hr2, h2, g1, g2, g3, g4, g5⟩ := hrow s hs
    rw [hr'] at hr2
    injection hr2 with _ e2
    subst e2
    exact ⟨s, h2, g1, g2, g3, g4, g5, fun k hk => .inl hk⟩
theorem pr_index_byt {x y : Operand} {t : TypeId} {ln k : Nat} {ki : IntKind} (hx : ev F x = some (.slice p ln c)) (hy : ev F y = some (.int ki (k : Int))) (hp : Pick Rs (.byt E p c L) Rs')
    (ht : P.underlying t = some (.slice E)) (hs : sizeB P E = some 1) (hl : ln = L.length) (hk : k < L.length) : PR P n F (HW w0 m Rs) (.indexAddr t x y) (.pointer (some (at_ p (k * 1)))) :=
  pr_indexAddr (byt_rdb hp) ht hs hx hy hl hk
theorem pr_load_byt {x : Operand} {t : TypeId} {k : Nat} (hx : ev F x = some (.pointer (some (at_ p (k * 1))))) (hp : Pick Rs (.byt E p c L) Rs') (hk : k < L.length) (ht : isAggB P t = some false) : PR P n F (HW w0 m Rs) (.load t x) (.int .u8 L[k]!) :=
  pr_load_sl1 (byt_rdb hp) hk ht hx rfl
/-- an array that is a block, as a slice -/
theorem pr_slice_arr {C : World → Prop} {x : Operand} {t e : TypeId} {len b sz : Nat} (hx : ev F x = some (.pointer (some ⟨b, 0, none⟩))) (ht : P.underlying t = some (.array len e)) (hs : sizeB P e = some sz) :
    PR P n F C (.slice t x none none none) (.slice (some ⟨b, 0, none⟩) len len) := fun _ _ _ _ _ a w ha hC => by
  have hr : ∀ w, (underlying t).run P w = .ok (.array len e) w := fun w => by simp only [underlying, program, bind, Sem.bind, Sem.run, ht]; rfl
  have hb : (Instr.sliceBounds false len len none none none).run P w = .ok (0, len, len) w := by
    unfold Instr.sliceBounds Instr.sliceBound
    simp [pure, Sem.run, bind, Sem.bind]
  have e0 : (Pure.pure (⟨b, 0, none⟩ : Addr) : Sem Addr).run P w = .ok ⟨b, 0, none⟩ w := rfl
  have hz : (if len = 0 then (⟨b, 0, none⟩ : Addr) else (⟨b, 0, none⟩ : Addr).add (0 * sz)) = ⟨b, 0, none⟩ := by
    split
    · rfl
    · rw [Nat.zero_mul]; exact addr_add0 _
  simp only [execOp, ha.ev hx, Option.map_none, Sem.run_bind]
  unfold Instr.sliceAt
  simp only [Sem.run_bind, hr, Result.andThen, Instr.sureAddr, e0, hb, run_sizeOf hs, pure, Sem.run, hz, Nat.sub_zero]
/-- such a slice can be read -/
theorem blk_rdb {b c : Nat} {L : List Int} (hp : Pick Rs (.blk b E (L.map (fun x => Value.int .u8 x))) Rs') (hc : L.length = c) : Rdb (HW w0 m Rs) fb 1 (some ⟨b, 0, none⟩) c L := by
  refine ⟨inferInstance, fun w hw hl => ⟨b, 0, rfl⟩, fun w hw => by omega, fun w hw i j hi hj => ?_⟩
  have hj0 : j = 0 := by omega
  subst hj0
  have hb := hw.blk hp
  show w.cell? ⟨b, 0 + (i * 1 + 0), none⟩ = _
  rw [World.cell_of hb, show 0 + (i * 1 + 0) = i by omega]
  simp [hi, fb]
theorem Pu.ct {f : FuncId} {args : Array Value} {V : Value} (h : Pu P f args V) (m : Mem) : Ct P f args m [] (fun v m' B => v = V ∧ m = m' ∧ B = []) := (h m).mono fun _ _ _ _ ⟨a, b, c⟩ => ⟨a, b.symm, c⟩
end
end Go.J

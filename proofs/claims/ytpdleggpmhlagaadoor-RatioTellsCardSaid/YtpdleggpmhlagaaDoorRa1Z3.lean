/- RatioTells: whatever two numbers and whatever while, the package and the document answer alike. Conditions: the library's tables and the document's one read as the row's cells say (the card ties them to the program's text). -/
import Derived.Test.YtpdleggpmhlagaaDoorRa1Z2
import Derived.Test.YtpdleggpmhlagaaDoorRows
import Derived.Lib.ItoaNum
import Derived.Lib.LaidTab
import Derived.Lib.FrozenHead
import Derived.ProofKit
import Derived.OpenShut
import Derived.Below
import Derived.Carry
import Derived.Deep.Slices
import Derived.WideShapes
import Derived.Test.YtpdleggpmhlagaaDoorTie
import Derived.Test.YtpdleggpmhlagaaDoorCards
import Derived.LaidMore
import Derived.LaidSub
import Derived.MakeChecks
import Derived.Stop.Joined
import Derived.SevenTiedAt
/- How often a number goes into another one, and one number less another one, as both say it. -/
set_option linter.unusedSimpArgs false
set_option linter.unusedVariables false
set_option linter.unusedSectionVars false
set_option maxRecDepth 20000
set_option maxHeartbeats 4000000
namespace Go.Proofs.YtpdleggpmhlagaaDoor
open Go Go.J
attribute [local irreducible] At AtQ AtM AtM1 PR Ct Pu Rd Res.blk Res.own Res.ex RVs RV
namespace Wide
theorem dv_arith (x n : Nat) (hn : 0 < n) : x / n / 18446744073709551616 = x / 18446744073709551616 / n ∧ x / n % 18446744073709551616 = (x / 18446744073709551616 % n * 18446744073709551616 + x % 18446744073709551616) / n ∧ x % n = (x / 18446744073709551616 % n * 18446744073709551616 + x % 18446744073709551616) % n := by
  obtain ⟨H, hH⟩ : ∃ H, H = x / 18446744073709551616 := ⟨_, rfl⟩
  obtain ⟨L, hL⟩ : ∃ L, L = x % 18446744073709551616 := ⟨_, rfl⟩
  obtain ⟨V, hV⟩ : ∃ V, V = H % n * 18446744073709551616 + L := ⟨_, rfl⟩
  have hr := Nat.mod_lt H hn
  have hd := Nat.div_add_mod H n
  have e : x = n * (H / n * 18446744073709551616) + V := by rw [← Nat.mul_assoc]; omega
  have hVn : V / n < 18446744073709551616 := by rw [Nat.div_lt_iff_lt_mul hn, Nat.mul_comm]; omega
  have e1 : x / n = H / n * 18446744073709551616 + V / n := by rw [e, Nat.mul_add_div hn]
  have e2 : x % n = V % n := by rw [e, Nat.mul_add_mod]
  rw [← hH, ← hL, ← hV, e1, e2]
  generalize V / n = t at *
  generalize H / n = s at *
  exact ⟨by omega, by omega, rfl⟩
theorem div0 (x : Nat) : Pu Tryd.prog 50 #[wv x, .int .u64 0] (.tuple #[wv 0, .int .u64 0, .int .i64 1]) := Pu.intro fun m => by
  refine Ct.enterV (by rfl) Tryd.func50 rfl Tryd.ntmps50 rfl (fun w0 Rest => ?_)
  (repeat' (first | refine zss ?_ | ((first | (with_reducible first | apply At.val | apply AtQ.val)); (exact zprA); exact rfl) | refine zs0 ?_ | ((with_reducible apply At.box (d := 2)); exact rfl; exact rfl; exact rfl; intro b2) | ((with_reducible apply At.alloc (d := 4)); exact rfl; exact rfl; intro b4) | (refine zsp ?_ ?_ <;> (intro hc; (try simp only [zhcs, reduceCtorEq] at hc); (try (exfalso; first | omega | contradiction | omega | exact absurd rfl hc | exact absurd (by decide) hc))))))
  all_goals ((with_reducible apply At.retV (B := [])); exact rfl; (repeat' (first | exact RVs.nil | (with_reducible apply RVs.cons) | exact rv_tmp (by rfl) | exact rv_cellN (by rfl) (by repeat constructor) (by rfl) (by rfl) (by rfl) | exact rv_cell1 (by rfl) (by repeat constructor) (by rfl) (by rfl) | exact rv_cellA (by rfl) (by repeat constructor) (by rfl) (by rfl) zlq)); exact zml; exact zkp; exact ⟨rfl, rfl, rfl⟩)
theorem div (x n : Nat) (hx : x < 340282366920938463463374607431768211456) (hn : 0 < n) (hnb : n < 18446744073709551616) :
    Pu Tryd.prog 50 #[wv x, .int .u64 (n : Int)] (.tuple #[wv (x / n), .int .u64 ((x % n : Nat) : Int), .int .i64 0]) := Pu.intro fun m => by
  obtain ⟨d1, d2, d3⟩ := dv_arith x n hn
  have hr := Nat.mod_lt (x / 18446744073709551616) hn
  have k := div64 (x / 18446744073709551616 % n) (x % 18446744073709551616) n _ rfl hr hnb (by omega)
  rw [← d2, ← d3] at k
  have f1 := u_rem (x / 18446744073709551616) n
  have f2 := u_quo (a := x / 18446744073709551616) (b := n) (Nat.lt_of_le_of_lt (Nat.div_le_self _ _) (by omega))
  rw [← d1] at f2
  clear d1 d2 d3
  refine Ct.enterV (by rfl) Tryd.func50 rfl Tryd.ntmps50 rfl (fun w0 Rest => ?_)
  (repeat' (first | refine zss ?_ | ((first | (with_reducible first | apply At.val | apply AtQ.val)); (first | exact pr_rem (by rfl) (by rfl) (by omega) f1 | exact pr_quo (by rfl) (by rfl) (by omega) f2 | exact zprA); exact rfl) | refine zs0 ?_ | ((with_reducible first | apply AtM1.callp | apply AtQ.callp | apply At.callp); kernel_rfl; exact rfl; exact rfl; exact k) | fail | ((with_reducible apply At.box (d := 2)); exact rfl; exact rfl; exact rfl; intro b2) | ((with_reducible apply At.alloc (d := 4)); exact rfl; exact rfl; intro b4) | (refine zsp ?_ ?_ <;> (intro hc; (try simp only [zhcs, reduceCtorEq] at hc); (try (exfalso; first | omega | contradiction | omega | exact absurd rfl hc | exact absurd (by decide) hc))))))
  all_goals ((with_reducible apply At.retV (B := [])); exact rfl; (repeat' (first | exact RVs.nil | (with_reducible apply RVs.cons) | exact rv_tmp (by rfl) | exact rv_cellN (by rfl) (by repeat constructor) (by rfl) (by rfl) (by rfl) | exact rv_cell1 (by rfl) (by repeat constructor) (by rfl) (by rfl) | exact rv_cellA (by rfl) (by repeat constructor) (by rfl) (by rfl) zlq)); exact zml; exact zkp; exact ⟨rfl, rfl, rfl⟩)
/-! ### the document's -/
theorem bw_dig (z y s : Nat) : (dg (z + y) s : Int) - (dg y s : Int) - (cy z y s : Int) = (dg z s : Int) - 256 * (cy z y (s + 1) : Int) := by
  have h1 := cy_succ z y s
  have h2 := cy_dig z y s
  omega
theorem sub_r (x y : Nat) (hx : x < 340282366920938463463374607431768211456) (hy : y < 340282366920938463463374607431768211456) : Pu Tryd.prog 44 #[wv x, wv y] (.tuple #[wv (x - y), .int .i64 (dE x y)]) := Pu.intro fun m => by
  have kl := less_r x y hx hy
  by_cases h : x < y
  · have e1 : x - y = 0 := by omega
    have e2 : dE x y = 1 := if_pos h
    rw [decide_eq_true h] at kl
    rw [e1, e2]
    refine Ct.enterV (by rfl) Tryd.func44 rfl Tryd.ntmps44 rfl (fun w0 Rest => ?_)
    (repeat' (first | refine zss ?_ | ((first | (with_reducible first | apply At.val | apply AtQ.val)); (exact zprA); exact rfl) | refine zs0 ?_ | ((with_reducible first | apply AtM1.callp | apply AtQ.callp | apply At.callp); kernel_rfl; exact rfl; exact rfl; exact kl) | ((with_reducible apply At.box (d := 2)); exact rfl; exact rfl; exact rfl; intro b2) | ((with_reducible apply At.box (d := 3)); exact rfl; exact rfl; exact rfl; intro b3) | ((with_reducible apply At.alloc (d := 4)); exact rfl; exact rfl; intro b4) | ((with_reducible apply At.alloc (d := 6)); exact rfl; exact rfl; intro b6) | ((with_reducible apply At.alloc (d := 7)); exact rfl; exact rfl; intro b7) | (refine zsp ?_ ?_ <;> (intro hc; (try simp only [zhcs, reduceCtorEq] at hc); (try (exfalso; first | (first | omega | exact absurd rfl hc) | contradiction | omega | exact absurd rfl hc | exact absurd (by decide) hc))))))
    all_goals ((with_reducible apply At.retV (B := [])); exact rfl; (repeat' (first | exact RVs.nil | (with_reducible apply RVs.cons) | exact rv_tmp (by rfl) | exact rv_cellN (by rfl) (by repeat constructor) (by rfl) (by rfl) (by rfl) | exact rv_cell1 (by rfl) (by repeat constructor) (by rfl) (by rfl) | exact rv_cellA (by rfl) (by repeat constructor) (by rfl) (by rfl) zlq)); exact zml; exact zkp; exact ⟨rfl, rfl, rfl⟩)
  · have e2 : dE x y = 0 := if_neg h
    rw [decide_eq_false h] at kl
    obtain ⟨z, rfl⟩ : ∃ z, x = z + y := ⟨x - y, by omega⟩
    rw [Nat.add_sub_cancel, e2]
    have hz : z < 340282366920938463463374607431768211456 := by omega
    have hlx := tab_len (dg (z + y))
    have hly := tab_len (dg y)
    have hmx := tabm_len (dg (z + y))
    have hmy := tabm_len (dg y)
    refine Ct.enterV (by rfl) Tryd.func44 rfl Tryd.ntmps44 rfl (fun w0 Rest => ?_)
    (repeat' (first | ((with_reducible apply At.mixed (id := 3) 8 (.q 0 (.q 1 (.q 2 (.q 3 (.b 4 5 (.l 5 (.x 6 (.x 7 .done))) (.l 4 (.x 6 (.x 7 .done))))))))); exact rfl; kernel_rfl; kernel_rfl; kernel_rfl) | refine zsx ?_ | refine zss ?_ | ((with_reducible apply AtM.bo); exact rfl; exact rfl; exact rfl) | ((first | (with_reducible first | apply At.val | apply AtQ.val) | ((with_reducible first | apply AtM1.valz | apply AtM1.val); exact rfl) | ((with_reducible apply AtM1.val); exact rfl)); (exact zprA); exact rfl) | refine zs0 ?_ | refine zx0 ?_ | ((with_reducible first | apply AtM1.callp | apply AtQ.callp | apply At.callp); kernel_rfl; exact rfl; exact rfl; exact kl) | ((with_reducible first | apply AtM1.callp | apply AtQ.callp | apply At.callp); kernel_rfl; exact rfl; exact rfl; exact bytes (z + y) hx) | ((with_reducible first | apply AtM1.callp | apply AtQ.callp | apply At.callp); kernel_rfl; exact rfl; exact rfl; exact bytes y hy) | ((with_reducible apply At.storeA); exact rfl; exact rfl; exact rfl; exact all_gi _; exact (by repeat constructor); (first | exact rfl | (first | omega | (simp only [lns] <;> omega))); (first | exact rfl | (first | omega | (simp only [lns] <;> omega)))) | ((with_reducible apply At.box (d := 2)); exact rfl; exact rfl; exact rfl; intro b2) | ((with_reducible apply At.box (d := 3)); exact rfl; exact rfl; exact rfl; intro b3) | ((with_reducible apply At.alloc (d := 4)); exact rfl; exact rfl; intro b4) | ((with_reducible apply At.alloc (d := 6)); exact rfl; exact rfl; intro b6) | ((with_reducible apply At.alloc (d := 7)); exact rfl; exact rfl; intro b7) | (refine zsp ?_ ?_ <;> (intro hc; (try simp only [zhcs, reduceCtorEq] at hc); (try (exfalso; first | (first | omega | exact absurd hc (by decide)) | contradiction | omega | exact absurd rfl hc | exact absurd (by decide) hc))))))
    all_goals (refine At.loopk (σ := AS) [4, 6, 7] (fun s F0 => (19, .int .i64 (s.i : Int)) :: (8, .int .i64 (s.c : Int)) :: F0) (fun s => m) (fun s => .blk b7 58 ((tab (dg y)).map gi) :: .blk b6 58 ((tab (fun j => if j < s.i then dg z j else dg (z + y) j)).map gi) :: .blk b4 24 (wd 0) :: Rest) (fun s => s.i ≤ 16 ∧ s.c = cy z y s.i) (fun s => 16 - s.i) ⟨0, 0⟩ (by rfl) ?_ zsubs zml zente ?_)
    all_goals try exact ⟨Nat.zero_le _, by simp [cy, Nat.mod_one]⟩
    all_goals
      rintro ⟨s, c⟩ ⟨hs, hc0⟩
      dsimp only at hs hc0 ⊢
      have hc2 := cy_lt z y s
      have hc3 := cy_lt z y (s + 1)
      rw [← hc0] at hc2
      by_cases h : s < 16
      · have h1 := dg_lt (z + y) s
        have h2 := dg_lt y s
        have h3 := dg_lt z s
        have hb := bw_dig z y s
        rw [← hc0] at hb
        have hl := tab_len (fun j => if j < s then dg z j else dg (z + y) j)
        have e : (tab (fun j => if j < s then dg z j else dg (z + y) j)).set s ((dg z s : Nat) : Int) = tab (fun j => if j < s + 1 then dg z j else dg (z + y) j) := by
          rw [tab_set _ _ h]
          apply tab_congr
          intro j hj
          by_cases e1 : j = s
          · subst e1; rw [if_pos rfl, if_pos (by omega)]
          · rw [if_neg e1]
            by_cases e2 : j < s
            · rw [if_pos e2, if_pos (by omega)]
            · rw [if_neg e2, if_neg (by omega)]
        obtain ⟨c', hc'⟩ : ∃ c', c' = cy z y (s + 1) := ⟨_, rfl⟩
        rw [← hc'] at hc3 hb
        by_cases hn : c' = 0
        · have hw : IntKind.wrap .i64 (((dg (z + y) s : Nat) : Int) - ((dg y s : Nat) : Int)) = ((dg (z + y) s : Nat) : Int) - ((dg y s : Nat) : Int) := by rw [IntKind.wrap_i64]; omega
          have hw2 : IntKind.wrap .i64 (((dg (z + y) s : Nat) : Int) - ((dg y s : Nat) : Int) - (c : Int)) = ((dg z s : Nat) : Int) := by rw [IntKind.wrap_i64]; omega
          (repeat' (first | ((with_reducible apply At.mixed (id := 3) 8 (.q 0 (.q 1 (.q 2 (.q 3 (.b 4 5 (.l 5 (.x 6 (.x 7 .done))) (.l 4 (.x 6 (.x 7 .done))))))))); exact rfl; kernel_rfl; kernel_rfl; kernel_rfl) | refine zsx ?_ | refine zss ?_ | ((with_reducible apply AtM.bo); exact rfl; exact rfl; exact rfl) | ((first | (with_reducible first | apply At.val | apply AtQ.val) | ((with_reducible first | apply AtM1.valz | apply AtM1.val); exact rfl) | ((with_reducible apply AtM1.val); exact rfl)); (first | exact pr_load_tabv (k := s) (v := dg (z + y) s) (by rfl) (by first | exact pk0 | exact pk1 | exact pk2 | exact pk3) (by rfl) (by omega) (if_neg (Nat.lt_irrefl s)) | exact pr_load_tab (k := s) (by rfl) (by first | exact pk0 | exact pk1 | exact pk2 | exact pk3) (by rfl) (by omega) | exact pr_sub (by rfl) (by rfl) hw | exact pr_sub (by rfl) (by rfl) hw2 | exact zprA); exact rfl) | refine zs0 ?_ | refine zx0 ?_ | ((with_reducible apply At.storeArr (g := gi) (((dg z s : Nat) : Int))); exact rfl; exact rfl; exact rfl; exact rfl; exact rfl; exact rfl; exact (by repeat constructor); (first | omega | (simp only [lns] <;> omega))) | ((with_reducible apply At.box (d := 2)); exact rfl; exact rfl; exact rfl; intro b2) | ((with_reducible apply At.box (d := 3)); exact rfl; exact rfl; exact rfl; intro b3) | ((with_reducible apply At.alloc (d := 4)); exact rfl; exact rfl; intro b4) | ((with_reducible apply At.alloc (d := 6)); exact rfl; exact rfl; intro b6) | ((with_reducible apply At.alloc (d := 7)); exact rfl; exact rfl; intro b7) | (refine zsp ?_ ?_ <;> (intro hc; (try simp only [zhcs, reduceCtorEq] at hc); (try (exfalso; first | omega | contradiction | omega | exact absurd rfl hc | exact absurd (by decide) hc))))))
          all_goals (rw [e])
          all_goals ((with_reducible refine At.reachk (⟨s + 1, 0⟩) ?_ ?_ ?_ ?_); exact zsubs; exact zml; exact zente; exact ⟨⟨Nat.succ_le_of_lt h, by dsimp only; omega⟩, by dsimp only; omega⟩)
        · have hw : IntKind.wrap .i64 (((dg (z + y) s : Nat) : Int) - ((dg y s : Nat) : Int)) = ((dg (z + y) s : Nat) : Int) - ((dg y s : Nat) : Int) := by rw [IntKind.wrap_i64]; omega
          have hw2 : IntKind.wrap .i64 (((dg (z + y) s : Nat) : Int) - ((dg y s : Nat) : Int) - (c : Int)) = ((dg z s : Nat) : Int) - 256 := by rw [IntKind.wrap_i64]; omega
          have hw3 : IntKind.wrap .i64 (((dg z s : Nat) : Int) - 256 + 256) = ((dg z s : Nat) : Int) := by rw [IntKind.wrap_i64]; omega
          (repeat' (first | ((with_reducible apply At.mixed (id := 3) 8 (.q 0 (.q 1 (.q 2 (.q 3 (.b 4 5 (.l 5 (.x 6 (.x 7 .done))) (.l 4 (.x 6 (.x 7 .done))))))))); exact rfl; kernel_rfl; kernel_rfl; kernel_rfl) | refine zsx ?_ | refine zss ?_ | ((with_reducible apply AtM.bo); exact rfl; exact rfl; exact rfl) | ((first | (with_reducible first | apply At.val | apply AtQ.val) | ((with_reducible first | apply AtM1.valz | apply AtM1.val); exact rfl) | ((with_reducible apply AtM1.val); exact rfl)); (first | exact pr_load_tabv (k := s) (v := dg (z + y) s) (by rfl) (by first | exact pk0 | exact pk1 | exact pk2 | exact pk3) (by rfl) (by omega) (if_neg (Nat.lt_irrefl s)) | exact pr_load_tab (k := s) (by rfl) (by first | exact pk0 | exact pk1 | exact pk2 | exact pk3) (by rfl) (by omega) | exact pr_sub (by rfl) (by rfl) hw | exact pr_sub (by rfl) (by rfl) hw2 | exact pr_add (by rfl) (by rfl) hw3 | exact zprA); exact rfl) | refine zs0 ?_ | refine zx0 ?_ | ((with_reducible apply At.storeArr (g := gi) (((dg z s : Nat) : Int))); exact rfl; exact rfl; exact rfl; exact rfl; exact rfl; exact rfl; exact (by repeat constructor); (first | omega | (simp only [lns] <;> omega))) | ((with_reducible apply At.box (d := 2)); exact rfl; exact rfl; exact rfl; intro b2) | ((with_reducible apply At.box (d := 3)); exact rfl; exact rfl; exact rfl; intro b3) | ((with_reducible apply At.alloc (d := 4)); exact rfl; exact rfl; intro b4) | ((with_reducible apply At.alloc (d := 6)); exact rfl; exact rfl; intro b6) | ((with_reducible apply At.alloc (d := 7)); exact rfl; exact rfl; intro b7) | (refine zsp ?_ ?_ <;> (intro hc; (try simp only [zhcs, reduceCtorEq] at hc); (try (exfalso; first | omega | contradiction | omega | exact absurd rfl hc | exact absurd (by decide) hc))))))
          all_goals (rw [e])
          all_goals ((with_reducible refine At.reachk (⟨s + 1, 1⟩) ?_ ?_ ?_ ?_); exact zsubs; exact zml; exact zente; exact ⟨⟨Nat.succ_le_of_lt h, by dsimp only; omega⟩, by dsimp only; omega⟩)
      · have e16 : s = 16 := by omega
        subst e16
        have e : tab (fun j => if j < 16 then dg z j else dg (z + y) j) = tab (dg z) := tab_congr fun j hj => if_pos hj
        rw [e]
        have hlz := tabm_len (dg z)
        (repeat' (first | refine zss ?_ | ((first | (with_reducible first | apply At.val | apply AtQ.val)); (exact zprA); exact rfl) | refine zs0 ?_ | ((with_reducible first | apply AtM1.callp | apply AtQ.callp | apply At.callp); kernel_rfl; exact rfl; exact rfl; exact of_r z hz) | ((with_reducible apply At.box (d := 2)); exact rfl; exact rfl; exact rfl; intro b2) | ((with_reducible apply At.box (d := 3)); exact rfl; exact rfl; exact rfl; intro b3) | ((with_reducible apply At.alloc (d := 4)); exact rfl; exact rfl; intro b4) | ((with_reducible apply At.alloc (d := 6)); exact rfl; exact rfl; intro b6) | ((with_reducible apply At.alloc (d := 7)); exact rfl; exact rfl; intro b7) | (refine zsp ?_ ?_ <;> (intro hc; (try simp only [zhcs, reduceCtorEq] at hc); (try (exfalso; first | omega | contradiction | omega | exact absurd rfl hc | exact absurd (by decide) hc))))))
        all_goals ((with_reducible apply At.retV (B := [])); exact rfl; (repeat' (first | exact RVs.nil | (with_reducible apply RVs.cons) | exact rv_tmp (by rfl) | exact rv_cellN (by rfl) (by repeat constructor) (by rfl) (by rfl) (by rfl) | exact rv_cell1 (by rfl) (by repeat constructor) (by rfl) (by rfl) | exact rv_cellA (by rfl) (by repeat constructor) (by rfl) (by rfl) zlq)); exact zml; exact zkp; exact ⟨rfl, rfl, rfl⟩)
end Wide
end Go.Proofs.YtpdleggpmhlagaaDoor
/- The document's division, bit by bit. -/
set_option linter.unusedSimpArgs false
set_option linter.unusedVariables false
set_option linter.unusedSectionVars false
set_option maxRecDepth 20000
set_option maxHeartbeats 4000000
namespace Go.Proofs.YtpdleggpmhlagaaDoor
open Go Go.J
attribute [local irreducible] At AtQ AtM AtM1 PR Ct Pu Rd Res.blk Res.own Res.ex RVs RV
namespace Wide
theorem i64_or8' : ∀ (a : Fin 256) (r : Fin 8), a.val % 2 ^ (r.val + 1) = 0 → bits .or .i64 (a.val : Int) ((2 ^ r.val : Nat) : Int) = ((a.val + 2 ^ r.val : Nat) : Int) := by decide +kernel
theorem i64_or8 {a r : Nat} (ha : a < 256) (hr : r < 8) (h : a % 2 ^ (r + 1) = 0) : bits .or .i64 (a : Int) ((2 ^ r : Nat) : Int) = ((a + 2 ^ r : Nat) : Int) := i64_or8' ⟨a, ha⟩ ⟨r, hr⟩ h
theorem i64_and1' : ∀ a : Fin 256, bits .and .i64 (a.val : Int) 1 = ((a.val % 2 : Nat) : Int) := by decide +kernel
theorem i64_and1 {a : Nat} (ha : a < 256) : bits .and .i64 (a : Int) 1 = ((a % 2 : Nat) : Int) := i64_and1' ⟨a, ha⟩
theorem pow_split (i : Nat) : (2 : Nat) ^ i = 256 ^ (i / 8) * 2 ^ (i % 8) := by
  rw [show (256 : Nat) = 2 ^ 8 from rfl, ← Nat.pow_mul, ← Nat.pow_add, Nat.div_add_mod]
theorem bit_of (x i : Nat) : dg x (i / 8) / 2 ^ (i % 8) % 2 = x / 2 ^ i % 2 := by
  have hr : i % 8 < 8 := Nat.mod_lt _ (by decide)
  unfold dg
  rw [pow_split i, ← Nat.div_div_eq_div_mul]
  generalize x / 256 ^ (i / 8) = a
  generalize i % 8 = r at *
  have e : (256 : Nat) = 2 ^ r * 2 ^ (8 - r) := by rw [← Nat.pow_add, show r + (8 - r) = 8 by omega]
  rw [e, Nat.mod_mul_right_div_self, Nat.mod_mod_of_dvd]
  rw [show 8 - r = (7 - r) + 1 by omega, Nat.pow_succ]
  exact Nat.dvd_mul_left _ _
theorem dg_zero (O i k : Nat) (hO : O % 2 ^ i = 0) (hk : k < i / 8) : dg O k = 0 := by
  unfold dg
  obtain ⟨q, rfl⟩ := Nat.dvd_of_mod_eq_zero hO
  have e : i = 8 * k + 8 + (i - (8 * k + 8)) := by omega
  rw [e, Nat.pow_add, Nat.pow_add, Nat.pow_mul, Nat.mul_assoc, Nat.mul_assoc, show (2 ^ 8 : Nat) = 256 from rfl, Nat.mul_div_cancel_left _ (Nat.pow_pos (by decide)), Nat.mul_mod_right]
theorem dg_or_mod (O i : Nat) (hO : O % 2 ^ (i + 1) = 0) : dg O (i / 8) % 2 ^ (i % 8 + 1) = 0 := by
  have hr : i % 8 < 8 := Nat.mod_lt _ (by decide)
  unfold dg
  obtain ⟨q, rfl⟩ := Nat.dvd_of_mod_eq_zero hO
  rw [Nat.pow_succ, pow_split i, Nat.mul_assoc, Nat.mul_assoc, Nat.mul_div_cancel_left _ (Nat.pow_pos (by decide)), ← Nat.mul_assoc, ← Nat.pow_succ]
  generalize i % 8 = r at *
  have e : (256 : Nat) = 2 ^ (r + 1) * 2 ^ (7 - r) := by rw [← Nat.pow_add, show r + 1 + (7 - r) = 8 by omega]
  rw [e, Nat.mod_mod_of_dvd _ (Nat.dvd_mul_right _ _), Nat.mul_mod_right]
theorem dg_add_bit (O i k : Nat) (hO : O % 2 ^ (i + 1) = 0) : dg (O + 2 ^ i) k = if k = i / 8 then dg O k + 2 ^ (i % 8) else dg O k := by
  have hr : i % 8 < 8 := Nat.mod_lt _ (by decide)
  by_cases h : k = i / 8
  · rw [if_pos h]
    subst h
    have hm := dg_or_mod O i hO
    have hl := dg_lt O (i / 8)
    have e : (O + 2 ^ i) / 256 ^ (i / 8) = O / 256 ^ (i / 8) + 2 ^ (i % 8) := by
      rw [pow_split i, Nat.add_mul_div_left _ _ (Nat.pow_pos (by decide))]
    unfold dg at *
    rw [e]
    generalize O / 256 ^ (i / 8) = a at *
    generalize i % 8 = r at *
    have hp : 2 ^ r < 256 := by
      have : (2 : Nat) ^ r ≤ 2 ^ 7 := Nat.pow_le_pow_right (by decide) (by omega)
      omega
    obtain ⟨q, hq⟩ := Nat.dvd_of_mod_eq_zero hm
    have h256 : (256 : Nat) = 2 ^ (r + 1) * 2 ^ (7 - r) := by rw [← Nat.pow_add, show r + 1 + (7 - r) = 8 by omega]
    have hq2 : q < 2 ^ (7 - r) := by
      apply Nat.lt_of_mul_lt_mul_left (a := 2 ^ (r + 1))
      rw [← hq, ← h256]; exact hl
    have hq3 : 2 ^ (r + 1) * (q + 1) ≤ 256 := by
      rw [h256]; exact Nat.mul_le_mul_left _ hq2
    rw [Nat.mul_add, ← hq, Nat.pow_succ] at hq3
    rw [Nat.add_mod, Nat.mod_eq_of_lt hp, Nat.mod_eq_of_lt (by omega)]
  · rw [if_neg h]
    by_cases h2 : k < i / 8
    · have hO' : O % 2 ^ i = 0 := by
        obtain ⟨q, rfl⟩ := Nat.dvd_of_mod_eq_zero hO
        rw [Nat.pow_succ, Nat.mul_assoc, Nat.mul_mod_right]
      rw [dg_zero O i k hO' h2, dg_zero _ i k (by rw [Nat.add_mod_right]; exact hO') h2]
    · unfold dg
      obtain ⟨q, rfl⟩ := Nat.dvd_of_mod_eq_zero hO
      have hk : i + 1 ≤ 8 * k := by omega
      have e : (256 : Nat) ^ k = 2 ^ (i + 1) * 2 ^ (8 * k - (i + 1)) := by rw [← Nat.pow_add, show i + 1 + (8 * k - (i + 1)) = 8 * k by omega, Nat.pow_mul]
      rw [e, ← Nat.div_div_eq_div_mul, ← Nat.div_div_eq_div_mul, Nat.mul_div_cancel_left _ (Nat.pow_pos (by decide)), Nat.mul_add_div (Nat.pow_pos (by decide)), Nat.div_eq_of_lt (show 2 ^ i < 2 ^ (i + 1) by rw [Nat.pow_succ]; have : 0 < 2 ^ i := Nat.pow_pos (by decide); omega), Nat.add_zero]
theorem tab_bit (O i : Nat) (hi : i < 128) (hO : O % 2 ^ (i + 1) = 0) : (tab (dg O)).set (i / 8) ((dg O (i / 8) + 2 ^ (i % 8) : Nat) : Int) = tab (dg (O + 2 ^ i)) := by
  rw [tab_set _ _ (by omega)]
  apply tab_congr
  intro j _
  rw [dg_add_bit O i j hO]
  by_cases h : j = i / 8
  · subst h; rw [if_pos rfl]
  · rw [if_neg h, if_neg h]
/-- one bit more -/
theorem div_bit (x n i : Nat) (hn : 0 < n) : x / 2 ^ i = 2 * (x / 2 ^ (i + 1)) + x / 2 ^ i % 2 ∧
    (2 * (x / 2 ^ (i + 1) % n) + x / 2 ^ i % 2 < n → x / 2 ^ i % n = 2 * (x / 2 ^ (i + 1) % n) + x / 2 ^ i % 2 ∧ x / 2 ^ i / n = 2 * (x / 2 ^ (i + 1) / n)) ∧
    (¬ 2 * (x / 2 ^ (i + 1) % n) + x / 2 ^ i % 2 < n → x / 2 ^ i % n = 2 * (x / 2 ^ (i + 1) % n) + x / 2 ^ i % 2 - n ∧ x / 2 ^ i / n = 2 * (x / 2 ^ (i + 1) / n) + 1) := by
  have e0 : x / 2 ^ (i + 1) = x / 2 ^ i / 2 := by rw [Nat.pow_succ, ← Nat.div_div_eq_div_mul]
  rw [e0]
  generalize x / 2 ^ i = a
  obtain ⟨c, hc⟩ : ∃ c, c = a / 2 := ⟨_, rfl⟩
  rw [← hc]
  have hd := Nat.div_add_mod c n
  have hm := Nat.mod_lt c hn
  have hq : n * (2 * (c / n)) = 2 * (n * (c / n)) := by rw [Nat.mul_left_comm]
  refine ⟨by omega, fun h => ?_, fun h => ?_⟩
  · have e : a = n * (2 * (c / n)) + (2 * (c % n) + a % 2) := by omega
    have e1 := Nat.mul_add_div hn (2 * (c / n)) (2 * (c % n) + a % 2)
    have e2 := Nat.mul_add_mod n (2 * (c / n)) (2 * (c % n) + a % 2)
    rw [← e, Nat.div_eq_of_lt h] at e1
    rw [← e, Nat.mod_eq_of_lt h] at e2
    exact ⟨e2, by omega⟩
  · have e : a = n * (2 * (c / n) + 1) + (2 * (c % n) + a % 2 - n) := by rw [Nat.mul_add, Nat.mul_one]; omega
    have hl : 2 * (c % n) + a % 2 - n < n := by omega
    have e1 := Nat.mul_add_div hn (2 * (c / n) + 1) (2 * (c % n) + a % 2 - n)
    have e2 := Nat.mul_add_mod n (2 * (c / n) + 1) (2 * (c % n) + a % 2 - n)
    rw [← e, Nat.div_eq_of_lt hl] at e1
    rw [← e, Nat.mod_eq_of_lt hl] at e2
    exact ⟨e2, by omega⟩
theorem wd_small {b : Nat} (h : b < 18446744073709551616) : Value.agg #[.int .u64 0, .int .u64 (b : Int)] = wv b := wd_mk (by omega) (by omega)
structure DS where
  (i : Nat) (O : Nat) (L : Nat)
theorem div_r0 (x : Nat) : Pu Tryd.prog 51 #[wv x, .int .u64 0] (.tuple #[wv 0, .int .u64 0, .int .i64 1]) := Pu.intro fun m => by
  refine Ct.enterV (by rfl) Tryd.func51 rfl Tryd.ntmps51 rfl (fun w0 Rest => ?_)
  (repeat' (first | refine zss ?_ | ((first | (with_reducible first | apply At.val | apply AtQ.val)); (exact zprA); exact rfl) | refine zs0 ?_ | ((with_reducible apply At.box (d := 2)); exact rfl; exact rfl; exact rfl; intro b2) | ((with_reducible apply At.alloc (d := 4)); exact rfl; exact rfl; intro b4) | ((with_reducible apply At.alloc (d := 7)); exact rfl; exact rfl; intro b7) | ((with_reducible apply At.alloc (d := 8)); exact rfl; exact rfl; intro b8) | ((with_reducible apply At.alloc (d := 9)); exact rfl; exact rfl; intro b9) | ((with_reducible apply At.alloc (d := 10)); exact rfl; exact rfl; intro b10) | (refine zsp ?_ ?_ <;> (intro hc; (try simp only [zhcs, reduceCtorEq] at hc); (try (exfalso; first | omega | contradiction | omega | exact absurd rfl hc | exact absurd (by decide) hc))))))
  all_goals ((with_reducible apply At.retV (B := [])); exact rfl; (repeat' (first | exact RVs.nil | (with_reducible apply RVs.cons) | exact rv_tmp (by rfl) | exact rv_cellN (by rfl) (by repeat constructor) (by rfl) (by rfl) (by rfl) | exact rv_cell1 (by rfl) (by repeat constructor) (by rfl) (by rfl) | exact rv_cellA (by rfl) (by repeat constructor) (by rfl) (by rfl) zlq)); exact zml; exact zkp; exact ⟨rfl, rfl, rfl⟩)
theorem div_r (x n : Nat) (hx : x < 340282366920938463463374607431768211456) (hn : 0 < n) (hnb : n < 18446744073709551616) :
    Pu Tryd.prog 51 #[wv x, .int .u64 (n : Int)] (.tuple #[wv (x / n), .int .u64 ((x % n : Nat) : Int), .int .i64 0]) := Pu.intro fun m => by
  have hlx := tab_len (dg x)
  have hmx := tabm_len (dg x)
  refine Ct.enterV (by rfl) Tryd.func51 rfl Tryd.ntmps51 rfl (fun w0 Rest => ?_)
  (repeat' (first | refine zss ?_ | ((first | (with_reducible first | apply At.val | apply AtQ.val)); (exact zprA); exact rfl) | refine zs0 ?_ | ((with_reducible first | apply AtM1.callp | apply AtQ.callp | apply At.callp); kernel_rfl; exact rfl; exact rfl; exact bytes x hx) | ((with_reducible apply At.storeA); exact rfl; exact rfl; exact rfl; exact all_gi _; exact (by repeat constructor); (first | exact rfl | (first | omega | (simp only [lns] <;> omega))); (first | exact rfl | (first | omega | (simp only [lns] <;> omega)))) | ((with_reducible apply At.box (d := 2)); exact rfl; exact rfl; exact rfl; intro b2) | ((with_reducible apply At.alloc (d := 4)); exact rfl; exact rfl; intro b4) | ((with_reducible apply At.alloc (d := 7)); exact rfl; exact rfl; intro b7) | ((with_reducible apply At.alloc (d := 8)); exact rfl; exact rfl; intro b8) | ((with_reducible apply At.alloc (d := 9)); exact rfl; exact rfl; intro b9) | ((with_reducible apply At.alloc (d := 10)); exact rfl; exact rfl; intro b10) | (refine zsp ?_ ?_ <;> (intro hc; (try simp only [zhcs, reduceCtorEq] at hc); (try (exfalso; first | omega | contradiction | omega | exact absurd rfl hc | exact absurd (by decide) hc))))))
  rw [show ([.int .u64 0, .int .u64 0] : List Value) = wd 0 from rfl]
  (refine At.loopk (σ := DS) [4, 7, 8, 9, 10] (fun s F0 => (11, .int .i64 ((s.i : Int) - 1)) :: F0) (fun s => m) (fun s => .blk b10 24 [.int .u64 0, .int .u64 (n : Int)] :: .blk b9 58 ((tab (dg x)).map gi) :: .blk b8 24 (wd s.L) :: .blk b7 58 ((tab (dg s.O)).map gi) :: .blk b4 24 (wd 0) :: Rest) (fun s => s.i ≤ 128 ∧ s.O = x / 2 ^ s.i / n * 2 ^ s.i ∧ s.L = x / 2 ^ s.i % n) (fun s => s.i) ⟨128, 0, 0⟩ (by rfl) ?_ zsubs zml zente ?_)
  · refine ⟨Nat.le_refl _, ?_, ?_⟩
    · show 0 = x / 2 ^ 128 / n * 2 ^ 128
      rw [Nat.div_eq_of_lt (show x < 2 ^ 128 from hx), Nat.zero_div, Nat.zero_mul]
    · show 0 = x / 2 ^ 128 % n
      rw [Nat.div_eq_of_lt (show x < 2 ^ 128 from hx), Nat.zero_mod]
  rintro ⟨i, O, L⟩ ⟨hi, hO, hL⟩
  dsimp only at hi hO hL ⊢
  have hlO := tab_len (dg O)
  have hmO := tabm_len (dg O)
  rcases i with _ | i
  · rw [Nat.pow_zero, Nat.div_one, Nat.mul_one] at hO
    rw [Nat.pow_zero, Nat.div_one] at hL
    have hOb : O < 340282366920938463463374607431768211456 := by rw [hO]; exact Nat.lt_of_le_of_lt (Nat.div_le_self _ _) hx
    have hLn : L < n := by rw [hL]; exact Nat.mod_lt _ hn
    rw [← hO, ← hL, show ((L : Nat) : Int) = ((L % 18446744073709551616 : Nat) : Int) by omega]
    (repeat' (first | ((with_reducible apply At.mixed (id := 11) 16 (.q 0 (.q 1 (.q 2 (.q 3 (.q 4 (.q 5 (.q 6 (.q 7 (.q 8 (.q 9 (.q 10 (.x 11 (.q 12 (.q 13 (.q 14 (.x 15 .done))))))))))))))))); exact rfl; kernel_rfl; kernel_rfl; kernel_rfl) | ((with_reducible apply At.mixed (id := 14) 10 (.q 0 (.q 1 (.q 2 (.q 3 (.q 4 (.q 5 (.q 6 (.q 7 (.q 8 (.x 9 .done))))))))))); exact rfl; kernel_rfl; kernel_rfl; kernel_rfl) | ((with_reducible apply At.mixedB (id := 15) 4 7 (.q 0 (.q 1 (.q 2 (.q 3 (.l 4 (.q 5 (.q 6 .done)))))))); exact rfl; exact (by repeat constructor); exact rfl; kernel_rfl; kernel_rfl; kernel_rfl) | refine zsx ?_ | refine zss ?_ | ((with_reducible apply AtM.bo); exact rfl; exact rfl; exact rfl) | ((first | (with_reducible first | apply At.val | apply AtQ.val) | ((with_reducible first | apply AtM1.valz | apply AtM1.val); exact rfl) | ((with_reducible apply AtM1.val); exact rfl)); (exact zprA); exact rfl) | refine zs0 ?_ | refine zx0 ?_ | ((with_reducible first | apply AtM1.callp | apply AtQ.callp | apply At.callp); kernel_rfl; exact rfl; exact rfl; exact of_r O hOb) | ((with_reducible apply At.box (d := 2)); exact rfl; exact rfl; exact rfl; intro b2) | ((with_reducible apply At.alloc (d := 4)); exact rfl; exact rfl; intro b4) | ((with_reducible apply At.alloc (d := 7)); exact rfl; exact rfl; intro b7) | ((with_reducible apply At.alloc (d := 8)); exact rfl; exact rfl; intro b8) | ((with_reducible apply At.alloc (d := 9)); exact rfl; exact rfl; intro b9) | ((with_reducible apply At.alloc (d := 10)); exact rfl; exact rfl; intro b10) | (refine zsp ?_ ?_ <;> (intro hc; (try simp only [zhcs, reduceCtorEq] at hc); (try (exfalso; first | omega | contradiction | omega | exact absurd rfl hc | exact absurd (by decide) hc))))))
    all_goals ((with_reducible apply At.retV (B := [])); exact rfl; (repeat' (first | exact RVs.nil | (with_reducible apply RVs.cons) | exact rv_tmp (by rfl) | exact rv_cellN (by rfl) (by repeat constructor) (by rfl) (by rfl) (by rfl) | exact rv_cell1 (by rfl) (by repeat constructor) (by rfl) (by rfl) | exact rv_cellA (by rfl) (by repeat constructor) (by rfl) (by rfl) zlq)); exact zml; exact zkp; exact ⟨rfl, rfl, rfl⟩)
  · rw [show (((i + 1 : Nat) : Int) - 1) = (i : Int) by omega]
    obtain ⟨d0, d1, d2⟩ := div_bit x n i hn
    have hLn : L < n := by rw [hL]; exact Nat.mod_lt _ hn
    have hbit := bit_of x i
    obtain ⟨b, hb⟩ : ∃ b, b = x / 2 ^ i % 2 := ⟨_, rfl⟩
    have hb2 : b < 2 := by rw [hb]; exact Nat.mod_lt _ (by decide)
    rw [← hb] at d0 d1 d2 hbit
    rw [← hL] at d1 d2
    have hOm : O % 2 ^ (i + 1) = 0 := by rw [hO]; exact Nat.mul_mod_left _ _
    have hdl := dg_lt x (i / 8)
    have hol := dg_lt O (i / 8)
    have f1 : IntKind.wrap .i64 ((i : Int).tdiv 8) = ((i / 8 : Nat) : Int) := by
      have e : (i : Int).tdiv 8 = ((i / 8 : Nat) : Int) := (Int.ofNat_tdiv i 8).symm
      rw [e, IntKind.wrap_i64]; omega
    have f2 : (i : Int).tmod 8 = ((i % 8 : Nat) : Int) := u_rem i 8
    have f3 := u_shr (dg x (i / 8)) (i % 8)
    have f4 := i64_and1 (a := dg x (i / 8) / 2 ^ (i % 8)) (Nat.lt_of_le_of_lt (Nat.div_le_self _ _) hdl)
    rw [hbit] at f4
    have f5 := u_inN (a := b) (by omega)
    have ad1 := add_r L L (by omega) (by omega)
    rw [show sV (L + L) = L + L from if_pos (by omega), show sE (L + L) = 0 from if_pos (by omega)] at ad1
    have ad2 := add_r (L + L) b (by omega) (by omega)
    rw [show sV (L + L + b) = L + L + b from if_pos (by omega), show sE (L + L + b) = 0 from if_pos (by omega), ← wd_small (b := b) (by omega)] at ad2
    have kl := less_r (L + L + b) n (by omega) (by omega)
    rw [← wd_small hnb] at kl
    by_cases hc0 : L + L + b < n
    · rw [decide_eq_true hc0] at kl
      obtain ⟨r1, r2⟩ := d1 (by omega)
      (repeat' (first | ((with_reducible apply At.mixed (id := 11) 16 (.q 0 (.q 1 (.q 2 (.q 3 (.q 4 (.q 5 (.q 6 (.q 7 (.q 8 (.q 9 (.q 10 (.q 11 (.q 12 (.q 13 (.q 14 (.x 15 .done))))))))))))))))); exact rfl; kernel_rfl; kernel_rfl; kernel_rfl) | ((with_reducible apply At.mixed (id := 14) 10 (.q 0 (.q 1 (.q 2 (.q 3 (.q 4 (.q 5 (.q 6 (.q 7 (.q 8 (.x 9 .done))))))))))); exact rfl; kernel_rfl; kernel_rfl; kernel_rfl) | ((with_reducible apply At.mixedB (id := 15) 4 7 (.q 0 (.q 2 (.q 3 (.l 1 (.l 4 (.q 5 (.q 6 .done)))))))); exact rfl; exact (by repeat constructor); exact rfl; kernel_rfl; kernel_rfl; kernel_rfl) | refine zsx ?_ | refine zss ?_ | ((with_reducible apply AtM.bo); exact rfl; exact rfl; exact rfl) | ((first | (with_reducible first | apply At.val | apply AtQ.val) | ((with_reducible first | apply AtM1.valz | apply AtM1.val); exact rfl) | ((with_reducible apply AtM1.val); exact rfl)); (first | exact pr_quo (by rfl) (by rfl) (by omega) f1 | exact pr_rem (by rfl) (by rfl) (by omega) f2 | exact pr_shrv (by rfl) (by rfl) (by omega) (by simp only [IntKind.bits]; omega) f3 | exact pr_and (by rfl) (by rfl) f4 | exact pr_load_tab (k := i / 8) (by rfl) (by first | exact pk0 | exact pk1 | exact pk2 | exact pk3 | exact pk4) (by rfl) (by omega) | exact zprA); exact rfl) | refine zs0 ?_ | refine zx0 ?_ | ((with_reducible first | apply AtM1.callp | apply AtQ.callp | apply At.callp); kernel_rfl; exact rfl; exact rfl; exact ad1) | ((with_reducible first | apply AtM1.callp | apply AtQ.callp | apply At.callp); kernel_rfl; exact rfl; exact rfl; exact ad2) | ((with_reducible first | apply AtM1.callp | apply AtQ.callp | apply At.callp); kernel_rfl; exact rfl; exact rfl; exact kl) | ((with_reducible apply At.box (d := 2)); exact rfl; exact rfl; exact rfl; intro b2) | ((with_reducible apply At.alloc (d := 4)); exact rfl; exact rfl; intro b4) | ((with_reducible apply At.alloc (d := 7)); exact rfl; exact rfl; intro b7) | ((with_reducible apply At.alloc (d := 8)); exact rfl; exact rfl; intro b8) | ((with_reducible apply At.alloc (d := 9)); exact rfl; exact rfl; intro b9) | ((with_reducible apply At.alloc (d := 10)); exact rfl; exact rfl; intro b10) | (refine zsp ?_ ?_ <;> (intro hc; (try simp only [zhcs, reduceCtorEq] at hc); (try (exfalso; first | (first | omega | exact absurd hc (by decide)) | contradiction | omega | exact absurd rfl hc | exact absurd (by decide) hc))))))
      all_goals ((with_reducible refine At.reachk (⟨i, O, L + L + b⟩) ?_ ?_ ?_ ?_); exact zsubs; exact zml; exact zente; exact ⟨⟨by dsimp only; omega, by dsimp only; rw [r2, hO, Nat.pow_succ]; rw [Nat.mul_comm 2, Nat.mul_assoc, Nat.mul_comm 2], by dsimp only; rw [r1]; omega⟩, Nat.lt_succ_self i⟩)
    · rw [decide_eq_false hc0] at kl
      obtain ⟨r1, r2⟩ := d2 (by omega)
      have ks := sub_r (L + L + b) n (by omega) (by omega)
      rw [show dE (L + L + b) n = 0 from if_neg hc0, ← wd_small hnb] at ks
      have f6 : IntKind.wrap .i64 (1 * 2 ^ ((i % 8 : Nat) : Int).toNat) = ((2 ^ (i % 8) : Nat) : Int) := by
        have : (2 : Nat) ^ (i % 8) ≤ 2 ^ 7 := Nat.pow_le_pow_right (by decide) (by omega)
        rw [Int.toNat_natCast, Int.one_mul, show ((2 : Int) ^ (i % 8)) = ((2 ^ (i % 8) : Nat) : Int) by rw [Int.natCast_pow]; rfl, IntKind.wrap_i64]
        generalize 2 ^ (i % 8) = p at *
        omega
      have f7 := i64_or8 hol (Nat.mod_lt i (by decide)) (dg_or_mod O i hOm)
      have e := tab_bit O i (by omega) hOm
      (repeat' (first | ((with_reducible apply At.mixed (id := 11) 16 (.q 0 (.q 1 (.q 2 (.q 3 (.q 4 (.q 5 (.q 6 (.q 7 (.q 8 (.q 9 (.q 10 (.q 11 (.q 12 (.q 13 (.q 14 (.x 15 .done))))))))))))))))); exact rfl; kernel_rfl; kernel_rfl; kernel_rfl) | ((with_reducible apply At.mixed (id := 14) 10 (.q 0 (.q 1 (.q 2 (.q 3 (.q 4 (.q 5 (.q 6 (.q 7 (.q 8 (.x 9 .done))))))))))); exact rfl; kernel_rfl; kernel_rfl; kernel_rfl) | ((with_reducible apply At.mixedB (id := 15) 4 7 (.q 0 (.q 2 (.q 3 (.l 1 (.l 4 (.q 5 (.q 6 .done)))))))); exact rfl; exact (by repeat constructor); exact rfl; kernel_rfl; kernel_rfl; kernel_rfl) | refine zsx ?_ | refine zss ?_ | ((with_reducible apply AtM.bo); exact rfl; exact rfl; exact rfl) | ((first | (with_reducible first | apply At.val | apply AtQ.val) | ((with_reducible first | apply AtM1.valz | apply AtM1.val); exact rfl) | ((with_reducible apply AtM1.val); exact rfl)); (first | exact pr_quo (by rfl) (by rfl) (by omega) f1 | exact pr_rem (by rfl) (by rfl) (by omega) f2 | exact pr_shrv (by rfl) (by rfl) (by omega) (by simp only [IntKind.bits]; omega) f3 | exact pr_shlv (by rfl) (by rfl) (by omega) (by simp only [IntKind.bits]; omega) f6 | exact pr_and (by rfl) (by rfl) f4 | exact pr_or (by rfl) (by rfl) f7 | exact pr_load_tab (k := i / 8) (by rfl) (by first | exact pk0 | exact pk1 | exact pk2 | exact pk3 | exact pk4) (by rfl) (by omega) | exact zprA); exact rfl) | refine zs0 ?_ | refine zx0 ?_ | ((with_reducible apply At.storeArr (g := gi) (((dg O (i / 8) + 2 ^ (i % 8) : Nat) : Int))); exact rfl; exact rfl; exact rfl; exact rfl; exact rfl; exact rfl; exact (by repeat constructor); (first | omega | (simp only [lns] <;> omega))) | ((with_reducible first | apply AtM1.callp | apply AtQ.callp | apply At.callp); kernel_rfl; exact rfl; exact rfl; exact ad1) | ((with_reducible first | apply AtM1.callp | apply AtQ.callp | apply At.callp); kernel_rfl; exact rfl; exact rfl; exact ad2) | ((with_reducible first | apply AtM1.callp | apply AtQ.callp | apply At.callp); kernel_rfl; exact rfl; exact rfl; exact kl) | ((with_reducible first | apply AtM1.callp | apply AtQ.callp | apply At.callp); kernel_rfl; exact rfl; exact rfl; exact ks) | ((with_reducible apply At.box (d := 2)); exact rfl; exact rfl; exact rfl; intro b2) | ((with_reducible apply At.alloc (d := 4)); exact rfl; exact rfl; intro b4) | ((with_reducible apply At.alloc (d := 7)); exact rfl; exact rfl; intro b7) | ((with_reducible apply At.alloc (d := 8)); exact rfl; exact rfl; intro b8) | ((with_reducible apply At.alloc (d := 9)); exact rfl; exact rfl; intro b9) | ((with_reducible apply At.alloc (d := 10)); exact rfl; exact rfl; intro b10) | (refine zsp ?_ ?_ <;> (intro hc; (try simp only [zhcs, reduceCtorEq] at hc); (try (exfalso; first | (first | omega | exact absurd hc (by decide)) | contradiction | omega | exact absurd rfl hc | exact absurd (by decide) hc))))))
      all_goals (rw [e])
      all_goals ((with_reducible refine At.reachk (⟨i, O + 2 ^ i, L + L + b - n⟩) ?_ ?_ ?_ ?_); exact zsubs; exact zml; exact zente; exact ⟨⟨by dsimp only; omega, by dsimp only; rw [r2, hO, Nat.pow_succ, Nat.add_mul, Nat.one_mul]; rw [Nat.mul_comm 2, Nat.mul_assoc, Nat.mul_comm 2], by dsimp only; rw [r1]; omega⟩, Nat.lt_succ_self i⟩)
end Wide
end Go.Proofs.YtpdleggpmhlagaaDoor
/- A number's digits, and the number of digits (no program). -/
set_option linter.unusedSimpArgs false
set_option linter.unusedVariables false
set_option linter.unusedSectionVars false
set_option maxRecDepth 20000
set_option maxHeartbeats 4000000
namespace Go.Proofs.YtpdleggpmhlagaaDoor
namespace Wide
abbrev dd := Lib.decDigits
theorem dd_small {u : Nat} (h : u < 10) : dd u = [UInt8.ofNat (48 + u)] := Lib.decDigits_one h
theorem dd_big {u : Nat} (h : ¬ u < 10) : dd u = dd (u / 10) ++ [UInt8.ofNat (48 + u % 10)] := by
  show Lib.decDigits u = _
  rw [Lib.decDigits, dif_neg h]
def pad : Nat → Nat → List UInt8
  | 0, _ => []
  | k + 1, r => pad k (r / 10) ++ [UInt8.ofNat (48 + r % 10)]
theorem pad_len : ∀ k r, (pad k r).length = k
  | 0, _ => rfl
  | k + 1, r => by simp [pad, pad_len k]
theorem dd_pad : ∀ (k q r : Nat), 0 < q → r < 10 ^ k → dd (q * 10 ^ k + r) = dd q ++ pad k r
  | 0, q, r, _, hr => by
    have : r = 0 := by simpa using hr
    subst this; simp [pad]
  | k + 1, q, r, hq, hr => by
    have hp : 0 < 10 ^ k := Nat.pow_pos (by decide)
    have e : q * 10 ^ (k + 1) = 10 * (q * 10 ^ k) := by rw [Nat.pow_succ, ← Nat.mul_assoc, Nat.mul_comm]
    have hqp : 10 ^ k ≤ q * 10 ^ k := Nat.le_mul_of_pos_left _ hq
    have ih := dd_pad k q (r / 10) hq (by rw [Nat.pow_succ] at hr; omega)
    rw [dd_big (by omega), e, show (10 * (q * 10 ^ k) + r) / 10 = q * 10 ^ k + r / 10 by omega, show (10 * (q * 10 ^ k) + r) % 10 = r % 10 by omega, ih, List.append_assoc]
    rfl
theorem dd_len_le : ∀ (k u : Nat), 0 < k → u < 10 ^ k → (dd u).length ≤ k
  | 0, _, h, _ => absurd h (Nat.lt_irrefl _)
  | k + 1, u, _, hu => by
    by_cases h : u < 10
    · rw [dd_small h]; simp
    · rw [dd_big h]
      rcases k with _ | k
      · simp at hu; omega
      · have := dd_len_le (k + 1) (u / 10) (by omega) (by rw [Nat.pow_succ] at hu; omega)
        simp only [List.length_append, List.length_singleton]; omega
theorem dd_ne (u : Nat) : dd u ≠ [] := by
  by_cases h : u < 10
  · rw [dd_small h]; simp
  · rw [dd_big h]; simp
theorem dd_pos (u : Nat) : 0 < (dd u).length := List.length_pos_iff.2 (dd_ne u)
/-- a text's digits -/
def dgt (c : UInt8) : Nat := (c.toNat + 208) % 256 % 10
def isd (c : UInt8) : Prop := 48 ≤ c.toNat ∧ c.toNat ≤ 57
instance (c : UInt8) : Decidable (isd c) := inferInstanceAs (Decidable (_ ∧ _))
def pv (s : List UInt8) : Nat := s.foldl (fun a c => a * 10 + dgt c) 0
theorem pv_snoc (t : List UInt8) (c : UInt8) : pv (t ++ [c]) = pv t * 10 + dgt c := by simp [pv, List.foldl_append]
theorem dgt_of {d : Nat} (h : d < 10) : dgt (UInt8.ofNat (48 + d)) = d := by
  unfold dgt
  rw [UInt8.toNat_ofNat', Nat.mod_eq_of_lt (show 48 + d < 2 ^ 8 by omega)]
  omega
theorem isd_of {d : Nat} (h : d < 10) : isd (UInt8.ofNat (48 + d)) := by
  unfold isd
  rw [UInt8.toNat_ofNat', Nat.mod_eq_of_lt (show 48 + d < 2 ^ 8 by omega)]
  omega
theorem of_dgt {c : UInt8} (h : isd c) : UInt8.ofNat (48 + dgt c) = c := by
  apply UInt8.toNat_inj.1
  have := UInt8.toNat_lt c
  unfold isd at h
  unfold dgt
  rw [UInt8.toNat_ofNat', show 48 + (c.toNat + 208) % 256 % 10 = c.toNat by omega, Nat.mod_eq_of_lt this]
theorem pv_dd (u : Nat) : pv (dd u) = u := by
  induction u using Nat.strongRecOn with
  | _ u ih =>
    by_cases h : u < 10
    · rw [dd_small h, show [UInt8.ofNat (48 + u)] = [] ++ [UInt8.ofNat (48 + u)] from rfl, pv_snoc, dgt_of h]
      show 0 * 10 + u = u
      omega
    · rw [dd_big h, pv_snoc, ih (u / 10) (by omega), dgt_of (Nat.mod_lt _ (by decide))]
      omega
theorem dd_isd (u : Nat) : ∀ c ∈ dd u, isd c := by
  induction u using Nat.strongRecOn with
  | _ u ih =>
    by_cases h : u < 10
    · rw [dd_small h]
      intro c hc
      rw [List.mem_singleton.1 hc]; exact isd_of h
    · rw [dd_big h]
      intro c hc
      rcases List.mem_append.1 hc with hc | hc
      · exact ih (u / 10) (by omega) c hc
      · rw [List.mem_singleton.1 hc]; exact isd_of (Nat.mod_lt _ (by decide))
/-- the first digit of what is not zero -/
theorem dd_lead (u : Nat) (hu : 0 < u) : (dd u).head? ≠ some 48 := by
  induction u using Nat.strongRecOn with
  | _ u ih =>
    by_cases h : u < 10
    · rw [dd_small h]
      intro e
      have e1 : UInt8.ofNat (48 + u) = 48 := Option.some.inj e
      have e2 := congrArg UInt8.toNat e1
      rw [UInt8.toNat_ofNat', Nat.mod_eq_of_lt (show 48 + u < 2 ^ 8 by omega)] at e2
      have : (48 : UInt8).toNat = 48 := rfl
      omega
    · rw [dd_big h, List.head?_append]
      have i := ih (u / 10) (by omega) (by omega)
      cases hd : (dd (u / 10)).head? with
      | none => exact absurd (List.head?_eq_none_iff.1 hd) (dd_ne _)
      | some c => rw [hd] at i; exact i
theorem dd_lead1 (u : Nat) (h : (dd u).head? = some 48) : (dd u).length = 1 := by
  by_cases h0 : u < 10
  · rw [dd_small h0]; rfl
  · exact absurd h (dd_lead u (by omega))
/-- a right text is that of its number -/
theorem dd_pv : ∀ (n : Nat) (s : List UInt8), s.length = n → s ≠ [] → (∀ c ∈ s, isd c) → (s.length = 1 ∨ s.head? ≠ some 48) → dd (pv s) = s := by
  intro n
  induction n with
  | zero => intro s hl hs; exact absurd (List.length_eq_zero_iff.1 hl) hs
  | succ n ih =>
    intro s hl hs hd h0
    obtain ⟨t, c, rfl⟩ : ∃ t c, s = t ++ [c] := ⟨s.dropLast, s.getLast hs, (List.dropLast_concat_getLast hs).symm⟩
    have hc := hd c (by simp)
    rw [pv_snoc]
    have hdl : dgt c < 10 := Nat.mod_lt _ (by decide)
    by_cases ht : t = []
    · subst ht
      show dd (0 * 10 + dgt c) = _
      rw [Nat.zero_mul, Nat.zero_add, dd_small hdl, of_dgt hc]; rfl
    · have hh : (t ++ [c]).head? = t.head? := by
        cases t with
        | nil => exact absurd rfl ht
        | cons a b => rfl
      have h1 : ¬ (t ++ [c]).length = 1 := by
        have := List.length_pos_iff.2 ht
        simp; omega
      have h2 : t.head? ≠ some 48 := by rw [← hh]; exact h0.resolve_left h1
      have i := ih t (by simpa using hl) ht (fun x hx => hd x (by simp [hx])) (.inr h2)
      have hp : 0 < pv t := by
        apply Nat.pos_of_ne_zero
        intro e
        rw [e] at i
        rw [← i] at h2
        exact h2 (by rw [dd_small (by decide)]; rfl)
      rw [dd_big (by omega), show (pv t * 10 + dgt c) / 10 = pv t by omega, show (pv t * 10 + dgt c) % 10 = dgt c by omega, i, of_dgt hc]
theorem pv_take {s : List UInt8} {i : Nat} (h : i < s.length) : pv (s.take (i + 1)) = pv (s.take i) * 10 + dgt (s[i]!) := by
  rw [List.take_add_one, List.getElem?_eq_getElem h, getElem!_pos s i h]
  exact pv_snoc _ _
theorem pv_mono {s : List UInt8} (i : Nat) : pv (s.take i) ≤ pv s := by
  have : ∀ (r : List UInt8) (a : Nat), a ≤ r.foldl (fun a c => a * 10 + dgt c) a := by
    intro r
    induction r with
    | nil => intro a; exact Nat.le_refl _
    | cons c r ih => intro a; exact Nat.le_trans (by omega) (ih (a * 10 + dgt c))
  conv => rhs; rw [← List.take_append_drop i s]
  unfold pv
  rw [List.foldl_append]
  exact this _ _
/-- what a text's number is, and whether it has one -/
def pok (s : List UInt8) : Prop := dd (pv s) = s ∧ pv s < 340282366920938463463374607431768211456
instance (s : List UInt8) : Decidable (pok s) := inferInstanceAs (Decidable (_ ∧ _))
def pV (s : List UInt8) : Nat := if pok s then pv s else 0
def pE (s : List UInt8) : Int := if pok s then 0 else 4
theorem pok_dd {u : Nat} (h : u < 340282366920938463463374607431768211456) : pok (dd u) := by
  unfold pok
  rw [pv_dd]
  exact ⟨rfl, h⟩
theorem pok_isd {s : List UInt8} (h : pok s) : ∀ c ∈ s, isd c := by
  rw [← h.1]; exact dd_isd _
theorem pok_len {s : List UInt8} (h : pok s) : s.length ≤ 39 := by
  rw [← h.1]
  exact dd_len_le 39 _ (by decide) (Nat.lt_trans h.2 (by decide))
theorem pok_take {s : List UInt8} (h : pok s) (i : Nat) : pv (s.take i) < 340282366920938463463374607431768211456 := Nat.lt_of_le_of_lt (pv_mono i) h.2
/-- a text of eighteen digits more -/
theorem dd_text (x : Nat) (h : 18446744073709551616 ≤ x) : dd x = dd (x / 1000000000000000000) ++ (dd (1000000000000000000 + x % 1000000000000000000)).drop ((dd (1000000000000000000 + x % 1000000000000000000)).length - 18) ∧ (dd (1000000000000000000 + x % 1000000000000000000)).length = 19 := by
  have p : (10 : Nat) ^ 18 = 1000000000000000000 := rfl
  have hr : x % 1000000000000000000 < 10 ^ 18 := by rw [p]; exact Nat.mod_lt _ (by decide)
  have e1 := dd_pad 18 (x / 1000000000000000000) (x % 1000000000000000000) (by omega) hr
  have e2 := dd_pad 18 1 (x % 1000000000000000000) (by decide) hr
  rw [p] at e1 e2
  have e3 : x / 1000000000000000000 * 1000000000000000000 + x % 1000000000000000000 = x := Nat.div_add_mod' x _
  rw [e3] at e1
  rw [Nat.one_mul, dd_small (show 1 < 10 by decide)] at e2
  have hl : (dd (1000000000000000000 + x % 1000000000000000000)).length = 19 := by rw [e2]; simp [pad_len]
  refine ⟨?_, hl⟩
  rw [hl, e1, e2, show 19 - 18 = 1 from rfl]
  exact congrArg (_ ++ ·) (List.drop_left (l₁ := [UInt8.ofNat (48 + 1)])).symm
end Wide
end Go.Proofs.YtpdleggpmhlagaaDoor
/- append where there is no room: to whatever can be read, into what is new. -/
set_option linter.unusedSimpArgs false
set_option linter.unusedVariables false
set_option linter.unusedSectionVars false
set_option maxRecDepth 20000
namespace Go.J
open Go
section
variable {P : Program} {n : Nat} {w0 : World} {F : Fr} {m : Mem} {Rs : List Res} {Q : Exit → Act → World → Prop} {α : Type} [Inhabited α] {f : α → List Value} {sz : Nat}
theorem At.appendF {ops : Array Oper} {rest : List Oper} {d : Nat} {x y : Operand} {t tx e2 : TypeId} {ty : TypeId} {pos : String} {aft : Array Edge} {E : TypeId} {p p2 : Option Addr} {c ln ln2 c2 : Nat} {l l2 : List α}
    (hx : ev F x = some (.slice p ln c)) (hy : ev F y = some (.slice p2 ln2 c2)) (h1 : Rdb (HW w0 m Rs) f sz p c l) (hln : ln = l.length) (h2 : Rdb (HW w0 m Rs) f sz p2 c2 l2) (hl2 : ln2 = l2.length)
    (ht : P.underlying t = some (.slice E)) (ht2 : P.underlying tx = some (.slice e2)) (he : elemB P E sz = true) (hc : c < l.length + l2.length)
    (hsm : l.length + l2.length ≤ 34359738368) (hd : Nat.blt d n = true)
    (h : ∀ p' c', At n w0 ((d, .slice p' (l ++ l2).length c') :: F) m (.own f sz E p' c' (l ++ l2) :: Rs) (wpList P ops Q rest)) :
    At n w0 F m Rs (wpList P ops Q (⟨some d, .call ⟨.builtin .append, #[x, y], #[t, tx]⟩, ty, pos, aft, none⟩ :: rest)) := fun a w ha hw =>
  wpList_plain rfl fun K hK => by
    subst hln hl2
    have hf := h1.fl
    obtain ⟨i, z, hi, hz, hsz, hbt, hzs⟩ := elemB_spec he
    have hby : (l.length + l2.length) * i.bytes ≤ 140737488355328 := Nat.le_trans (Nat.mul_le_mul hsm hbt) (by omega)
    have h63 : l.length + l2.length ≤ maxLen := by simp only [maxLen]; omega
    have hsmall : ((l.length + l2.length : Nat) : Int) ≤ 9223372036854775807 := by omega
    have s1 := rdb_src (P := P) h1 hw ht
    have s2 := rdb_src (P := P) h2 hw ht2
    have hl1 := flatMap_length hf.len l
    have hl2 := flatMap_length hf.len l2
    have hll : (l ++ l2).length = l.length + l2.length := by simp
    have hold : (Builtin.firstCells i.size l.length (.slice p l.length c)).run P w.drew = .ok (l.flatMap f).toArray w.drew := by rw [hsz]; exact s1.cellsD
    have hr := run_append_grow_src (P := P) (ty := ty) (w := w) t tx E i z ht hi hz p l.length c (l.flatMap f) hold (.slice p2 l2.length c2) l2.length (l2.flatMap f) (by rw [hsz]; exact s2) hc hsmall (growslice_fits hc hby)
    have hge := grownCap_ge w (l.length + l2.length) c E
    have hcm : grownCap w (l.length + l2.length) c E ≤ maxLen := grownCap_le_maxLen w (l.length + l2.length) c E h63
    rw [← hll] at hr hge hcm
    unfold Oper.wp
    have hrun : ∀ v w', (Builtin.append_ #[t, tx] ty #[.slice p l.length c, .slice p2 l2.length c2]).run P w = .ok v w' → (execOp a.eval ⟨some d, .call ⟨.builtin .append, #[x, y], #[t, tx]⟩, ty, pos, aft, none⟩).run P w = .ok (.value v) w' := fun v w' hr => by
      rw [BigFrame.execOp_builtin]
      simp [BigFrame.builtin_append, ha.ev hx, ha.ev hy, hr]
    rw [hrun _ _ hr]
    refine hK _ _ (h _ _ _ _ (ha.put hd) (hw.add rfl rfl rfl (by simp) (fun k hk => heap_alloc_old w.drew _ hk) ⟨fun k => k = w.heap.size, .inr ⟨w.heap.size, 0, _, rfl, heap_alloc_new w.drew _, hge, hcm, ?_, fun j hj => ?_, fun _ => Iff.rfl⟩, fun k hk => by omega⟩))
    · simp only [Array.size_append, List.size_toArray, size_zeroCells, hzs, List.length_append, hl1, hl2, ← Nat.add_mul]
      rw [List.length_append] at hge
      rw [Nat.add_sub_cancel' hge, Nat.zero_add]
      exact Nat.le_refl _
    · rw [Nat.zero_add, List.flatMap_append, Array.getElem?_append_left (by
        rw [hll, Nat.add_mul] at hj
        simp only [List.size_toArray, List.length_append, hl1, hl2]; omega)]
      simp
theorem addr_add0 (a : Addr) : a.add 0 = a := by cases a; simp [Addr.add]
theorem subp0 (p : Option Addr) (c sz : Nat) : subp p c 0 sz = p := by
  unfold subp
  split
  · rfl
  · rw [Nat.zero_mul]; cases p <;> simp [addr_add0]
theorem Rdb.cut {C : World → Prop} {p : Option Addr} {c : Nat} {l : List α} (h : Rdb C f sz p c l) (hi : Nat) (h1 : hi ≤ l.length) : Rdb C f sz p hi (l.take hi) := by
  have := Rdb.subh h hi h1
  rw [subp0] at this
  exact ⟨this.fl, this.some, fun w hw => by rw [List.length_take]; omega, this.cell⟩
/-- a part from the front, with no room behind it -/
theorem run_slice3 {t e : TypeId} (ht : P.underlying t = some (.slice e)) (hs : sizeB P e = some sz) (p : Option Addr) (l c hi : Nat) (h2 : hi ≤ c) (k k' : IntKind) (w : World) :
    (Instr.sliceAt t (.slice p l c) none (some (.int k (hi : Int))) (some (.int k' (hi : Int)))).run P w = .ok (.slice p hi hi) w := by
  have hr : ∀ w, (underlying t).run P w = .ok (.slice e) w := fun w => by simp only [underlying, program, bind, Sem.bind, Sem.run, ht]; rfl
  have a2 : (0 : Int) ≤ (hi : Int) ∧ (hi : Int) ≤ (c : Int) := ⟨by omega, by omega⟩
  unfold Instr.sliceAt
  simp only [Sem.run_bind, hr, Result.andThen]
  unfold Instr.slice
  simp only [Sem.run_bind, hr, Result.andThen]
  have hb : (Instr.sliceBounds true l c none (some (.int k (hi : Int))) (some (.int k' (hi : Int)))).run P w = .ok (0, hi, hi) w := by
    unfold Instr.sliceBounds Instr.sliceBound
    simp [asIntOf, pure, Sem.run, bind, Sem.bind, h2]
  rw [hb]
  simp only [run_sizeOf hs, pure, Sem.run]
  have := subp0 p hi sz
  unfold subp at this
  simp only [Nat.sub_zero, this]
theorem pr_slice3 {C : World → Prop} {x y z : Operand} {t e : TypeId} {p : Option Addr} {l c hi : Nat} {k k' : IntKind} (hx : ev F x = some (.slice p l c)) (hz : ev F z = some (.int k (hi : Int))) (hy : ev F y = some (.int k' (hi : Int))) (ht : P.underlying t = some (.slice e)) (hs : sizeB P e = some sz) (hle : LeSz C sz c l) (h2 : hi ≤ l) :
    PR P n F C (.slice t x none (some z) (some y)) (.slice p hi hi) := fun _ _ _ _ _ a w ha hC => by
  simp only [execOp, ha.ev hx, Sem.run_bind, Option.map_none, Option.map_some, ha.ev hz, ha.ev hy]
  rw [run_slice3 ht hs p l c hi (Nat.le_trans h2 (hle w hC))]
  rfl
end
end Go.J
/- What one owns may be made to stay: for a call's argument, and for what comes back. -/
set_option linter.unusedSimpArgs false
set_option linter.unusedVariables false
set_option linter.unusedSectionVars false
set_option maxRecDepth 20000
namespace Go.J
open Go
section
variable {P : Program} {m : Mem} {Rs : List Res} {α : Type} [Inhabited α] {f : α → List Value} {sz : Nat}
theorem HW.freeze {w0 w : World} {E : TypeId} {p : Option Addr} {c : Nat} {l : List α} (hf : Fl f sz) (hw : HW w0 m (.own f sz E p c l :: Rs) w) : ∃ m', m.le m' ∧ Sl m' f sz p c l ∧ HW w0 m' Rs w := by
  have k := At.own_freeze (n := 0) (w0 := w0) (F := []) (m := m) (Rs := .own f sz E p c l :: Rs) (K := fun _ w => ∃ m', m.le m' ∧ Sl m' f sz p c l ∧ HW w0 m' Rs w) hf pk0
    (fun m' hm' sl => by
      unfold At
      intro a w1 _ hw1
      exact ⟨m', hm', sl, hw1⟩)
  unfold At at k
  exact k ⟨#[], []⟩ w ⟨rfl, rfl, fun _ _ h => by cases h⟩ hw
theorem Ct.freezeG {g : FuncId} {args : Array Value} {E : TypeId} {p : Option Addr} {c : Nat} {l : List α} {R : Value → Mem → List Res → Prop} (hf : Fl f sz) (h : ∀ m', m.le m' → Sl m' f sz p c l → Ct P g args m' Rs R) :
    Ct P g args m (.own f sz E p c l :: Rs) R := by
  unfold Ct at h ⊢
  intro w0 Rest w hw
  obtain ⟨m', hm', sl, hw'⟩ := HW.freeze hf hw
  exact (h m' hm' sl w0 Rest w hw').mono fun _ _ ⟨v, m2, B, h1, h2, h3, h4⟩ => ⟨v, m2, B, h1, Mem.le_trans hm' h2, h3, h4⟩
theorem Ct.slice {g : FuncId} {args : Array Value} {A B0 : List Res} {E : TypeId} {l : List α} {R : Value → Option Addr → Nat → Prop} (hf : Fl f sz) (h : Ct P g args m A (fun v m' B => ∃ p c, R v p c ∧ B = .own f sz E p c l :: B0)) :
    Ct P g args m A (fun v m' B => B = B0 ∧ ∃ p c, R v p c ∧ Sl m' f sz p c l) := by
  unfold Ct at h ⊢
  intro w0 Rest w hw
  refine (h w0 Rest w hw).mono fun _ _ ⟨v, m2, B, h1, h2, ⟨p, c, h3, hB⟩, h4⟩ => ?_
  subst hB
  obtain ⟨m3, hm3, sl, hw3⟩ := HW.freeze hf h4
  exact ⟨v, m3, B0, h1, Mem.le_trans h2 hm3, ⟨rfl, p, c, h3, sl⟩, hw3⟩
/-- a slice's literal, that stays -/
theorem At.litF {n : Nat} {w0 : World} {F : Fr} {Q : Exit → Act → World → Prop} {ops : Array Oper} {rest : List Oper} {d : Nat} {t E : TypeId} {len : Nat} {xs : List (Nat × Operand)} {ps : List (Nat × Value)} {ty : TypeId} {pos : String} {aft : Array Edge}
    (f : α → List Value) (l : List α) (hf : Fl f sz) (ht : P.underlying t = some (.slice E)) (he : elemB P E sz = true) (hx : evps F xs = some ps) (hsm : Nat.ble (len * sz) 16777216 = true) (hl : l.length = len)
    (hb : litL P E sz len ps = flat (l.flatMap f)) (hd : Nat.blt d n = true)
    (h : ∀ b m', m.le m' → Sl m' f sz (some ⟨b, 0, none⟩) len l → At n w0 ((d, .slice (some ⟨b, 0, none⟩) len len) :: F) m' Rs (wpList P ops Q rest)) :
    At n w0 F m Rs (wpList P ops Q (⟨some d, .buildSlice t len xs.toArray, ty, pos, aft, none⟩ :: rest)) :=
  At.lit f l hf ht he hx hsm hl hb hd (fun b => At.own_freeze hf pk0 fun m' hm' sl => h b m' hm' sl)
end
end Go.J
/- A number's text, as both say it. -/
set_option linter.unusedSimpArgs false
set_option linter.unusedVariables false
set_option linter.unusedSectionVars false
set_option maxRecDepth 20000
set_option maxHeartbeats 4000000
namespace Go.Proofs.YtpdleggpmhlagaaDoor
open Go Go.J
attribute [local irreducible] At AtQ AtM AtM1 PR Ct Pu Rd Res.blk Res.own Res.ex RVs RV
namespace Wide
/-- the library's table lies in what stays -/
def Tab (m : Mem) : Prop := ∀ w : World, (∀ k o, m k = some o → w.heap[k]? = some o) → Lib.TabIs Tryd.prog w (Tryd.prog.globals[4]!).name .u64 Lib.pow10Tab
theorem Tab.mono {m m' : Mem} (h : Tab m) (hm : m.le m') : Tab m' := fun w hw => h w fun k o hk => hw k o (hm k o hk)
theorem flat_byt (l : List UInt8) : (l.map bI).flatMap fb = Lib.byteCells l := by
  unfold Lib.byteCells
  rw [List.flatMap_map]
  induction l with
  | nil => rfl
  | cons a l ih => simp only [List.flatMap_cons, List.map_cons, ih]; rfl
theorem append_i {m : Mem} (ht : Tab m) (u : Nat) (hu : u < 18446744073709551616) :
    Ct Tryd.prog 54 #[.slice none 0 0, .int .u64 (u : Int), .int .i64 10] m [] (fun v m' B => B = [] ∧ ∃ p c, v = .slice p ((dd u).map bI).length c ∧ Sl m' fb 1 p c ((dd u).map bI)) := by
  have h : Ct Tryd.prog 54 #[.slice none 0 0, .int .u64 (u : Int), .int .i64 10] m [] (fun v m' B => ∃ p c, v = .slice p ((dd u).map bI).length c ∧ m = m' ∧ B = [.own fb 1 5 p c ((dd u).map bI)]) :=
    Ct.of_row inferInstance fun w hw => (Any.internal_strconv_AppendUint_10 laysmn288 w.heap.size 0 u hu (.slice none 0 0) [] w (World.ownsRow_nil _ _ _ _) (Nat.le_refl _) (by decide) (ht w hw)).mono fun e w' ⟨v', he, hown, hb, _⟩ => ⟨v', he, by
      rw [Nat.zero_add, List.nil_append] at hown
      rw [flat_byt, List.length_map]
      exact hown, hb⟩
  exact Ct.slice inferInstance (h.mono fun v m' B _ ⟨p, c, h1, _, h3⟩ => ⟨p, c, h1, h3⟩)
theorem append_u {m : Mem} (ht : Tab m) (u : Nat) (hu : u < 18446744073709551616) :
    Ct Tryd.prog 49 #[.slice none 0 0, .int .u64 (u : Int), .int .i64 10] m [] (fun v m' B => B = [] ∧ ∃ p c, v = .slice p ((dd u).map bI).length c ∧ Sl m' fb 1 p c ((dd u).map bI)) := by
  refine Ct.enterV (by rfl) Tryd.func49 rfl Tryd.ntmps49 rfl (fun w0 Rest => ?_)
  (repeat' (first | refine zss ?_ | ((first | (with_reducible first | apply At.val | apply AtQ.val)); (exact zprA); exact rfl) | refine zsM ?_ | ((with_reducible first | apply At.c1 | apply At.c0); exact rfl; exact rfl; exact append_i ht u hu; exact ztk; kernel_rfl; rintro v' m' B' hm' ⟨rfl, p2, c2, rfl, sl1⟩; (try replace sl1 := sl1.mono hm'); (try (have hq0 : hm' = Mem.le_refl _ := rfl; clear hq0 hm'))) | (refine zsp ?_ ?_ <;> (intro hc; (try simp only [zhcs, reduceCtorEq] at hc); (try (exfalso; first | contradiction | omega | exact absurd rfl hc | exact absurd (by decide) hc))))))
  all_goals ((with_reducible apply At.retB1 (B := [])); exact rfl; exact rfl; exact zml; exact zkp; exact ⟨rfl, p2, c2, rfl, sl1⟩)
theorem text_ (x : Nat) : x < 340282366920938463463374607431768211456 → ∀ {m : Mem}, Tab m → Rd Tryd.prog 33 #[wv x] m [] (.string (str (dd x))) := by
  induction x using Nat.strongRecOn with
  | _ x ih =>
    intro hx m ht
    have hdl : ∀ u, u < 340282366920938463463374607431768211456 → (dd u).length ≤ 39 := fun u hu => dd_len_le 39 u (by decide) (Nat.lt_trans hu (by decide))
    unfold Rd
    by_cases h : x < 18446744073709551616
    · have k := append_u ht x h
      have hw : wv x = .agg #[.int .u64 0, .int .u64 (x : Int)] := (wd_small h).symm
      rw [hw]
      refine Ct.forget (R := fun v m' B => v = .string (str (dd x)) ∧ B = []) ?_ (fun v m' B hm hr => ⟨hr.1, rfl, hr.2⟩)
      refine Ct.enterV (by rfl) Tryd.func33 rfl Tryd.ntmps33 rfl (fun w0 Rest => ?_)
      (repeat' (first | refine zss ?_ | ((first | (with_reducible first | apply At.val | apply AtQ.val)); (exact zprA); exact rfl) | refine zsM ?_ | ((with_reducible first | apply At.c1 | apply At.c0); exact rfl; exact rfl; exact k; exact ztk; kernel_rfl; rintro v' m' B' hm' ⟨rfl, p2, c2, rfl, sl1⟩; (try replace sl1 := sl1.mono hm'); (try (have hq0 : hm' = Mem.le_refl _ := rfl; clear hq0 hm'))) | ((with_reducible apply At.box (d := 1)); exact rfl; exact rfl; exact rfl; intro b1) | ((with_reducible apply At.alloc (d := 3)); exact rfl; exact rfl; intro b3) | (refine zsp ?_ ?_ <;> (intro hc; (try simp only [zhcs, reduceCtorEq] at hc); (try (exfalso; first | omega | contradiction | omega | exact absurd rfl hc | exact absurd (by decide) hc))))))
      all_goals ((with_reducible apply At.retB1 (B := [])); exact rfl; exact rfl; exact zml; exact zkp; exact ⟨by rw [u8_map], rfl⟩)
    · obtain ⟨e, hl⟩ := dd_text x (by omega)
      have kd : Pu Tryd.prog 50 #[wv x, .int .u64 1000000000000000000] (.tuple #[wv (x / 1000000000000000000), .int .u64 ((x % 1000000000000000000 : Nat) : Int), .int .i64 0]) := div x 1000000000000000000 hx (by decide) (by decide)
      have hf : x / 1000000000000000000 < x := by omega
      have hfb : x / 1000000000000000000 < 340282366920938463463374607431768211456 := by omega
      have i := fun {m' : Mem} (hm : m.le m') => ih _ hf hfb (ht.mono hm)
      have hfl := hdl _ hfb
      obtain ⟨r, hr⟩ : ∃ r, r = x % 1000000000000000000 := ⟨_, rfl⟩
      have hrl : r < 1000000000000000000 := by omega
      have ha : IntKind.wrap .u64 (1000000000000000000 + (r : Int)) = ((1000000000000000000 + r : Nat) : Int) := by rw [IntKind.wrap_u64]; omega
      rw [← hr] at e hl kd
      have k := fun {m' : Mem} (hm : m.le m') => append_u (ht.mono hm) (1000000000000000000 + r) (by omega)
      rw [hl, show 19 - 18 = 1 from rfl] at e
      have hL : ((dd (1000000000000000000 + r)).map bI).length = 19 := by rw [List.length_map, hl]
      have hu : (((dd (1000000000000000000 + r)).map bI).drop 1).map u8 = (dd (1000000000000000000 + r)).drop 1 := by rw [← List.map_drop, u8_map]
      rw [← hu] at e
      rw [e]
      generalize (dd (1000000000000000000 + r)).map bI = L at k hL e
      generalize x / 1000000000000000000 = q at *
      have hs : IntKind.wrap .i64 (((L.length : Nat) : Int) - 18) = ((1 : Nat) : Int) := by rw [hL]; rfl
      have hadd : (dd q).length + ((L.drop 1).map u8).length ≤ 9223372036854775807 := by rw [List.length_map, List.length_drop]; omega
      refine Ct.forget (R := fun v m' B => v = .string (str (dd q ++ (L.drop 1).map u8)) ∧ B = []) ?_ (fun v m' B hm hr => ⟨hr.1, rfl, hr.2⟩)
      clear e hr hf hfb hrl hu hdl ih
      refine Ct.enterV (by rfl) Tryd.func33 rfl Tryd.ntmps33 rfl (fun w0 Rest => ?_)
      (repeat' (first | refine zss ?_ | ((first | (with_reducible first | apply At.val | apply AtQ.val)); (first | exact pr_add (by rfl) (by rfl) ha | exact pr_sub (by rfl) (by rfl) hs | exact pr_stradd (by rfl) (by rfl) hadd | exact pr_bytes_str (l := L.drop 1) (by rfl) (by rfl) (by rfl) (by rfl) (Rdb.subl (Sl.rdb sl1) 1 (by omega)) (by rw [List.length_drop]) | exact zprA); exact rfl) | refine zsM ?_ | ((with_reducible first | apply AtM1.callp | apply AtQ.callp | apply At.callp); kernel_rfl; exact rfl; exact rfl; exact kd) | ((with_reducible first | apply At.c1 | apply At.c0); exact rfl; exact rfl; exact k zml; exact ztk; kernel_rfl; rintro v' m' B' hm' ⟨rfl, p2, c2, rfl, sl1⟩; (try replace sl1 := sl1.mono hm'); (try (have hq0 : hm' = Mem.le_refl _ := rfl; clear hq0 hm'))) | ((with_reducible first | apply AtM1.cr | apply AtQ.cr | apply At.cr); exact rfl; exact rfl; exact fun _ hmm => i zml; exact ztk; kernel_rfl) | fail | ((with_reducible apply At.box (d := 1)); exact rfl; exact rfl; exact rfl; intro b1) | ((with_reducible apply At.alloc (d := 3)); exact rfl; exact rfl; intro b3) | (refine zsp ?_ ?_ <;> (intro hc; (try simp only [zhcs, reduceCtorEq] at hc); (try (exfalso; first | omega | contradiction | omega | exact absurd rfl hc | exact absurd (by decide) hc))))))
      all_goals ((with_reducible apply At.retB1 (B := [])); exact rfl; exact rfl; exact zml; exact zkp; exact ⟨rfl, rfl⟩)
end Wide
end Go.Proofs.YtpdleggpmhlagaaDoor
/- Ratios: Text. -/
set_option linter.unusedSimpArgs false
set_option linter.unusedVariables false
set_option linter.unusedSectionVars false
set_option maxRecDepth 20000
set_option maxHeartbeats 4000000
namespace Go.Proofs.YtpdleggpmhlagaaDoor
open Go Go.J
attribute [local irreducible] At AtQ AtM AtM1 PR Ct Pu Rd Res.blk Res.own Res.ex RVs RV
namespace Ra
open Wide
theorem text {m : Mem} (hT : Tab m) (n d : Nat) (hn : n < 340282366920938463463374607431768211456) (hd : d < 340282366920938463463374607431768211456) : Rd Tryd.prog 18 #[rv n d] m [] (.string (str (dd n ++ [47] ++ dd d))) := by
  unfold Rd
  have k1 := fun (m' : Mem) (hm' : m.le m') => text_ n hn (hT.mono hm')
  have k2 := fun (m' : Mem) (hm' : m.le m') => text_ d hd (hT.mono hm')
  have n1 := dd_len_le 39 n (by decide) (Nat.lt_trans hn (by decide))
  have n2 := dd_len_le 39 d (by decide) (Nat.lt_trans hd (by decide))
  generalize dd n = A at k1 n1 ⊢
  generalize dd d = B at k2 n2 ⊢
  have a1 : A.length + ([47] : List UInt8).length ≤ 9223372036854775807 := by simp; omega
  have a2 : (A ++ [47]).length + B.length ≤ 9223372036854775807 := by simp; omega
  refine Ct.enterV (by rfl) Tryd.func18 rfl Tryd.ntmps18 rfl (fun w0 Rest => ?_)
  (repeat' (first | refine zss ?_ | ((first | (with_reducible first | apply At.val | apply AtQ.val)); (first | exact pr_stradd (by rfl) (by rfl) a1 | exact pr_stradd (by rfl) (by rfl) a2 | exact zprA); exact rfl) | refine zs0 ?_ | ((with_reducible first | apply AtM1.cr | apply AtQ.cr | apply At.cr); exact rfl; exact rfl; exact fun _ hmm => k1 _ hmm; exact ztk; kernel_rfl) | ((with_reducible first | apply AtM1.cr | apply AtQ.cr | apply At.cr); exact rfl; exact rfl; exact fun _ hmm => k2 _ hmm; exact ztk; kernel_rfl) | fail | ((with_reducible apply At.box (d := 1)); exact rfl; exact rfl; exact rfl; intro b1) | (refine zsp ?_ ?_ <;> (intro hc; (try simp only [zhcs, reduceCtorEq] at hc); (try (exfalso; first | contradiction | omega | exact absurd rfl hc | exact absurd (by decide) hc))))))
  all_goals ((with_reducible apply At.retB1 (B := [])); exact rfl; exact rfl; exact zml; exact zkp; exact ⟨rfl, rfl, rfl⟩)
end Ra
end Go.Proofs.YtpdleggpmhlagaaDoor
/- Ratios, the document's: Gcd and Floor out of its Whole. -/
set_option linter.unusedSimpArgs false
set_option linter.unusedVariables false
set_option linter.unusedSectionVars false
set_option maxRecDepth 20000
set_option maxHeartbeats 4000000
namespace Go.Proofs.YtpdleggpmhlagaaDoor
open Go Go.J
attribute [local irreducible] At AtQ AtM AtM1 PR Ct Pu Rd Res.blk Res.own Res.ex RVs RV
namespace Ra
open Wide
/-- what the document's Whole is to tell -/
def WholeR : Prop := ∀ a d : Nat, a < 340282366920938463463374607431768211456 → d < 340282366920938463463374607431768211456 → Pu Tryd.prog 26 #[wv a, wv d] (.tuple #[wv (a / d), wv (a % d)])
theorem gcd_r (hW : WholeR) (x y : Nat) (hx : x < 340282366920938463463374607431768211456) (hy : y < 340282366920938463463374607431768211456) : Pu Tryd.prog 15 #[wv x, wv y] (wv (Nat.gcd x y)) := Pu.intro fun m => by
  refine Ct.enterV (by rfl) Tryd.func15 rfl Tryd.ntmps15 rfl (fun w0 Rest => ?_)
  (repeat' (first | refine zss ?_ | refine zs0 ?_ | ((with_reducible apply At.box (d := 2)); exact rfl; exact rfl; exact rfl; intro b2) | ((with_reducible apply At.box (d := 3)); exact rfl; exact rfl; exact rfl; intro b3) | ((with_reducible apply At.alloc (d := 4)); exact rfl; exact rfl; intro b4) | ((with_reducible apply At.alloc (d := 5)); exact rfl; exact rfl; intro b5) | ((with_reducible apply At.alloc (d := 6)); exact rfl; exact rfl; intro b6) | (refine zsp ?_ ?_ <;> (intro hc; (try simp only [zhcs, reduceCtorEq] at hc); (try (exfalso; first | contradiction | omega | exact absurd rfl hc | exact absurd (by decide) hc))))))
  (refine At.loopk (σ := GS) [2, 3, 4] (fun s F0 => F0) (fun s => m) (fun s => .blk b2 24 (wd s.a) :: .blk b3 24 (wd s.b) :: .blk b4 24 (wd 0) :: Rest) (fun s => s.a < 340282366920938463463374607431768211456 ∧ s.b < 340282366920938463463374607431768211456 ∧ Nat.gcd s.a s.b = Nat.gcd x y) (fun s => s.b) ⟨x, y⟩ (by rfl) ?_ zsubs zml zente ?_)
  · exact ⟨hx, hy, rfl⟩
  rintro ⟨a, b⟩ ⟨g1, g2, g3⟩
  dsimp only at g1 g2 g3 ⊢
  by_cases hb : b = 0
  · subst hb
    rw [Nat.gcd_zero_right] at g3
    subst g3
    (repeat' (first | refine zss ?_ | ((first | (with_reducible first | apply At.val | apply AtQ.val)); (exact pr_wne (a := 0) (b := 0) (by rfl) (by rfl)); exact rfl) | refine zs0 ?_ | ((with_reducible apply At.box (d := 2)); exact rfl; exact rfl; exact rfl; intro b2) | ((with_reducible apply At.box (d := 3)); exact rfl; exact rfl; exact rfl; intro b3) | ((with_reducible apply At.alloc (d := 4)); exact rfl; exact rfl; intro b4) | ((with_reducible apply At.alloc (d := 5)); exact rfl; exact rfl; intro b5) | ((with_reducible apply At.alloc (d := 6)); exact rfl; exact rfl; intro b6) | (refine zsp ?_ ?_ <;> (intro hc; (try simp only [zhcs, reduceCtorEq] at hc); (try (exfalso; first | contradiction | omega | exact absurd rfl hc | exact absurd (by decide) hc))))))
    all_goals ((with_reducible apply At.retV (B := [])); exact rfl; (repeat' (first | exact RVs.nil | (with_reducible apply RVs.cons) | exact rv_tmp (by rfl) | exact rv_cellN (by rfl) (by repeat constructor) (by rfl) (by rfl) (by rfl) | exact rv_cell1 (by rfl) (by repeat constructor) (by rfl) (by rfl))); exact zml; exact zkp; exact ⟨rfl, rfl, rfl⟩)
  · have k1 := hW a b g1 g2
    have e : (!decide (b = 0)) = true := by rw [decide_eq_false hb]; rfl
    have pw : ∀ {n' : Nat} {F : Fr} {C : World → Prop} {x y : Operand} {u : TypeId}, ev F x = some (wv b) → ev F y = some (wv 0) → PR Tryd.prog n' F C (.binOp .neq 24 x y u) (.bool true) := fun hx hy => by rw [← e]; exact pr_wne hx hy
    have hm := Nat.mod_lt a (Nat.pos_of_ne_zero hb)
    have hg : Nat.gcd b (a % b) = Nat.gcd a b := by rw [Nat.gcd_comm b, ← Nat.gcd_rec, Nat.gcd_comm]
    generalize a % b = c at k1 hm hg
    generalize a / b = q at k1
    (repeat' (first | ((with_reducible apply At.mixedB (id := 3) 2 4 (.q 0 (.q 1 (.l 2 (.x 3 .done))))); exact rfl; exact (by repeat constructor); exact rfl; kernel_rfl; kernel_rfl; kernel_rfl) | refine zsx ?_ | refine zss ?_ | ((with_reducible apply AtM.bo); exact rfl; exact rfl; exact rfl) | ((first | (with_reducible first | apply At.val | apply AtQ.val) | ((with_reducible first | apply AtM1.valz | apply AtM1.val); exact rfl) | ((with_reducible apply AtM1.val); exact rfl)); (exact pw (by rfl) (by rfl)); exact rfl) | refine zs0 ?_ | refine zx0 ?_ | ((with_reducible first | apply AtM1.callp | apply AtQ.callp | apply At.callp); kernel_rfl; exact rfl; exact rfl; exact k1) | ((with_reducible apply At.box (d := 2)); exact rfl; exact rfl; exact rfl; intro b2) | ((with_reducible apply At.box (d := 3)); exact rfl; exact rfl; exact rfl; intro b3) | ((with_reducible apply At.alloc (d := 4)); exact rfl; exact rfl; intro b4) | ((with_reducible apply At.alloc (d := 5)); exact rfl; exact rfl; intro b5) | ((with_reducible apply At.alloc (d := 6)); exact rfl; exact rfl; intro b6) | (refine zsp ?_ ?_ <;> (intro hc; (try simp only [zhcs, reduceCtorEq] at hc); (try (exfalso; first | contradiction | omega | exact absurd rfl hc | exact absurd (by decide) hc))))))
    all_goals ((with_reducible refine At.reachk ((⟨b, c⟩ : GS)) ?_ ?_ ?_ ?_); exact zsubs; exact zml; exact zente; exact ⟨⟨g2, Nat.lt_trans hm g2, hg.trans g3⟩, hm⟩)
theorem floor_r (hW : WholeR) (n d : Nat) (hn : n < 340282366920938463463374607431768211456) (hd : d < 340282366920938463463374607431768211456) : Pu Tryd.prog 12 #[rv n d] (.tuple #[wv (flo n d).1, .int .i64 (flo n d).2]) := Pu.intro fun m => by
  unfold flo
  by_cases h : d = 0
  · rw [if_pos h]
    subst h
    refine Ct.enterV (by rfl) Tryd.func12 rfl Tryd.ntmps12 rfl (fun w0 Rest => ?_)
    (repeat' (first | refine zss ?_ | ((first | (with_reducible first | apply At.val | apply AtQ.val)); (exact pr_weq (a := 0) (b := 0) (by rfl) (by rfl)); exact rfl) | refine zs0 ?_ | ((with_reducible apply At.box (d := 1)); exact rfl; exact rfl; exact rfl; intro b1) | ((with_reducible apply At.alloc (d := 2)); exact rfl; exact rfl; intro b2) | ((with_reducible apply At.alloc (d := 4)); exact rfl; exact rfl; intro b4) | ((with_reducible apply At.alloc (d := 5)); exact rfl; exact rfl; intro b5) | (refine zsp ?_ ?_ <;> (intro hc; (try simp only [zhcs, reduceCtorEq] at hc); (try (exfalso; first | contradiction | omega | exact absurd rfl hc | exact absurd (by decide) hc))))))
    all_goals ((with_reducible apply At.retV (B := [])); exact rfl; (repeat' (first | exact RVs.nil | (with_reducible apply RVs.cons) | exact rv_tmp (by rfl) | exact rv_cellN (by rfl) (by repeat constructor) (by rfl) (by rfl) (by rfl) | exact rv_cell1 (by rfl) (by repeat constructor) (by rfl) (by rfl))); exact zml; exact zkp; exact ⟨rfl, rfl, rfl⟩)
  · rw [if_neg h]
    have k1 := hW n d hn hd
    have e : decide (d = 0) = false := decide_eq_false h
    have pw : ∀ {n' : Nat} {F : Fr} {C : World → Prop} {x y : Operand} {u : TypeId}, ev F x = some (wv d) → ev F y = some (wv 0) → PR Tryd.prog n' F C (.binOp .eql 24 x y u) (.bool false) := fun hx hy => by rw [← e]; exact pr_weq hx hy
    generalize n % d = c at k1
    generalize n / d = q at k1 ⊢
    refine Ct.enterV (by rfl) Tryd.func12 rfl Tryd.ntmps12 rfl (fun w0 Rest => ?_)
    (repeat' (first | refine zss ?_ | ((first | (with_reducible first | apply At.val | apply AtQ.val)); (exact pw (by rfl) (by rfl)); exact rfl) | refine zs0 ?_ | ((with_reducible first | apply AtM1.callp | apply AtQ.callp | apply At.callp); kernel_rfl; exact rfl; exact rfl; exact k1) | ((with_reducible apply At.box (d := 1)); exact rfl; exact rfl; exact rfl; intro b1) | ((with_reducible apply At.alloc (d := 2)); exact rfl; exact rfl; intro b2) | ((with_reducible apply At.alloc (d := 4)); exact rfl; exact rfl; intro b4) | ((with_reducible apply At.alloc (d := 5)); exact rfl; exact rfl; intro b5) | (refine zsp ?_ ?_ <;> (intro hc; (try simp only [zhcs, reduceCtorEq] at hc); (try (exfalso; first | contradiction | omega | exact absurd rfl hc | exact absurd (by decide) hc))))))
    all_goals ((with_reducible apply At.retV (B := [])); exact rfl; (repeat' (first | exact RVs.nil | (with_reducible apply RVs.cons) | exact rv_tmp (by rfl) | exact rv_cellN (by rfl) (by repeat constructor) (by rfl) (by rfl) (by rfl) | exact rv_cell1 (by rfl) (by repeat constructor) (by rfl) (by rfl))); exact zml; exact zkp; exact ⟨rfl, rfl, rfl⟩)
end Ra
end Go.Proofs.YtpdleggpmhlagaaDoor
/- Ratios, the document's: Reduce and Rate out of its Whole. -/
set_option linter.unusedSimpArgs false
set_option linter.unusedVariables false
set_option linter.unusedSectionVars false
set_option maxRecDepth 20000
set_option maxHeartbeats 4000000
namespace Go.Proofs.YtpdleggpmhlagaaDoor
open Go Go.J
attribute [local irreducible] At AtQ AtM AtM1 PR Ct Pu Rd Res.blk Res.own Res.ex RVs RV
namespace Ra
open Wide
theorem reduce_r (hW : WholeR) (n d : Nat) (hn : n < 340282366920938463463374607431768211456) (hd : d < 340282366920938463463374607431768211456) : Pu Tryd.prog 8 #[wv n, wv d] (.tuple #[rv (red n d).1.1 (red n d).1.2, .int .i64 (red n d).2]) := Pu.intro fun m => by
  unfold red
  by_cases h : d = 0
  · rw [if_pos h]
    subst h
    refine Ct.enterV (by rfl) Tryd.func8 rfl Tryd.ntmps8 rfl (fun w0 Rest => ?_)
    (repeat' (first | refine zss ?_ | ((first | (with_reducible first | apply At.val | apply AtQ.val)); (first | exact pr_weq (a := 0) (b := 0) (by rfl) (by rfl) | exact zprA); exact rfl) | refine zs0 ?_ | ((with_reducible apply At.box (d := 2)); exact rfl; exact rfl; exact rfl; intro b2) | ((with_reducible apply At.box (d := 3)); exact rfl; exact rfl; exact rfl; intro b3) | ((with_reducible apply At.alloc (d := 4)); exact rfl; exact rfl; intro b4) | ((with_reducible apply At.alloc (d := 6)); exact rfl; exact rfl; intro b6) | ((with_reducible apply At.alloc (d := 7)); exact rfl; exact rfl; intro b7) | ((with_reducible apply At.alloc (d := 8)); exact rfl; exact rfl; intro b8) | ((with_reducible apply At.alloc (d := 9)); exact rfl; exact rfl; intro b9) | ((with_reducible apply At.alloc (d := 10)); exact rfl; exact rfl; intro b10) | (refine zsp ?_ ?_ <;> (intro hc; (try simp only [zhcs, reduceCtorEq] at hc); (try (exfalso; first | contradiction | omega | exact absurd rfl hc | exact absurd (by decide) hc))))))
    all_goals ((with_reducible apply At.retV (B := [])); exact rfl; (repeat' (first | exact RVs.nil | (with_reducible apply RVs.cons) | exact rv_tmp (by rfl) | exact rv_cellN (by rfl) (by repeat constructor) (by rfl) (by rfl) (by rfl) | exact rv_cell1 (by rfl) (by repeat constructor) (by rfl) (by rfl) | exact rv_cellA (by rfl) (by repeat constructor) (by rfl) (by rfl) zlq)); exact zml; exact zkp; exact ⟨rfl, rfl, rfl⟩)
  · rw [if_neg h]
    have e : decide (d = 0) = false := decide_eq_false h
    have pw : ∀ {n' : Nat} {F : Fr} {C : World → Prop} {x y : Operand} {u : TypeId}, ev F x = some (wv d) → ev F y = some (wv 0) → PR Tryd.prog n' F C (.binOp .eql 24 x y u) (.bool false) := fun hx hy => by rw [← e]; exact pr_weq hx hy
    have k2 := gcd_r hW n d hn hd
    have hg : Nat.gcd n d < 340282366920938463463374607431768211456 := Nat.lt_of_le_of_lt (Nat.gcd_le_right n (Nat.pos_of_ne_zero h) : Nat.gcd n d ≤ d) hd
    generalize Nat.gcd n d = g at k2 hg ⊢
    have k3 := hW n g hn hg
    have k4 := hW d g hd hg
    generalize n % g = r1 at k3
    generalize d % g = r2 at k4
    generalize n / g = q1 at k3 ⊢
    generalize d / g = q2 at k4 ⊢
    refine Ct.enterV (by rfl) Tryd.func8 rfl Tryd.ntmps8 rfl (fun w0 Rest => ?_)
    (repeat' (first | refine zss ?_ | ((first | (with_reducible first | apply At.val | apply AtQ.val)); (first | exact pw (by rfl) (by rfl) | exact zprA); exact rfl) | refine zs0 ?_ | ((with_reducible first | apply AtM1.callp | apply AtQ.callp | apply At.callp); kernel_rfl; exact rfl; exact rfl; exact k2) | ((with_reducible first | apply AtM1.callp | apply AtQ.callp | apply At.callp); kernel_rfl; exact rfl; exact rfl; exact k3) | ((with_reducible first | apply AtM1.callp | apply AtQ.callp | apply At.callp); kernel_rfl; exact rfl; exact rfl; exact k4) | ((with_reducible apply At.box (d := 2)); exact rfl; exact rfl; exact rfl; intro b2) | ((with_reducible apply At.box (d := 3)); exact rfl; exact rfl; exact rfl; intro b3) | ((with_reducible apply At.alloc (d := 4)); exact rfl; exact rfl; intro b4) | ((with_reducible apply At.alloc (d := 6)); exact rfl; exact rfl; intro b6) | ((with_reducible apply At.alloc (d := 7)); exact rfl; exact rfl; intro b7) | ((with_reducible apply At.alloc (d := 8)); exact rfl; exact rfl; intro b8) | ((with_reducible apply At.alloc (d := 9)); exact rfl; exact rfl; intro b9) | ((with_reducible apply At.alloc (d := 10)); exact rfl; exact rfl; intro b10) | (refine zsp ?_ ?_ <;> (intro hc; (try simp only [zhcs, reduceCtorEq] at hc); (try (exfalso; first | contradiction | omega | exact absurd rfl hc | exact absurd (by decide) hc))))))
    all_goals ((with_reducible apply At.retV (B := [])); exact rfl; (repeat' (first | exact RVs.nil | (with_reducible apply RVs.cons) | exact rv_tmp (by rfl) | exact rv_cellN (by rfl) (by repeat constructor) (by rfl) (by rfl) (by rfl) | exact rv_cell1 (by rfl) (by repeat constructor) (by rfl) (by rfl) | exact rv_cellA (by rfl) (by repeat constructor) (by rfl) (by rfl) zlq)); exact zml; exact zkp; exact ⟨rfl, rfl, rfl⟩)
theorem rate_r (hW : WholeR) (x k : Nat) (hx : x < 340282366920938463463374607431768211456) (hk : k < 18446744073709551616) : Pu Tryd.prog 10 #[wv x, .int .u64 (k : Int)] (.tuple #[rv (rat x k).1.1 (rat x k).1.2, .int .i64 (rat x k).2]) := Pu.intro fun m => by
  unfold rat
  by_cases h : k = 0
  · rw [if_pos h]
    subst h
    refine Ct.enterV (by rfl) Tryd.func10 rfl Tryd.ntmps10 rfl (fun w0 Rest => ?_)
    (repeat' (first | refine zss ?_ | ((first | (with_reducible first | apply At.val | apply AtQ.val)); (exact zprA); exact rfl) | refine zs0 ?_ | ((with_reducible apply At.box (d := 2)); exact rfl; exact rfl; exact rfl; intro b2) | ((with_reducible apply At.alloc (d := 4)); exact rfl; exact rfl; intro b4) | ((with_reducible apply At.alloc (d := 6)); exact rfl; exact rfl; intro b6) | (refine zsp ?_ ?_ <;> (intro hc; (try simp only [zhcs, reduceCtorEq] at hc); (try (exfalso; first | omega | contradiction | omega | exact absurd rfl hc | exact absurd (by decide) hc))))))
    all_goals ((with_reducible apply At.retV (B := [])); exact rfl; (repeat' (first | exact RVs.nil | (with_reducible apply RVs.cons) | exact rv_tmp (by rfl) | exact rv_cellN (by rfl) (by repeat constructor) (by rfl) (by rfl) (by rfl) | exact rv_cell1 (by rfl) (by repeat constructor) (by rfl) (by rfl) | exact rv_cellA (by rfl) (by repeat constructor) (by rfl) (by rfl) zlq)); exact zml; exact zkp; exact ⟨rfl, rfl, rfl⟩)
  rw [if_neg h]
  have n1 : ¬ (k : Int) = 0 := by omega
  have k1 : Pu Tryd.prog 27 #[wv x, .int .u64 1000] (.tuple #[wv (sV (x * 1000)), .int .i64 (sE (x * 1000))]) := times_r x 1000 hx (by decide)
  rcases sE_cases (x * 1000) with e | e
  · rw [if_neg (not_not_intro e)]
    have h1 := sE_zero e
    have hb := sV_lt (x * 1000)
    rw [e, h1] at k1
    rw [h1] at hb
    generalize x * 1000 = y at k1 hb ⊢
    have k3 := reduce_r hW y k hb (Nat.lt_trans hk (by decide))
    rw [show wv k = .agg #[.int .u64 0, .int .u64 (k : Int)] from (wd_mk (by omega) (by omega)).symm] at k3
    generalize red y k = w at k3 ⊢
    refine Ct.enterV (by rfl) Tryd.func10 rfl Tryd.ntmps10 rfl (fun w0 Rest => ?_)
    (repeat' (first | refine zss ?_ | ((first | (with_reducible first | apply At.val | apply AtQ.val)); (exact zprA); exact rfl) | refine zs0 ?_ | ((with_reducible first | apply AtM1.callp | apply AtQ.callp | apply At.callp); kernel_rfl; exact rfl; exact rfl; exact k1) | ((with_reducible first | apply AtM1.callp | apply AtQ.callp | apply At.callp); kernel_rfl; exact rfl; exact rfl; exact k3) | fail | ((with_reducible apply At.box (d := 2)); exact rfl; exact rfl; exact rfl; intro b2) | ((with_reducible apply At.alloc (d := 4)); exact rfl; exact rfl; intro b4) | ((with_reducible apply At.alloc (d := 6)); exact rfl; exact rfl; intro b6) | (refine zsp ?_ ?_ <;> (intro hc; (try simp only [zhcs, reduceCtorEq] at hc); (try (exfalso; first | (first | omega | exact absurd hc n1) | contradiction | omega | exact absurd rfl hc | exact absurd (by decide) hc))))))
    all_goals ((with_reducible apply At.retV (B := [])); exact rfl; (repeat' (first | exact RVs.nil | (with_reducible apply RVs.cons) | exact rv_tmp (by rfl) | exact rv_cellN (by rfl) (by repeat constructor) (by rfl) (by rfl) (by rfl) | exact rv_cell1 (by rfl) (by repeat constructor) (by rfl) (by rfl) | exact rv_cellA (by rfl) (by repeat constructor) (by rfl) (by rfl) zlq)); exact zml; exact zkp; exact ⟨rfl, rfl, rfl⟩)
  · rw [e] at k1
    rw [if_pos (by rw [e]; decide), e]
    generalize sV (x * 1000) = y at k1
    refine Ct.enterV (by rfl) Tryd.func10 rfl Tryd.ntmps10 rfl (fun w0 Rest => ?_)
    (repeat' (first | refine zss ?_ | ((first | (with_reducible first | apply At.val | apply AtQ.val)); (exact zprA); exact rfl) | refine zs0 ?_ | ((with_reducible first | apply AtM1.callp | apply AtQ.callp | apply At.callp); kernel_rfl; exact rfl; exact rfl; exact k1) | ((with_reducible apply At.box (d := 2)); exact rfl; exact rfl; exact rfl; intro b2) | ((with_reducible apply At.alloc (d := 4)); exact rfl; exact rfl; intro b4) | ((with_reducible apply At.alloc (d := 6)); exact rfl; exact rfl; intro b6) | (refine zsp ?_ ?_ <;> (intro hc; (try simp only [zhcs, reduceCtorEq] at hc); (try (exfalso; first | (first | omega | exact absurd hc n1) | contradiction | omega | exact absurd rfl hc | exact absurd (by decide) hc))))))
    all_goals ((with_reducible apply At.retV (B := [])); exact rfl; (repeat' (first | exact RVs.nil | (with_reducible apply RVs.cons) | exact rv_tmp (by rfl) | exact rv_cellN (by rfl) (by repeat constructor) (by rfl) (by rfl) (by rfl) | exact rv_cell1 (by rfl) (by repeat constructor) (by rfl) (by rfl) | exact rv_cellA (by rfl) (by repeat constructor) (by rfl) (by rfl) zlq)); exact zml; exact zkp; exact ⟨rfl, rfl, rfl⟩)
end Ra
end Go.Proofs.YtpdleggpmhlagaaDoor
/- Ratios, the document's: Whole, a bit at a time. -/
set_option linter.unusedSimpArgs false
set_option linter.unusedVariables false
set_option linter.unusedSectionVars false
set_option maxRecDepth 20000
set_option maxHeartbeats 4000000
namespace Go.Proofs.YtpdleggpmhlagaaDoor
open Go Go.J
attribute [local irreducible] At AtQ AtM AtM1 PR Ct Pu Rd Res.blk Res.own Res.ex RVs RV
namespace Ra
open Wide
theorem whole_r : WholeR := fun a d ha hd => Pu.intro fun m => by
  by_cases h0 : d = 0
  · subst h0
    rw [Nat.div_zero, Nat.mod_zero]
    refine Ct.enterV (by rfl) Tryd.func26 rfl Tryd.ntmps26 rfl (fun w0 Rest => ?_)
    (repeat' (first | ((with_reducible apply At.mixedB (id := 2) 4 4 (.q 0 (.q 1 (.l 2 (.x 3 .done))))); exact rfl; exact (by repeat constructor); exact rfl; kernel_rfl; kernel_rfl; kernel_rfl) | ((with_reducible apply At.mixed (id := 13) 16 (.q 0 (.q 1 (.q 2 (.q 3 (.q 4 (.q 5 (.q 6 (.q 7 (.q 8 (.q 9 (.q 10 (.q 11 (.q 12 (.q 13 (.q 14 (.x 15 .done))))))))))))))))); exact rfl; kernel_rfl; kernel_rfl; kernel_rfl) | ((with_reducible apply At.mixed (id := 15) 10 (.q 0 (.q 1 (.q 2 (.q 3 (.q 4 (.q 5 (.q 6 (.q 7 (.q 8 (.x 9 .done))))))))))); exact rfl; kernel_rfl; kernel_rfl; kernel_rfl) | ((with_reducible apply At.mixed (id := 16) 16 (.q 0 (.q 1 (.q 2 (.q 3 (.q 4 (.q 5 (.q 6 (.q 7 (.q 8 (.q 9 (.q 10 (.q 11 (.q 12 (.q 13 (.q 14 (.x 15 .done))))))))))))))))); exact rfl; kernel_rfl; kernel_rfl; kernel_rfl) | ((with_reducible apply At.mixed (id := 19) 10 (.q 0 (.q 1 (.q 2 (.q 3 (.q 4 (.q 5 (.q 6 (.q 7 (.q 8 (.x 9 .done))))))))))); exact rfl; kernel_rfl; kernel_rfl; kernel_rfl) | ((with_reducible apply At.mixedB (id := 20) 4 5 (.q 0 (.q 1 (.q 2 (.l 3 (.x 4 .done)))))); exact rfl; exact (by repeat constructor); exact rfl; kernel_rfl; kernel_rfl; kernel_rfl) | refine zsx ?_ | refine zss ?_ | ((with_reducible apply AtM.bo); exact rfl; exact rfl; exact rfl) | ((first | (with_reducible first | apply At.val | apply AtQ.val) | ((with_reducible first | apply AtM1.valz | apply AtM1.val); exact rfl) | ((with_reducible apply AtM1.val); exact rfl)); (first | exact pr_weq (a := 0) (b := 0) (by rfl) (by rfl) | exact zprA); exact rfl) | refine zs0 ?_ | refine zx0 ?_ | ((with_reducible apply At.box (d := 2)); exact rfl; exact rfl; exact rfl; intro b2) | ((with_reducible apply At.box (d := 3)); exact rfl; exact rfl; exact rfl; intro b3) | ((with_reducible apply At.alloc (d := 4)); exact rfl; exact rfl; intro b4) | ((with_reducible apply At.alloc (d := 5)); exact rfl; exact rfl; intro b5) | ((with_reducible apply At.alloc (d := 6)); exact rfl; exact rfl; intro b6) | ((with_reducible apply At.alloc (d := 7)); exact rfl; exact rfl; intro b7) | ((with_reducible apply At.alloc (d := 8)); exact rfl; exact rfl; intro b8) | ((with_reducible apply At.alloc (d := 10)); exact rfl; exact rfl; intro b10) | ((with_reducible apply At.alloc (d := 12)); exact rfl; exact rfl; intro b12) | (refine zsp ?_ ?_ <;> (intro hc; (try simp only [zhcs, reduceCtorEq] at hc); (try (exfalso; first | contradiction | omega | exact absurd rfl hc | exact absurd (by decide) hc))))))
    all_goals ((with_reducible apply At.retV (B := [])); exact rfl; (repeat' (first | exact RVs.nil | (with_reducible apply RVs.cons) | exact rv_tmp (by rfl) | exact rv_cellN (by rfl) (by repeat constructor) (by rfl) (by rfl) (by rfl) | exact rv_cell1 (by rfl) (by repeat constructor) (by rfl) (by rfl) | exact rv_cellA (by rfl) (by repeat constructor) (by rfl) (by rfl) zlq)); exact zml; exact zkp; exact ⟨rfl, rfl, rfl⟩)
  have hn : 0 < d := Nat.pos_of_ne_zero h0
  have pw : ∀ {n' : Nat} {F : Fr} {C : World → Prop} {x y : Operand} {u : TypeId}, ev F x = some (wv d) → ev F y = some (wv 0) → PR Tryd.prog n' F C (.binOp .eql 24 x y u) (.bool false) := fun hx hy => by rw [← decide_eq_false h0]; exact pr_weq hx hy
  have hlx := tab_len (dg a)
  have hmx := tabm_len (dg a)
  refine Ct.enterV (by rfl) Tryd.func26 rfl Tryd.ntmps26 rfl (fun w0 Rest => ?_)
  (repeat' (first | refine zss ?_ | ((first | (with_reducible first | apply At.val | apply AtQ.val)); (first | exact pw (by rfl) (by rfl) | exact zprA); exact rfl) | refine zs0 ?_ | ((with_reducible first | apply AtM1.callp | apply AtQ.callp | apply At.callp); kernel_rfl; exact rfl; exact rfl; exact Wide.bytes a ha) | ((with_reducible apply At.storeA); exact rfl; exact rfl; exact rfl; exact all_gi _; exact (by repeat constructor); (first | exact rfl | (first | omega | (simp only [lns] <;> omega))); (first | exact rfl | (first | omega | (simp only [lns] <;> omega)))) | ((with_reducible apply At.box (d := 2)); exact rfl; exact rfl; exact rfl; intro b2) | ((with_reducible apply At.box (d := 3)); exact rfl; exact rfl; exact rfl; intro b3) | ((with_reducible apply At.alloc (d := 4)); exact rfl; exact rfl; intro b4) | ((with_reducible apply At.alloc (d := 5)); exact rfl; exact rfl; intro b5) | ((with_reducible apply At.alloc (d := 6)); exact rfl; exact rfl; intro b6) | ((with_reducible apply At.alloc (d := 7)); exact rfl; exact rfl; intro b7) | ((with_reducible apply At.alloc (d := 8)); exact rfl; exact rfl; intro b8) | ((with_reducible apply At.alloc (d := 10)); exact rfl; exact rfl; intro b10) | ((with_reducible apply At.alloc (d := 12)); exact rfl; exact rfl; intro b12) | (refine zsp ?_ ?_ <;> (intro hc; (try simp only [zhcs, reduceCtorEq] at hc); (try (exfalso; first | omega | contradiction | omega | exact absurd rfl hc | exact absurd (by decide) hc))))))
  rw [show ([.int .u64 0, .int .u64 0] : List Value) = wd 0 from rfl]
  (refine At.loopk (σ := DS) [3, 4, 5, 6, 7, 8] (fun s F0 => (9, .int .i64 ((s.i : Int) - 1)) :: F0) (fun s => m) (fun s => .blk b8 58 ((tab (dg a)).map gi) :: .blk b7 24 (wd s.L) :: .blk b6 58 ((tab (dg s.O)).map gi) :: .blk b5 24 (wd 0) :: .blk b4 24 (wd 0) :: .blk b3 24 (wd d) :: Rest) (fun s => s.i ≤ 128 ∧ s.O = a / 2 ^ s.i / d * 2 ^ s.i ∧ s.L = a / 2 ^ s.i % d) (fun s => s.i) ⟨128, 0, 0⟩ (by rfl) ?_ zsubs zml zente ?_)
  · refine ⟨Nat.le_refl _, ?_, ?_⟩
    · show 0 = a / 2 ^ 128 / d * 2 ^ 128
      rw [Nat.div_eq_of_lt (show a < 2 ^ 128 from ha), Nat.zero_div, Nat.zero_mul]
    · show 0 = a / 2 ^ 128 % d
      rw [Nat.div_eq_of_lt (show a < 2 ^ 128 from ha), Nat.zero_mod]
  rintro ⟨i, O, L⟩ ⟨hi, hO, hL⟩
  dsimp only at hi hO hL ⊢
  have hlO := tab_len (dg O)
  have hmO := tabm_len (dg O)
  have hLn : L < d := by rw [hL]; exact Nat.mod_lt _ hn
  rcases i with _ | i
  · rw [Nat.pow_zero, Nat.div_one, Nat.mul_one] at hO
    rw [Nat.pow_zero, Nat.div_one] at hL
    have hOb : O < 340282366920938463463374607431768211456 := by rw [hO]; exact Nat.lt_of_le_of_lt (Nat.div_le_self _ _) ha
    rw [← hO, ← hL]
    (repeat' (first | ((with_reducible apply At.mixedB (id := 2) 4 4 (.q 0 (.q 1 (.l 2 (.x 3 .done))))); exact rfl; exact (by repeat constructor); exact rfl; kernel_rfl; kernel_rfl; kernel_rfl) | ((with_reducible apply At.mixed (id := 13) 16 (.q 0 (.q 1 (.q 2 (.q 3 (.q 4 (.q 5 (.q 6 (.q 7 (.q 8 (.q 9 (.q 10 (.q 11 (.q 12 (.q 13 (.q 14 (.x 15 .done))))))))))))))))); exact rfl; kernel_rfl; kernel_rfl; kernel_rfl) | ((with_reducible apply At.mixed (id := 15) 10 (.q 0 (.q 1 (.q 2 (.q 3 (.q 4 (.q 5 (.q 6 (.q 7 (.q 8 (.x 9 .done))))))))))); exact rfl; kernel_rfl; kernel_rfl; kernel_rfl) | ((with_reducible apply At.mixed (id := 16) 16 (.q 0 (.q 1 (.q 2 (.q 3 (.q 4 (.q 5 (.q 6 (.q 7 (.q 8 (.q 9 (.q 10 (.q 11 (.q 12 (.q 13 (.q 14 (.x 15 .done))))))))))))))))); exact rfl; kernel_rfl; kernel_rfl; kernel_rfl) | ((with_reducible apply At.mixed (id := 19) 10 (.q 0 (.q 1 (.q 2 (.q 3 (.q 4 (.q 5 (.q 6 (.q 7 (.q 8 (.x 9 .done))))))))))); exact rfl; kernel_rfl; kernel_rfl; kernel_rfl) | ((with_reducible apply At.mixedB (id := 20) 4 5 (.q 0 (.q 1 (.q 2 (.l 3 (.x 4 .done)))))); exact rfl; exact (by repeat constructor); exact rfl; kernel_rfl; kernel_rfl; kernel_rfl) | refine zsx ?_ | refine zss ?_ | ((with_reducible apply AtM.bo); exact rfl; exact rfl; exact rfl) | ((first | (with_reducible first | apply At.val | apply AtQ.val) | ((with_reducible first | apply AtM1.valz | apply AtM1.val); exact rfl) | ((with_reducible apply AtM1.val); exact rfl)); (exact zprA); exact rfl) | refine zs0 ?_ | refine zx0 ?_ | ((with_reducible first | apply AtM1.callp | apply AtQ.callp | apply At.callp); kernel_rfl; exact rfl; exact rfl; exact of_r O hOb) | ((with_reducible apply At.box (d := 2)); exact rfl; exact rfl; exact rfl; intro b2) | ((with_reducible apply At.box (d := 3)); exact rfl; exact rfl; exact rfl; intro b3) | ((with_reducible apply At.alloc (d := 4)); exact rfl; exact rfl; intro b4) | ((with_reducible apply At.alloc (d := 5)); exact rfl; exact rfl; intro b5) | ((with_reducible apply At.alloc (d := 6)); exact rfl; exact rfl; intro b6) | ((with_reducible apply At.alloc (d := 7)); exact rfl; exact rfl; intro b7) | ((with_reducible apply At.alloc (d := 8)); exact rfl; exact rfl; intro b8) | ((with_reducible apply At.alloc (d := 10)); exact rfl; exact rfl; intro b10) | ((with_reducible apply At.alloc (d := 12)); exact rfl; exact rfl; intro b12) | (refine zsp ?_ ?_ <;> (intro hc; (try simp only [zhcs, reduceCtorEq] at hc); (try (exfalso; first | omega | contradiction | omega | exact absurd rfl hc | exact absurd (by decide) hc))))))
    all_goals ((with_reducible apply At.retV (B := [])); exact rfl; (repeat' (first | exact RVs.nil | (with_reducible apply RVs.cons) | exact rv_tmp (by rfl) | exact rv_cellN (by rfl) (by repeat constructor) (by rfl) (by rfl) (by rfl) | exact rv_cell1 (by rfl) (by repeat constructor) (by rfl) (by rfl) | exact rv_cellA (by rfl) (by repeat constructor) (by rfl) (by rfl) zlq)); exact zml; exact zkp; exact ⟨rfl, rfl, rfl⟩)
  · rw [show (((i + 1 : Nat) : Int) - 1) = (i : Int) by omega]
    obtain ⟨d0, d1, d2⟩ := div_bit a d i hn
    have hbit := bit_of a i
    obtain ⟨b, hb⟩ : ∃ b, b = a / 2 ^ i % 2 := ⟨_, rfl⟩
    have hb2 : b < 2 := by rw [hb]; exact Nat.mod_lt _ (by decide)
    rw [← hb] at d0 d1 d2 hbit
    rw [← hL] at d1 d2
    have hOm : O % 2 ^ (i + 1) = 0 := by rw [hO]; exact Nat.mul_mod_left _ _
    have hdl := dg_lt a (i / 8)
    have hol := dg_lt O (i / 8)
    have f1 : IntKind.wrap .i64 ((i : Int).tdiv 8) = ((i / 8 : Nat) : Int) := by
      have e : (i : Int).tdiv 8 = ((i / 8 : Nat) : Int) := (Int.ofNat_tdiv i 8).symm
      rw [e, IntKind.wrap_i64]; omega
    have f2 : (i : Int).tmod 8 = ((i % 8 : Nat) : Int) := u_rem i 8
    have f3 := u_shr (dg a (i / 8)) (i % 8)
    have f4 := i64_and1 (a := dg a (i / 8) / 2 ^ (i % 8)) (Nat.lt_of_le_of_lt (Nat.div_le_self _ _) hdl)
    rw [hbit] at f4
    have f5 := u_inN (a := b) (by omega)
    have f6 : IntKind.wrap .i64 (1 * 2 ^ ((i % 8 : Nat) : Int).toNat) = ((2 ^ (i % 8) : Nat) : Int) := by
      have : (2 : Nat) ^ (i % 8) ≤ 2 ^ 7 := Nat.pow_le_pow_right (by decide) (by omega)
      rw [Int.toNat_natCast, Int.one_mul, show ((2 : Int) ^ (i % 8)) = ((2 ^ (i % 8) : Nat) : Int) by rw [Int.natCast_pow]; rfl, IntKind.wrap_i64]
      generalize 2 ^ (i % 8) = p at *
      omega
    have f7 := i64_or8 hol (Nat.mod_lt i (by decide)) (dg_or_mod O i hOm)
    have e := tab_bit O i (by omega) hOm
    have ad1 := add_r L L (by omega) (by omega)
    by_cases hov : L + L < 340282366920938463463374607431768211456
    · rw [show sV (L + L) = L + L from if_pos hov, show sE (L + L) = 0 from if_pos hov] at ad1
      have hov2 : L + L + b < 340282366920938463463374607431768211456 := by omega
      have ad2 := add_r (L + L) b hov (by omega)
      rw [show sV (L + L + b) = L + L + b from if_pos hov2, show sE (L + L + b) = 0 from if_pos hov2, ← wd_small (b := b) (by omega)] at ad2
      have kl := less_r (L + L + b) d hov2 hd
      by_cases hc0 : L + L + b < d
      · rw [decide_eq_true hc0] at kl
        obtain ⟨r1, r2⟩ := d1 (by omega)
        clear d0 d1 d2 hbit
        (repeat' (first | ((with_reducible apply At.mixedB (id := 2) 4 4 (.q 0 (.q 1 (.l 2 (.x 3 .done))))); exact rfl; exact (by repeat constructor); exact rfl; kernel_rfl; kernel_rfl; kernel_rfl) | ((with_reducible apply At.mixed (id := 13) 16 (.q 0 (.q 1 (.q 2 (.q 3 (.q 4 (.q 5 (.q 6 (.q 7 (.q 8 (.q 9 (.q 10 (.q 11 (.q 12 (.q 13 (.q 14 (.x 15 .done))))))))))))))))); exact rfl; kernel_rfl; kernel_rfl; kernel_rfl) | ((with_reducible apply At.mixed (id := 15) 10 (.q 0 (.q 1 (.q 2 (.q 3 (.q 4 (.q 5 (.q 6 (.q 7 (.q 8 (.x 9 .done))))))))))); exact rfl; kernel_rfl; kernel_rfl; kernel_rfl) | ((with_reducible apply At.mixed (id := 16) 16 (.q 0 (.q 1 (.q 2 (.q 3 (.q 4 (.q 5 (.q 6 (.q 7 (.q 8 (.q 9 (.q 10 (.q 11 (.q 12 (.q 13 (.q 14 (.x 15 .done))))))))))))))))); exact rfl; kernel_rfl; kernel_rfl; kernel_rfl) | ((with_reducible apply At.mixed (id := 19) 10 (.q 0 (.q 1 (.q 2 (.q 3 (.q 4 (.q 5 (.q 6 (.q 7 (.q 8 (.x 9 .done))))))))))); exact rfl; kernel_rfl; kernel_rfl; kernel_rfl) | ((with_reducible apply At.mixedB (id := 20) 4 5 (.q 0 (.q 1 (.q 2 (.l 3 (.x 4 .done)))))); exact rfl; exact (by repeat constructor); exact rfl; kernel_rfl; kernel_rfl; kernel_rfl) | refine zsx ?_ | refine zss ?_ | ((with_reducible apply AtM.bo); exact rfl; exact rfl; exact rfl) | ((first | (with_reducible first | apply At.val | apply AtQ.val) | ((with_reducible first | apply AtM1.valz | apply AtM1.val); exact rfl) | ((with_reducible apply AtM1.val); exact rfl)); (first | exact pr_quo (by rfl) (by rfl) (by omega) f1 | exact pr_rem (by rfl) (by rfl) (by omega) f2 | exact pr_shrv (by rfl) (by rfl) (by omega) (by simp only [IntKind.bits]; omega) f3 | exact pr_shlv (by rfl) (by rfl) (by omega) (by simp only [IntKind.bits]; omega) f6 | exact pr_and (by rfl) (by rfl) f4 | exact pr_or (by rfl) (by rfl) f7 | exact pr_load_tab (k := i / 8) (by rfl) (by first | exact pk0 | exact pk1 | exact pk2 | exact pk3 | exact pk4 | exact pk5 | exact pk6) (by rfl) (by omega) | exact zprA); exact rfl) | refine zs0 ?_ | refine zx0 ?_ | ((with_reducible apply At.storeArr (g := gi) (((dg O (i / 8) + 2 ^ (i % 8) : Nat) : Int))); exact rfl; exact rfl; exact rfl; exact rfl; exact rfl; exact rfl; exact (by repeat constructor); (first | omega | (simp only [lns] <;> omega))) | ((with_reducible first | apply AtM1.callp | apply AtQ.callp | apply At.callp); kernel_rfl; exact rfl; exact rfl; exact ad1) | ((with_reducible first | apply AtM1.callp | apply AtQ.callp | apply At.callp); kernel_rfl; exact rfl; exact rfl; exact ad2) | ((with_reducible first | apply AtM1.callp | apply AtQ.callp | apply At.callp); kernel_rfl; exact rfl; exact rfl; exact kl) | ((with_reducible apply At.box (d := 2)); exact rfl; exact rfl; exact rfl; intro b2) | ((with_reducible apply At.box (d := 3)); exact rfl; exact rfl; exact rfl; intro b3) | ((with_reducible apply At.alloc (d := 4)); exact rfl; exact rfl; intro b4) | ((with_reducible apply At.alloc (d := 5)); exact rfl; exact rfl; intro b5) | ((with_reducible apply At.alloc (d := 6)); exact rfl; exact rfl; intro b6) | ((with_reducible apply At.alloc (d := 7)); exact rfl; exact rfl; intro b7) | ((with_reducible apply At.alloc (d := 8)); exact rfl; exact rfl; intro b8) | ((with_reducible apply At.alloc (d := 10)); exact rfl; exact rfl; intro b10) | ((with_reducible apply At.alloc (d := 12)); exact rfl; exact rfl; intro b12) | (refine zsp ?_ ?_ <;> (intro hc; (try simp only [zhcs, reduceCtorEq] at hc); (try (exfalso; first | (first | omega | exact absurd hc (by decide)) | contradiction | omega | exact absurd rfl hc | exact absurd (by decide) hc))))))
        all_goals ((with_reducible refine At.reachk (⟨i, O, L + L + b⟩) ?_ ?_ ?_ ?_); exact zsubs; exact zml; exact zente; exact ⟨⟨by dsimp only; omega, by dsimp only; rw [r2, hO, Nat.pow_succ]; rw [Nat.mul_comm 2, Nat.mul_assoc, Nat.mul_comm 2], by dsimp only; rw [r1]; omega⟩, Nat.lt_succ_self i⟩)
      · rw [decide_eq_false hc0] at kl
        obtain ⟨r1, r2⟩ := d2 (by omega)
        have ks := sub_r (L + L + b) d hov2 hd
        rw [show dE (L + L + b) d = 0 from if_neg hc0] at ks
        clear d0 d1 d2 hbit
        (repeat' (first | ((with_reducible apply At.mixedB (id := 2) 4 4 (.q 0 (.q 1 (.l 2 (.x 3 .done))))); exact rfl; exact (by repeat constructor); exact rfl; kernel_rfl; kernel_rfl; kernel_rfl) | ((with_reducible apply At.mixed (id := 13) 16 (.q 0 (.q 1 (.q 2 (.q 3 (.q 4 (.q 5 (.q 6 (.q 7 (.q 8 (.q 9 (.q 10 (.q 11 (.q 12 (.q 13 (.q 14 (.x 15 .done))))))))))))))))); exact rfl; kernel_rfl; kernel_rfl; kernel_rfl) | ((with_reducible apply At.mixed (id := 15) 10 (.q 0 (.q 1 (.q 2 (.q 3 (.q 4 (.q 5 (.q 6 (.q 7 (.q 8 (.x 9 .done))))))))))); exact rfl; kernel_rfl; kernel_rfl; kernel_rfl) | ((with_reducible apply At.mixed (id := 16) 16 (.q 0 (.q 1 (.q 2 (.q 3 (.q 4 (.q 5 (.q 6 (.q 7 (.q 8 (.q 9 (.q 10 (.q 11 (.q 12 (.q 13 (.q 14 (.x 15 .done))))))))))))))))); exact rfl; kernel_rfl; kernel_rfl; kernel_rfl) | ((with_reducible apply At.mixed (id := 19) 10 (.q 0 (.q 1 (.q 2 (.q 3 (.q 4 (.q 5 (.q 6 (.q 7 (.q 8 (.x 9 .done))))))))))); exact rfl; kernel_rfl; kernel_rfl; kernel_rfl) | ((with_reducible apply At.mixedB (id := 20) 4 5 (.q 0 (.q 1 (.q 2 (.l 3 (.x 4 .done)))))); exact rfl; exact (by repeat constructor); exact rfl; kernel_rfl; kernel_rfl; kernel_rfl) | refine zsx ?_ | refine zss ?_ | ((with_reducible apply AtM.bo); exact rfl; exact rfl; exact rfl) | ((first | (with_reducible first | apply At.val | apply AtQ.val) | ((with_reducible first | apply AtM1.valz | apply AtM1.val); exact rfl) | ((with_reducible apply AtM1.val); exact rfl)); (first | exact pr_quo (by rfl) (by rfl) (by omega) f1 | exact pr_rem (by rfl) (by rfl) (by omega) f2 | exact pr_shrv (by rfl) (by rfl) (by omega) (by simp only [IntKind.bits]; omega) f3 | exact pr_shlv (by rfl) (by rfl) (by omega) (by simp only [IntKind.bits]; omega) f6 | exact pr_and (by rfl) (by rfl) f4 | exact pr_or (by rfl) (by rfl) f7 | exact pr_load_tab (k := i / 8) (by rfl) (by first | exact pk0 | exact pk1 | exact pk2 | exact pk3 | exact pk4 | exact pk5 | exact pk6) (by rfl) (by omega) | exact zprA); exact rfl) | refine zs0 ?_ | refine zx0 ?_ | ((with_reducible apply At.storeArr (g := gi) (((dg O (i / 8) + 2 ^ (i % 8) : Nat) : Int))); exact rfl; exact rfl; exact rfl; exact rfl; exact rfl; exact rfl; exact (by repeat constructor); (first | omega | (simp only [lns] <;> omega))) | ((with_reducible first | apply AtM1.callp | apply AtQ.callp | apply At.callp); kernel_rfl; exact rfl; exact rfl; exact ad1) | ((with_reducible first | apply AtM1.callp | apply AtQ.callp | apply At.callp); kernel_rfl; exact rfl; exact rfl; exact ad2) | ((with_reducible first | apply AtM1.callp | apply AtQ.callp | apply At.callp); kernel_rfl; exact rfl; exact rfl; exact kl) | ((with_reducible first | apply AtM1.callp | apply AtQ.callp | apply At.callp); kernel_rfl; exact rfl; exact rfl; exact ks) | ((with_reducible apply At.box (d := 2)); exact rfl; exact rfl; exact rfl; intro b2) | ((with_reducible apply At.box (d := 3)); exact rfl; exact rfl; exact rfl; intro b3) | ((with_reducible apply At.alloc (d := 4)); exact rfl; exact rfl; intro b4) | ((with_reducible apply At.alloc (d := 5)); exact rfl; exact rfl; intro b5) | ((with_reducible apply At.alloc (d := 6)); exact rfl; exact rfl; intro b6) | ((with_reducible apply At.alloc (d := 7)); exact rfl; exact rfl; intro b7) | ((with_reducible apply At.alloc (d := 8)); exact rfl; exact rfl; intro b8) | ((with_reducible apply At.alloc (d := 10)); exact rfl; exact rfl; intro b10) | ((with_reducible apply At.alloc (d := 12)); exact rfl; exact rfl; intro b12) | (refine zsp ?_ ?_ <;> (intro hc; (try simp only [zhcs, reduceCtorEq] at hc); (try (exfalso; first | (first | omega | exact absurd hc (by decide)) | contradiction | omega | exact absurd rfl hc | exact absurd (by decide) hc))))))
        all_goals (rw [e])
        all_goals ((with_reducible refine At.reachk (⟨i, O + 2 ^ i, L + L + b - d⟩) ?_ ?_ ?_ ?_); exact zsubs; exact zml; exact zente; exact ⟨⟨by dsimp only; omega, by dsimp only; rw [r2, hO, Nat.pow_succ, Nat.add_mul, Nat.one_mul]; rw [Nat.mul_comm 2, Nat.mul_assoc, Nat.mul_comm 2], by dsimp only; rw [r1]; omega⟩, Nat.lt_succ_self i⟩)
    · rw [show sV (L + L) = 0 from if_neg hov, show sE (L + L) = 1 from if_neg hov] at ad1
      obtain ⟨r1, r2⟩ := d2 (by omega)
      have ks1 := sub_r d L hd (by omega)
      rw [show dE d L = 0 from if_neg (by omega)] at ks1
      obtain ⟨R, hR⟩ : ∃ R, R = d - L := ⟨_, rfl⟩
      rw [← hR] at ks1
      have ks2 := sub_r L R (by omega) (by omega)
      rw [show dE L R = 0 from if_neg (by omega)] at ks2
      obtain ⟨T, hT⟩ : ∃ T, T = L - R := ⟨_, rfl⟩
      rw [← hT] at ks2
      have hov2 : T + b < 340282366920938463463374607431768211456 := by omega
      have ad2 := add_r T b (by omega) (by omega)
      rw [show sV (T + b) = T + b from if_pos hov2, show sE (T + b) = 0 from if_pos hov2, ← wd_small (b := b) (by omega)] at ad2
      have eT : 2 * L + b - d = T + b := by omega
      rw [eT] at r1
      clear d0 d1 d2 hbit
      (repeat' (first | ((with_reducible apply At.mixedB (id := 2) 4 4 (.q 0 (.q 1 (.l 2 (.x 3 .done))))); exact rfl; exact (by repeat constructor); exact rfl; kernel_rfl; kernel_rfl; kernel_rfl) | ((with_reducible apply At.mixed (id := 13) 16 (.q 0 (.q 1 (.q 2 (.q 3 (.q 4 (.q 5 (.q 6 (.q 7 (.q 8 (.q 9 (.q 10 (.q 11 (.q 12 (.q 13 (.q 14 (.x 15 .done))))))))))))))))); exact rfl; kernel_rfl; kernel_rfl; kernel_rfl) | ((with_reducible apply At.mixed (id := 15) 10 (.q 0 (.q 1 (.q 2 (.q 3 (.q 4 (.q 5 (.q 6 (.q 7 (.q 8 (.x 9 .done))))))))))); exact rfl; kernel_rfl; kernel_rfl; kernel_rfl) | ((with_reducible apply At.mixed (id := 16) 16 (.q 0 (.q 1 (.q 2 (.q 3 (.q 4 (.q 5 (.q 6 (.q 7 (.q 8 (.q 9 (.q 10 (.q 11 (.q 12 (.q 13 (.q 14 (.x 15 .done))))))))))))))))); exact rfl; kernel_rfl; kernel_rfl; kernel_rfl) | ((with_reducible apply At.mixed (id := 19) 10 (.q 0 (.q 1 (.q 2 (.q 3 (.q 4 (.q 5 (.q 6 (.q 7 (.q 8 (.x 9 .done))))))))))); exact rfl; kernel_rfl; kernel_rfl; kernel_rfl) | ((with_reducible apply At.mixedB (id := 20) 4 5 (.q 0 (.q 1 (.q 2 (.l 3 (.x 4 .done)))))); exact rfl; exact (by repeat constructor); exact rfl; kernel_rfl; kernel_rfl; kernel_rfl) | refine zsx ?_ | refine zss ?_ | ((with_reducible apply AtM.bo); exact rfl; exact rfl; exact rfl) | ((first | (with_reducible first | apply At.val | apply AtQ.val) | ((with_reducible first | apply AtM1.valz | apply AtM1.val); exact rfl) | ((with_reducible apply AtM1.val); exact rfl)); (first | exact pr_quo (by rfl) (by rfl) (by omega) f1 | exact pr_rem (by rfl) (by rfl) (by omega) f2 | exact pr_shrv (by rfl) (by rfl) (by omega) (by simp only [IntKind.bits]; omega) f3 | exact pr_shlv (by rfl) (by rfl) (by omega) (by simp only [IntKind.bits]; omega) f6 | exact pr_and (by rfl) (by rfl) f4 | exact pr_or (by rfl) (by rfl) f7 | exact pr_load_tab (k := i / 8) (by rfl) (by first | exact pk0 | exact pk1 | exact pk2 | exact pk3 | exact pk4 | exact pk5 | exact pk6) (by rfl) (by omega) | exact zprA); exact rfl) | refine zs0 ?_ | refine zx0 ?_ | ((with_reducible apply At.storeArr (g := gi) (((dg O (i / 8) + 2 ^ (i % 8) : Nat) : Int))); exact rfl; exact rfl; exact rfl; exact rfl; exact rfl; exact rfl; exact (by repeat constructor); (first | omega | (simp only [lns] <;> omega))) | ((with_reducible first | apply AtM1.callp | apply AtQ.callp | apply At.callp); kernel_rfl; exact rfl; exact rfl; exact ad1) | ((with_reducible first | apply AtM1.callp | apply AtQ.callp | apply At.callp); kernel_rfl; exact rfl; exact rfl; exact ad2) | ((with_reducible first | apply AtM1.callp | apply AtQ.callp | apply At.callp); kernel_rfl; exact rfl; exact rfl; exact ks1) | ((with_reducible first | apply AtM1.callp | apply AtQ.callp | apply At.callp); kernel_rfl; exact rfl; exact rfl; exact ks2) | ((with_reducible apply At.box (d := 2)); exact rfl; exact rfl; exact rfl; intro b2) | ((with_reducible apply At.box (d := 3)); exact rfl; exact rfl; exact rfl; intro b3) | ((with_reducible apply At.alloc (d := 4)); exact rfl; exact rfl; intro b4) | ((with_reducible apply At.alloc (d := 5)); exact rfl; exact rfl; intro b5) | ((with_reducible apply At.alloc (d := 6)); exact rfl; exact rfl; intro b6) | ((with_reducible apply At.alloc (d := 7)); exact rfl; exact rfl; intro b7) | ((with_reducible apply At.alloc (d := 8)); exact rfl; exact rfl; intro b8) | ((with_reducible apply At.alloc (d := 10)); exact rfl; exact rfl; intro b10) | ((with_reducible apply At.alloc (d := 12)); exact rfl; exact rfl; intro b12) | (refine zsp ?_ ?_ <;> (intro hc; (try simp only [zhcs, reduceCtorEq] at hc); (try (exfalso; first | (first | omega | exact absurd hc (by decide)) | contradiction | omega | exact absurd rfl hc | exact absurd (by decide) hc))))))
      all_goals (rw [e])
      all_goals ((with_reducible refine At.reachk (⟨i, O + 2 ^ i, T + b⟩) ?_ ?_ ?_ ?_); exact zsubs; exact zml; exact zente; exact ⟨⟨by dsimp only; omega, by dsimp only; rw [r2, hO, Nat.pow_succ, Nat.add_mul, Nat.one_mul]; rw [Nat.mul_comm 2, Nat.mul_assoc, Nat.mul_comm 2], by dsimp only; rw [r1]⟩, Nat.lt_succ_self i⟩)
end Ra
end Go.Proofs.YtpdleggpmhlagaaDoor
/- The bytes of a text that may be written; an array as a slice. -/
set_option linter.unusedSimpArgs false
set_option linter.unusedVariables false
set_option linter.unusedSectionVars false
set_option maxRecDepth 20000
namespace Go.J
open Go
/-- the bytes of a text, that may be written -/
def Res.byt (E : TypeId) (p : Option Addr) (c : Nat) (L : List Int) : Res where
  p w s := ∃ g cur, p = some ⟨g, 0, none⟩ ∧ w.heap[g]? = some (.cells cur E (cur.size, cur.size + 1)) ∧ L.length ≤ c ∧ c ≤ maxLen ∧ c ≤ cur.size ∧ (∀ j, j < L.length → cur[j]? = some (.int .u8 L[j]!)) ∧ ∀ k, s k ↔ k = g
  loc := fun {w w' s} h he => by
    obtain ⟨g, cur, h1, h2, h3, h4, h5, h6, h7⟩ := h
    exact ⟨g, cur, h1, by rw [he g ((h7 g).2 rfl)]; exact h2, h3, h4, h5, h6, h7⟩
  dom := fun {w s k} h hk => by
    obtain ⟨g, cur, h1, h2, h3, h4, h5, h6, h7⟩ := h
    rw [(h7 k).1 hk]; exact (Array.getElem?_eq_some_iff.1 h2).1
section
variable {P : Program} {n : Nat} {w0 : World} {F : Fr} {m : Mem} {Rs Rs' : List Res} {Q : Exit → Act → World → Prop} {K : Act → World → Prop} {E : TypeId} {p : Option Addr} {c : Nat} {L : List Int}
theorem byt_rdb (hp : Pick Rs (.byt E p c L) Rs') : Rdb (HW w0 m Rs) fb 1 p c L := by
  refine ⟨inferInstance, fun w hw hl => ?_, fun w hw => ?_, fun w hw i j hi hj => ?_⟩
  · obtain ⟨_, g, cur, h1, _⟩ := hw.get hp
    exact ⟨g, 0, h1⟩
  · obtain ⟨_, g, cur, h1, h2, h3, _⟩ := hw.get hp
    exact h3
  · obtain ⟨_, g, cur, h1, h2, h3, h4, h5, h6, h7⟩ := hw.get hp
    subst h1
    have hj0 : j = 0 := by omega
    subst hj0
    show w.cell? ⟨g, 0 + (i * 1 + 0), none⟩ = _
    rw [World.cell_of h2, show 0 + (i * 1 + 0) = i by omega, h6 i hi]
    rfl
theorem At.byt_freeze (hp : Pick Rs (.byt E p c L) Rs') (h : ∀ m' : Mem, m.le m' → Sl m' fb 1 p c L → At n w0 F m' Rs' K) : At n w0 F m Rs K := fun a w ha hw => by
  obtain ⟨s, ⟨s1, s2, h1, h2, hd, he⟩, hm⟩ := (hw.ent (Ent.of_pick hp)).res
  obtain ⟨g, cur, rfl, h4, h5, h6, h7, h8, hg⟩ := h1
  have hmb : m g = none := hm g ((he g).2 (.inl ((hg g).2 rfl)))
  refine h (fun k => if k = g then some (.cells cur E (cur.size, cur.size + 1)) else m k) (fun k o hk => ?_) ⟨inferInstance, h5, h6, (fun e => by cases e), fun a' ha' _ => ?_⟩ a w ha
    ⟨hw.os, hw.tape, hw.output, hw.size, fun k o hk => ?_, s2, h2, fun k hk => ?_⟩
  · show (if k = g then _ else _) = _
    rw [if_neg (fun e => by subst e; rw [hmb] at hk; cases hk)]; exact hk
  · cases ha'
    refine ⟨rfl, E, cur, _, if_pos rfl, by show 0 + c * 1 ≤ _; omega, fun i j hi hj => ?_⟩
    have hj0 : j = 0 := by omega
    subst hj0
    show cur[0 + (i * 1 + 0)]? = _
    rw [show 0 + (i * 1 + 0) = i by omega, h8 i hi]
    rfl
  · by_cases e : k = g
    · subst e
      rw [if_pos rfl] at hk; cases hk; exact h4
    · rw [if_neg e] at hk; exact hw.mem k o hk
  · show (if k = g then _ else _) = _
    rw [if_neg (fun e => hd k ⟨(hg k).2 e, hk⟩)]
    exact hm k ((he k).2 (.inr hk))
theorem At.str_own {ops : Array Oper} {rest : List Oper} {d : Nat} {x : Operand} {s t e : TypeId} {ty : TypeId} {pos : String} {aft : Array Edge} {l : List UInt8}
    (hs : P.underlying s = some .string) (ht : P.underlying t = some (.slice e)) (he : P.underlying e = some (.int .u8)) (hx : ev F x = some (.string (str l))) (hl : l.length ≤ 34359738368) (hd : Nat.blt d n = true)
    (h : ∀ p c, At n w0 ((d, .slice p (l.map bI).length c) :: F) m (.byt e p c (l.map bI) :: Rs) (wpList P ops Q rest)) : At n w0 F m Rs (wpList P ops Q (⟨some d, .convert s t x, ty, pos, aft, none⟩ :: rest)) := fun a w ha hw =>
  wpList_plain rfl fun K hK => by
    have hrun := run_bytes_of_string (P := P) w s t e (str l) hs ht he
    have hge := grownCap_ge w (str l).size 0 e
    have hle := grownCap_le_maxLen w (str l).size 0 e (by rw [str_size]; simp only [maxLen]; omega)
    generalize grownCap w (str l).size 0 e = c at hrun hge hle
    rw [str_size] at hrun hge
    have hsize : (bytesRow (str l) c).size = c := by rw [bytesRow_str]; simp; omega
    unfold Oper.wp
    have hex : (execOp a.eval ⟨some d, .convert s t x, ty, pos, aft, none⟩).run P w = .ok (.value (.slice (some ⟨w.heap.size, 0, none⟩) l.length c)) (w.drew.alloc (.cells (bytesRow (str l) c) e ((bytesRow (str l) c).size, (bytesRow (str l) c).size + 1))) := by
      simp only [execOp, ha.ev hx, Sem.run_bind, hrun, Result.andThen]
      rfl
    rw [hex]
    refine hK _ _ (h (some ⟨w.heap.size, 0, none⟩) c _ _ (by rw [List.length_map]; exact ha.put hd) (hw.add rfl rfl rfl (by show w.heap.size ≤ (w.heap.push _).size; simp) (fun k hk => by show (w.heap.push _)[k]? = _; rw [Array.getElem?_push, if_neg (by omega)])
      ⟨fun k => k = w.heap.size, ⟨w.heap.size, bytesRow (str l) c, rfl, by show (w.heap.push _)[w.heap.size]? = _; simp, by simpa using hge, hle, by rw [hsize]; exact Nat.le_refl _, fun j hj => ?_, fun _ => Iff.rfl⟩, fun k hk => by omega⟩))
    have hj' : j < l.length := by simpa using hj
    rw [bytesRow_str, Array.getElem?_append_left (by simp; omega)]
    simp [hj']
theorem At.store_byt {ops : Array Oper} {rest : List Oper} {t : TypeId} {x y : Operand} {ty : TypeId} {pos : String} {aft : Array Edge} {k : Nat} {v : Int}
    (hx : ev F x = some (.pointer (some (at_ p (k * 1))))) (hy : ev F y = some (.int .u8 v)) (hp : Pick Rs (.byt E p c L) Rs') (hs : sizeB P t = some 1) (hk : k < L.length)
    (h : At n w0 F m (.byt E p c (L.set k v) :: Rs') (wpList P ops Q rest)) : At n w0 F m Rs (wpList P ops Q (⟨none, .store t x y, ty, pos, aft, none⟩ :: rest)) := fun a w ha hw =>
  wpList_plain rfl fun K hK => by
    have hrow : ∀ s, (Res.byt E p c L).p w s → ∃ w', (storeVar t (at_ p (k * 1)) (.int .u8 v)).run P w = .ok () w' ∧ (Res.byt E p c (L.set k v)).p w' s ∧ w'.os = w.os ∧ w'.tape = w.tape ∧ w'.output = w.output ∧ w.heap.size ≤ w'.heap.size ∧ (∀ k, k < w.heap.size → ¬ s k → w'.heap[k]? = w.heap[k]?) := fun s hown => by
      obtain ⟨g, cur, rfl, h4, h5, h6, h7, h8, hgs⟩ := hown
      have hkc : k < cur.size := by omega
      have e0 : at_ (some ⟨g, 0, none⟩) (k * 1) = ⟨g, k, none⟩ := by show (⟨g, 0 + k * 1, none⟩ : Addr) = _; congr 1; omega
      have hcell : w.cell? ⟨g, k, none⟩ = some cur[k] := by simp [World.cell?, h4, hkc]
      have hfro : w.frozen? ⟨g, k, none⟩ = false := by
        simp only [World.frozen?, h4, Bool.and_eq_false_iff, decide_eq_false_iff_not]
        left
        omega
      have hst : (storeVar t (at_ (some ⟨g, 0, none⟩) (k * 1)) (.int .u8 v)).run P w = .ok () (w.setRow g (cur.setIfInBounds k (.int .u8 v))) := by
        have hs1 : (_root_.Go.store (⟨g, k, none⟩ : Addr) (.int .u8 v)).run P w = .ok () (w.setRow g (cur.setIfInBounds k (.int .u8 v))) := by
          rw [run_store P w _ _ _ rfl, hcell]
          simp [hfro, setCell_eq_setRow w g k cur E _ (.int .u8 v) h4]
        have ha0 : (⟨g, k, none⟩ : Addr).add 0 = ⟨g, k, none⟩ := addr_add0 _
        rw [e0]
        simp only [storeVar, Sem.run_bind, run_sizeOf hs, Result.andThen]
        simp only [Value.cells, storeCells, Sem.run_bind, ha0, hs1, Result.andThen]
        rw [if_neg (show ¬ ((#[Value.int .u8 v] : Array Value).size ≠ 1) by simp)]
        simp only [Sem.run_bind, hs1, Result.andThen]
        rfl
      refine ⟨_, hst, ⟨g, cur.setIfInBounds k (.int .u8 v), rfl, by rw [Array.size_setIfInBounds]; exact setRow_heap w g cur _ E _ h4, by rw [List.length_set]; exact h5, h6, by rw [Array.size_setIfInBounds]; exact h7, fun j hj => ?_, hgs⟩, rfl, rfl, rfl, by simp, fun i _ hi => setRow_other w g i _ (fun e => hi ((hgs i).2 e))⟩
      rw [List.length_set] at hj
      by_cases e : j = k
      · subst e
        rw [Array.getElem?_setIfInBounds_self_of_lt hkc, List.getElem!_eq_getElem?_getD, List.getElem?_set_self hj]; rfl
      · rw [Array.getElem?_setIfInBounds_ne (Ne.symm e), h8 j hj, List.getElem!_eq_getElem?_getD, List.getElem!_eq_getElem?_getD, List.getElem?_set_ne (Ne.symm e)]
    obtain ⟨s0, hown⟩ := hw.get hp
    obtain ⟨w', hr', _⟩ := hrow s0 hown
    have hrun' : (execOp a.eval ⟨none, .store t x y, ty, pos, aft, none⟩).run P w = .ok .skip w' := by
      have e0 : (Pure.pure (at_ p (k * 1)) : Sem Addr).run P w = .ok (at_ p (k * 1)) w := rfl
      simp only [execOp, ha.ev hx, ha.ev hy, Instr.storeAt, Instr.sureAddr, Sem.run_bind, e0, Result.andThen, hr']
      rfl
    unfold Oper.wp
    rw [hrun']
    refine hK _ _ (h _ _ ha (hw.turn hp fun s hs => ?_))
    obtain ⟨w2, hr2, h2, g1, g2, g3, g4, g5⟩ := hrow s hs
    rw [hr'] at hr2
    injection hr2 with _ e2
    subst e2
    exact ⟨s, h2, g1, g2, g3, g4, g5, fun k hk => .inl hk⟩
theorem pr_index_byt {x y : Operand} {t : TypeId} {ln k : Nat} {ki : IntKind} (hx : ev F x = some (.slice p ln c)) (hy : ev F y = some (.int ki (k : Int))) (hp : Pick Rs (.byt E p c L) Rs')
    (ht : P.underlying t = some (.slice E)) (hs : sizeB P E = some 1) (hl : ln = L.length) (hk : k < L.length) : PR P n F (HW w0 m Rs) (.indexAddr t x y) (.pointer (some (at_ p (k * 1)))) :=
  pr_indexAddr (byt_rdb hp) ht hs hx hy hl hk
theorem pr_load_byt {x : Operand} {t : TypeId} {k : Nat} (hx : ev F x = some (.pointer (some (at_ p (k * 1))))) (hp : Pick Rs (.byt E p c L) Rs') (hk : k < L.length) (ht : isAggB P t = some false) : PR P n F (HW w0 m Rs) (.load t x) (.int .u8 L[k]!) :=
  pr_load_sl1 (byt_rdb hp) hk ht hx rfl
/-- an array that is a block, as a slice -/
theorem pr_slice_arr {C : World → Prop} {x : Operand} {t e : TypeId} {len b sz : Nat} (hx : ev F x = some (.pointer (some ⟨b, 0, none⟩))) (ht : P.underlying t = some (.array len e)) (hs : sizeB P e = some sz) :
    PR P n F C (.slice t x none none none) (.slice (some ⟨b, 0, none⟩) len len) := fun _ _ _ _ _ a w ha hC => by
  have hr : ∀ w, (underlying t).run P w = .ok (.array len e) w := fun w => by simp only [underlying, program, bind, Sem.bind, Sem.run, ht]; rfl
  have hb : (Instr.sliceBounds false len len none none none).run P w = .ok (0, len, len) w := by
    unfold Instr.sliceBounds Instr.sliceBound
    simp [pure, Sem.run, bind, Sem.bind]
  have e0 : (Pure.pure (⟨b, 0, none⟩ : Addr) : Sem Addr).run P w = .ok ⟨b, 0, none⟩ w := rfl
  have hz : (if len = 0 then (⟨b, 0, none⟩ : Addr) else (⟨b, 0, none⟩ : Addr).add (0 * sz)) = ⟨b, 0, none⟩ := by
    split
    · rfl
    · rw [Nat.zero_mul]; exact addr_add0 _
  simp only [execOp, ha.ev hx, Option.map_none, Sem.run_bind]
  unfold Instr.sliceAt
  simp only [Sem.run_bind, hr, Result.andThen, Instr.sureAddr, e0, hb, run_sizeOf hs, pure, Sem.run, hz, Nat.sub_zero]
/-- such a slice can be read -/
theorem blk_rdb {b c : Nat} {L : List Int} (hp : Pick Rs (.blk b E (L.map (fun x => Value.int .u8 x))) Rs') (hc : L.length = c) : Rdb (HW w0 m Rs) fb 1 (some ⟨b, 0, none⟩) c L := by
  refine ⟨inferInstance, fun w hw hl => ⟨b, 0, rfl⟩, fun w hw => by omega, fun w hw i j hi hj => ?_⟩
  have hj0 : j = 0 := by omega
  subst hj0
  have hb := hw.blk hp
  show w.cell? ⟨b, 0 + (i * 1 + 0), none⟩ = _
  rw [World.cell_of hb, show 0 + (i * 1 + 0) = i by omega]
  simp [hi, fb]
theorem Pu.ct {f : FuncId} {args : Array Value} {V : Value} (h : Pu P f args V) (m : Mem) : Ct P f args m [] (fun v m' B => v = V ∧ m = m' ∧ B = []) := (h m).mono fun _ _ _ _ ⟨a, b, c⟩ => ⟨a, b.symm, c⟩
end
end Go.J
/- Ratios, the document's: the product of two numbers, in 32 bytes. -/
set_option linter.unusedSimpArgs false
set_option linter.unusedVariables false
set_option linter.unusedSectionVars false
set_option maxRecDepth 20000
set_option maxHeartbeats 4000000
namespace Go.J
open Go
section
variable {P : Program} {n : Nat} {F : Fr} {m : Mem} {w0 : World} {Rs Rs' : List Res} {E : TypeId}
/-- an array that is a block, as a slice from lo on -/
theorem pr_slice_arrl {C : World → Prop} {x y : Operand} {t e : TypeId} {len b sz lo : Nat} {k : IntKind} (hx : ev F x = some (.pointer (some ⟨b, 0, none⟩))) (hy : ev F y = some (.int k (lo : Int))) (ht : P.underlying t = some (.array len e)) (hs : sizeB P e = some sz) (hl : lo < len) :
    PR P n F C (.slice t x (some y) none none) (.slice (some ⟨b, lo * sz, none⟩) (len - lo) (len - lo)) := fun _ _ _ _ _ a w ha hC => by
  have hr : ∀ w, (underlying t).run P w = .ok (.array len e) w := fun w => by simp only [underlying, program, bind, Sem.bind, Sem.run, ht]; rfl
  have hb : (Instr.sliceBounds false len len (some (.int k (lo : Int))) none none).run P w = .ok (lo, len, len) w := by
    unfold Instr.sliceBounds Instr.sliceBound
    have a1 : (0 : Int) ≤ (lo : Int) ∧ (lo : Int) ≤ (len : Int) := ⟨by omega, by omega⟩
    simp [asIntOf, pure, Sem.run, bind, Sem.bind, Nat.le_of_lt hl]
  have e0 : (Pure.pure (⟨b, 0, none⟩ : Addr) : Sem Addr).run P w = .ok ⟨b, 0, none⟩ w := rfl
  have hz : (if len = lo then (⟨b, 0, none⟩ : Addr) else (⟨b, 0, none⟩ : Addr).add (lo * sz)) = ⟨b, lo * sz, none⟩ := by
    rw [if_neg (Nat.ne_of_gt hl), Addr.add_eq, Nat.zero_add]
  simp only [execOp, ha.ev hx, ha.ev hy, Option.map_none, Option.map_some, Sem.run_bind]
  unfold Instr.sliceAt
  simp only [Sem.run_bind, hr, Result.andThen, Instr.sureAddr, e0, hb, run_sizeOf hs, pure, Sem.run, hz]
/-- such a slice can be read -/
theorem blk_rdbl {α : Type} [Inhabited α] {g : α → Value} [hf : Fl (fun x => [g x]) 1] {b o c : Nat} {L : List α} (hp : Pick Rs (.blk b E (L.map g)) Rs') (hc : (L.drop o).length = c) : Rdb (HW w0 m Rs) (fun x => [g x]) 1 (some ⟨b, o, none⟩) c (L.drop o) := by
  refine ⟨hf, fun w hw hl => ⟨b, o, rfl⟩, fun w hw => by omega, fun w hw i j hi hj => ?_⟩
  have hj0 : j = 0 := by omega
  subst hj0
  have hb := hw.blk hp
  have hi' : o + i < L.length := by rw [List.length_drop] at hi; omega
  show w.cell? ⟨b, o + (i * 1 + 0), none⟩ = _
  rw [World.cell_of hb, show o + (i * 1 + 0) = o + i by omega]
  simp [hi']
/-- what a block has, said in other words -/
theorem At.reblk {K : Act → World → Prop} {b : Nat} {cs cs' : List Value} (hp : Pick Rs (.blk b E cs) Rs') (e : cs = cs') (h : At n w0 F m (.blk b E cs' :: Rs') K) : At n w0 F m Rs K := At.ent (Ent.of_pick hp) (e ▸ h)
end
end Go.J
namespace Go.Proofs.YtpdleggpmhlagaaDoor
open Go Go.J
attribute [local irreducible] At AtQ AtM AtM1 PR Ct Pu Rd Res.blk Res.own Res.ex RVs RV
namespace Ra
open Wide
def tb (n : Nat) (f : Nat → Nat) : List Int := (List.range n).map (fun i => ((f i : Nat) : Int))
theorem tb_len (n : Nat) (f : Nat → Nat) : (tb n f).length = n := by simp [tb]
theorem tbm_len (n : Nat) (f : Nat → Nat) : ((tb n f).map gi).length = n := by simp [tb]
theorem tb_get {n : Nat} (f : Nat → Nat) {i : Nat} (h : i < n) : (tb n f)[i]! = (f i : Int) := by
  rw [getElem!_pos _ i (by rw [tb_len]; exact h)]; simp [tb]
theorem tb_congr {n : Nat} {f g : Nat → Nat} (h : ∀ j, j < n → f j = g j) : tb n f = tb n g := by
  unfold tb
  apply List.map_congr_left
  intro j hj
  rw [h j (List.mem_range.1 hj)]
theorem tb_set {n : Nat} (f : Nat → Nat) {k : Nat} (v : Nat) : (tb n f).set k (v : Int) = tb n (fun j => if j = k then v else f j) := by
  apply List.ext_getElem (by simp [tb])
  intro j h1 h2
  rw [List.getElem_set]
  simp only [tb, List.getElem_map, List.getElem_range]
  by_cases e : k = j
  · subst e; simp
  · rw [if_neg e, if_neg (Ne.symm e)]
theorem pr_load_tb {n : Nat} {w0 : World} {F : Fr} {m : Mem} {Rs : List Res} {N : Nat} {f : Nat → Nat} {x : Operand} {t : TypeId} {b k v : Nat} {E : TypeId} {Rs' : List Res} (hx : ev F x = some (.pointer (some ⟨b, k, none⟩))) (hp : Pick Rs (.blk b E ((tb N f).map gi)) Rs') (ht : isAggB Tryd.prog t = some false) (hk : k < N) (hv : f k = v) :
    PR Tryd.prog n F (HW w0 m Rs) (.load t x) (.int .i64 ((v : Nat) : Int)) := by
  have := pr_load_arr (n := n) (w0 := w0) (m := m) (P := Tryd.prog) (g := gi) hx hp ht (by rw [tb_len]; exact hk)
  rw [tb_get f hk, hv] at this
  exact this
/-! ### digits of a product -/
theorem p256 (i : Nat) : 0 < 256 ^ i := Nat.pow_pos (by decide)
theorem dg_big {X j : Nat} (h : X < 256 ^ j) : dg X j = 0 := by unfold dg; rw [Nat.div_eq_of_lt h]
theorem dg_hi (P s k : Nat) : dg P (s + k) = dg (P / 256 ^ s) k := by
  unfold dg; rw [Nat.pow_add, Nat.div_div_eq_div_mul]
theorem dg_sh (P s k M : Nat) : dg (P + 256 ^ s * M) (s + k) = dg (P / 256 ^ s + M) k := by
  rw [dg_hi, Nat.add_mul_div_left _ _ (p256 s)]
theorem dg_lo {P s j M : Nat} (h : j < s) : dg (P + 256 ^ s * M) j = dg P j := by
  unfold dg
  have e : 256 ^ s * M = 256 ^ j * (256 * (256 ^ (s - j - 1) * M)) := by
    rw [← Nat.mul_assoc 256, ← Nat.mul_assoc, ← Nat.pow_succ', ← Nat.pow_add, show j + (s - j - 1).succ = s by omega]
  rw [e, Nat.add_mul_div_left _ _ (p256 j)]
  omega
def ck (A d y k : Nat) : Nat := (A % 256 ^ k + d * (y % 256 ^ k)) / 256 ^ k
theorem ck_zero (A d y : Nat) : ck A d y 0 = 0 := by simp [ck, Nat.mod_one]
theorem ck_lt {A d y k : Nat} (hd : d < 256) : ck A d y k < 256 := by
  unfold ck
  have h1 := Nat.mod_lt A (p256 k)
  have h2 := Nat.mod_lt y (p256 k)
  generalize A % 256 ^ k = a at *
  generalize y % 256 ^ k = b at *
  generalize 256 ^ k = p at *
  rw [Nat.div_lt_iff_lt_mul (by omega)]
  have h3 : d * b ≤ 255 * b := Nat.mul_le_mul_right b (by omega)
  omega
theorem ck_succ (A d y k : Nat) : (dg A k + d * dg y k + ck A d y k) / 256 = ck A d y (k + 1) := by
  unfold ck
  rw [dig_succ, dig_succ, Nat.pow_succ, ← Nat.div_div_eq_div_mul]
  congr 1
  rw [show A % 256 ^ k + 256 ^ k * dg A k + d * (y % 256 ^ k + 256 ^ k * dg y k) = (A % 256 ^ k + d * (y % 256 ^ k)) + 256 ^ k * (dg A k + d * dg y k) by
    rw [Nat.mul_add, Nat.mul_add, Nat.mul_left_comm]; omega, Nat.add_mul_div_left _ _ (p256 k)]
  omega
theorem ck_dig (A d y k : Nat) : (dg A k + d * dg y k + ck A d y k) % 256 = dg (A + d * y) k := by
  have e : (A + d * y) / 256 ^ k = A / 256 ^ k + d * (y / 256 ^ k) + ck A d y k := by
    unfold ck
    conv => lhs; rw [← Nat.mod_add_div A (256 ^ k), ← Nat.mod_add_div y (256 ^ k)]
    rw [show A % 256 ^ k + 256 ^ k * (A / 256 ^ k) + d * (y % 256 ^ k + 256 ^ k * (y / 256 ^ k)) = (A % 256 ^ k + d * (y % 256 ^ k)) + 256 ^ k * (A / 256 ^ k + d * (y / 256 ^ k)) by
      rw [Nat.mul_add, Nat.mul_add, Nat.mul_left_comm d (256 ^ k)]; omega, Nat.add_mul_div_left _ _ (p256 k)]
    omega
  unfold dg
  rw [e]
  have e2 : d * (y / 256 ^ k) = d * (y / 256 ^ k % 256) + 256 * (d * (y / 256 ^ k / 256)) := by
    rw [Nat.mul_left_comm, ← Nat.mul_add, Nat.mod_add_div]
  rw [e2]
  generalize d * (y / 256 ^ k % 256) = u
  generalize d * (y / 256 ^ k / 256) = v
  omega
structure PS where
  (k : Nat) (c : Nat)
theorem pr_lt (x y s : Nat) (hy : y < 256 ^ 16) : x % 256 ^ s * y < 256 ^ (s + 16) := by
  rw [Nat.pow_add]
  exact Nat.mul_lt_mul'' (Nat.mod_lt _ (p256 s)) hy
theorem pr_step (x y s : Nat) : x % 256 ^ (s + 1) * y = x % 256 ^ s * y + 256 ^ s * (dg x s * y) := by
  rw [dig_succ, Nat.add_mul, Nat.mul_assoc]
def cc (x y s k : Nat) : Nat := ck (x % 256 ^ s * y / 256 ^ s) (dg x s) y k
def row (x y s k : Nat) : Nat → Nat := fun j => if j < s + k then dg (x % 256 ^ (s + 1) * y) j else dg (x % 256 ^ s * y) j
theorem cc_zero (x y s : Nat) : cc x y s 0 = 0 := ck_zero _ _ _
theorem cc_lt (x y s k : Nat) : cc x y s k < 256 := ck_lt (dg_lt x s)
theorem row_zero (x y s : Nat) : tb 32 (dg (x % 256 ^ s * y)) = tb 32 (row x y s 0) := tb_congr fun j _ => by
  unfold row
  by_cases hj : j < s + 0
  · rw [if_pos hj, pr_step, dg_lo (show j < s by omega)]
  · rw [if_neg hj]
theorem row_at (x y s k : Nat) : row x y s k (s + k) = dg (x % 256 ^ s * y) (s + k) := if_neg (Nat.lt_irrefl _)
theorem cc_succ (x y s k : Nat) : (dg (x % 256 ^ s * y) (s + k) + dg x s * dg y k + cc x y s k) / 256 = cc x y s (k + 1) := by
  rw [dg_hi]; exact ck_succ _ _ _ _
theorem cc_dig (x y s k : Nat) : (dg (x % 256 ^ s * y) (s + k) + dg x s * dg y k + cc x y s k) % 256 = dg (x % 256 ^ (s + 1) * y) (s + k) := by
  rw [dg_hi, pr_step, dg_sh]; exact ck_dig _ _ _ _
theorem row_succ (x y s k : Nat) {v : Nat} (hv : v = dg (x % 256 ^ (s + 1) * y) (s + k)) : (tb 32 (row x y s k)).set (s + k) (v : Int) = tb 32 (row x y s (k + 1)) := by
  rw [tb_set]
  refine tb_congr fun j _ => ?_
  unfold row
  by_cases e3 : j = s + k
  · subst e3; rw [if_pos rfl, if_pos (by omega), hv]
  · rw [if_neg e3]
    by_cases e4 : j < s + k
    · rw [if_pos e4, if_pos (by omega)]
    · rw [if_neg e4, if_neg (by omega)]
theorem row_top (x y s : Nat) (hy : y < 256 ^ 16) : dg (x % 256 ^ s * y) (s + 16) = 0 := dg_big (pr_lt x y s hy)
theorem row_end (x y s : Nat) (hy : y < 256 ^ 16) : (tb 32 (row x y s 16)).set (s + 16) ((cc x y s 16 : Nat) : Int) = tb 32 (dg (x % 256 ^ (s + 1) * y)) := by
  have e2 := cc_dig x y s 16
  rw [row_top x y s hy, show dg y 16 = 0 from dg_big hy, Nat.mul_zero, Nat.zero_add, Nat.mod_eq_of_lt (by have := cc_lt x y s 16; omega)] at e2
  rw [tb_set]
  refine tb_congr fun j _ => ?_
  unfold row
  by_cases e3 : j = s + 16
  · subst e3; rw [if_pos rfl, ← e2]
  · rw [if_neg e3]
    by_cases e4 : j < s + 16
    · rw [if_pos e4]
    · rw [if_neg e4, dg_big (Nat.lt_of_lt_of_le (pr_lt x y s hy) (Nat.pow_le_pow_right (by decide) (by omega))), dg_big (Nat.lt_of_lt_of_le (pr_lt x y (s + 1) hy) (Nat.pow_le_pow_right (by decide) (by omega)))]
theorem product (x y : Nat) (hx : x < 340282366920938463463374607431768211456) (hy : y < 340282366920938463463374607431768211456) : Pu Tryd.prog 36 #[wv x, wv y] (.agg ((tb 32 (dg (x * y))).map gi).toArray) := Pu.intro fun m => by
  have hlx := tab_len (dg x)
  have hly := tab_len (dg y)
  have hmx := tabm_len (dg x)
  have hmy := tabm_len (dg y)
  have hl0 := tbm_len 32 (fun _ => 0)
  have kx := Wide.bytes x hx
  have ky := Wide.bytes y hy
  have exx : x % 256 ^ 16 = x := Nat.mod_eq_of_lt hx
  have ht := fun s => row_top x y s hy
  have hte := fun s => row_end x y s hy
  clear hx hy
  refine Ct.enterV (by rfl) Tryd.func36 rfl Tryd.ntmps36 rfl (fun w0 Rest => ?_)
  (repeat' (first | ((with_reducible apply At.mixed (id := 2) 8 (.q 0 (.q 1 (.q 2 (.q 3 (.b 4 5 (.l 5 (.x 6 (.x 7 .done))) (.l 4 (.x 6 (.x 7 .done))))))))); exact rfl; kernel_rfl; kernel_rfl; kernel_rfl) | refine zsx ?_ | refine zss ?_ | ((with_reducible apply AtM.bo); exact rfl; exact rfl; exact rfl) | ((first | (with_reducible first | apply At.val | apply AtQ.val) | ((with_reducible first | apply AtM1.valz | apply AtM1.val); exact rfl) | ((with_reducible apply AtM1.val); exact rfl)); (exact zprA); exact rfl) | refine zs0 ?_ | refine zx0 ?_ | ((with_reducible first | apply AtM1.callp | apply AtQ.callp | apply At.callp); kernel_rfl; exact rfl; exact rfl; exact kx) | ((with_reducible first | apply AtM1.callp | apply AtQ.callp | apply At.callp); kernel_rfl; exact rfl; exact rfl; exact ky) | ((with_reducible apply At.storeA); exact rfl; exact rfl; exact rfl; exact all_gi _; exact (by repeat constructor); (first | exact rfl | (first | omega | (simp only [lns] <;> omega))); (first | exact rfl | (first | omega | (simp only [lns] <;> omega)))) | ((with_reducible apply At.box (d := 2)); exact rfl; exact rfl; exact rfl; intro b2) | ((with_reducible apply At.box (d := 3)); exact rfl; exact rfl; exact rfl; intro b3) | ((with_reducible apply At.alloc (d := 4)); exact rfl; exact rfl; intro b4) | ((with_reducible apply At.alloc (d := 5)); exact rfl; exact rfl; intro b5) | ((with_reducible apply At.alloc (d := 6)); exact rfl; exact rfl; intro b6) | ((with_reducible apply At.alloc (d := 7)); exact rfl; exact rfl; intro b7) | (refine zsp ?_ ?_ <;> (intro hc; (try simp only [zhcs, reduceCtorEq] at hc); (try (exfalso; first | contradiction | omega | exact absurd rfl hc | exact absurd (by decide) hc))))))
  all_goals refine At.reblk (b := b5) (cs' := (tb 32 (dg (x % 256 ^ 0 * y))).map gi) (by repeat constructor) ?_ ?_
  all_goals try (rw [Nat.pow_zero, Nat.mod_one, Nat.zero_mul, show tb 32 (dg 0) = tb 32 (fun _ => 0) from tb_congr fun j _ => dg_big (p256 j)]; rfl)
  all_goals (refine At.loopk (σ := Nat) [4, 5, 6, 7] (fun s F0 => (16, .int .i64 (s : Int)) :: F0) (fun s => m) (fun s => .blk b7 58 ((tab (dg y)).map gi) :: .blk b6 58 ((tab (dg x)).map gi) :: .blk b5 52 ((tb 32 (dg (x % 256 ^ s * y))).map gi) :: .blk b4 52 ((tb 32 (fun _ => 0)).map gi) :: Rest) (fun s => s ≤ 16) (fun s => 16 - s) 0 (by rfl) ?_ zsubs zml zente ?_)
  all_goals try exact Nat.zero_le _
  all_goals
    intro s hs
    by_cases h : s < 16
    · (repeat' (first | refine zss ?_ | ((first | (with_reducible first | apply At.val | apply AtQ.val)); (exact zprA); exact rfl) | refine zs0 ?_ | ((with_reducible apply At.box (d := 2)); exact rfl; exact rfl; exact rfl; intro b2) | ((with_reducible apply At.box (d := 3)); exact rfl; exact rfl; exact rfl; intro b3) | ((with_reducible apply At.alloc (d := 4)); exact rfl; exact rfl; intro b4) | ((with_reducible apply At.alloc (d := 5)); exact rfl; exact rfl; intro b5) | ((with_reducible apply At.alloc (d := 6)); exact rfl; exact rfl; intro b6) | ((with_reducible apply At.alloc (d := 7)); exact rfl; exact rfl; intro b7) | (refine zsp ?_ ?_ <;> (intro hc; (try simp only [zhcs, reduceCtorEq] at hc); (try (exfalso; first | omega | contradiction | omega | exact absurd rfl hc | exact absurd (by decide) hc))))))
      refine At.reblk (b := b5) (cs' := (tb 32 (row x y s 0)).map gi) (by repeat constructor) (by rw [row_zero]) ?_
      (refine At.loopk (σ := PS) [4, 5, 6, 7, 8, 16] (fun q F0 => (19, .int .i64 (q.k : Int)) :: (9, .int .i64 (q.c : Int)) :: F0) (fun q => m) (fun q => .blk b7 58 ((tab (dg y)).map gi) :: .blk b6 58 ((tab (dg x)).map gi) :: .blk b5 52 ((tb 32 (row x y s q.k)).map gi) :: .blk b4 52 ((tb 32 (fun _ => 0)).map gi) :: Rest) (fun q => q.k ≤ 16 ∧ q.c = cc x y s q.k) (fun q => 16 - q.k) ⟨0, 0⟩ (by rfl) ?_ zsubs zml zente ?_)
      · exact ⟨Nat.zero_le _, (cc_zero x y s).symm⟩
      rintro ⟨k, c⟩ ⟨hk, hck⟩
      dsimp only at hk hck ⊢
      have hc256 : c < 256 := hck ▸ cc_lt x y s k
      have hlk := tb_len 32 (row x y s k)
      by_cases hk16 : k < 16
      · have h1 := dg_lt (x % 256 ^ s * y) (s + k)
        have h2 := dg_lt y k
        have h3 := dg_lt x s
        have e1 := cc_succ x y s k
        have e2 := cc_dig x y s k
        have ep := row_at x y s k
        rw [← hck] at e1 e2
        have hu : dg x s * dg y k ≤ 255 * 255 := Nat.mul_le_mul (by omega) (by omega)
        have m1 : IntKind.wrap .i64 (((dg x s : Nat) : Int) * ((dg y k : Nat) : Int)) = ((dg x s * dg y k : Nat) : Int) := by rw [← Int.natCast_mul, IntKind.wrap_i64]; omega
        generalize dg x s * dg y k = u at hu e1 e2 m1
        generalize dg (x % 256 ^ s * y) (s + k) = p at h1 e1 e2 ep
        have e3 := row_succ x y s k e2
        rw [show (((p + u + c) % 256 : Nat) : Int) = ((p : Int) + (u : Int) + (c : Int)) % 256 by omega] at e3
        clear e2 hck
        (repeat' (first | refine zss ?_ | ((first | (with_reducible first | apply At.val | apply AtQ.val)); (first | exact pr_load_tb (k := s + k) (v := p) (by rfl) (by first | exact pk0 | exact pk1 | exact pk2 | exact pk3 | exact pk4) (by rfl) (by omega) ep | exact pr_indexArr1 (k := s + k) (by rfl) (by rfl) (by rfl) (by rfl) (by omega) | exact pr_load_tab (k := s) (by rfl) (by first | exact pk0 | exact pk1 | exact pk2 | exact pk3 | exact pk4) (by rfl) (by omega) | exact pr_load_tab (k := k) (by rfl) (by first | exact pk0 | exact pk1 | exact pk2 | exact pk3 | exact pk4) (by rfl) (by omega) | exact pr_mul (by rfl) (by rfl) m1 | exact zprA); exact rfl) | refine zs0 ?_ | ((with_reducible apply At.storeArr (g := gi) ((((p : Int) + (u : Int) + (c : Int)) % 256))); exact rfl; exact rfl; exact rfl; exact rfl; exact rfl; exact rfl; exact (by repeat constructor); (first | omega | (simp only [lns] <;> omega))) | ((with_reducible apply At.box (d := 2)); exact rfl; exact rfl; exact rfl; intro b2) | ((with_reducible apply At.box (d := 3)); exact rfl; exact rfl; exact rfl; intro b3) | ((with_reducible apply At.alloc (d := 4)); exact rfl; exact rfl; intro b4) | ((with_reducible apply At.alloc (d := 5)); exact rfl; exact rfl; intro b5) | ((with_reducible apply At.alloc (d := 6)); exact rfl; exact rfl; intro b6) | ((with_reducible apply At.alloc (d := 7)); exact rfl; exact rfl; intro b7) | (refine zsp ?_ ?_ <;> (intro hc; (try simp only [zhcs, reduceCtorEq] at hc); (try (exfalso; first | omega | contradiction | omega | exact absurd rfl hc | exact absurd (by decide) hc))))))
        rw [e3]
        ((with_reducible refine At.reachk (⟨k + 1, (p + u + c) / 256⟩) ?_ ?_ ?_ ?_); exact zsubs; exact zml; exact zente; exact ⟨⟨Nat.succ_le_of_lt hk16, e1⟩, by show 16 - (k + 1) < 16 - k; omega⟩)
      · have ek : k = 16 := by omega
        subst ek
        have ep := (row_at x y s 16).trans (ht s)
        have e3 := hte s
        rw [← hck] at e3
        clear hck
        (repeat' (first | refine zss ?_ | ((first | (with_reducible first | apply At.val | apply AtQ.val)); (first | exact pr_load_tb (k := s + 16) (v := 0) (by rfl) (by first | exact pk0 | exact pk1 | exact pk2 | exact pk3 | exact pk4) (by rfl) (by omega) ep | exact pr_indexArr1 (k := s + 16) (by rfl) (by rfl) (by rfl) (by rfl) (by omega) | exact zprA); exact rfl) | refine zs0 ?_ | ((with_reducible apply At.storeArr (g := gi) ((((0 : Nat) : Int) + (c : Int)))); exact rfl; exact rfl; exact rfl; exact rfl; exact rfl; exact rfl; exact (by repeat constructor); (first | omega | (simp only [lns] <;> omega))) | ((with_reducible apply At.box (d := 2)); exact rfl; exact rfl; exact rfl; intro b2) | ((with_reducible apply At.box (d := 3)); exact rfl; exact rfl; exact rfl; intro b3) | ((with_reducible apply At.alloc (d := 4)); exact rfl; exact rfl; intro b4) | ((with_reducible apply At.alloc (d := 5)); exact rfl; exact rfl; intro b5) | ((with_reducible apply At.alloc (d := 6)); exact rfl; exact rfl; intro b6) | ((with_reducible apply At.alloc (d := 7)); exact rfl; exact rfl; intro b7) | (refine zsp ?_ ?_ <;> (intro hc; (try simp only [zhcs, reduceCtorEq] at hc); (try (exfalso; first | omega | contradiction | omega | exact absurd rfl hc | exact absurd (by decide) hc))))))
        rw [show ((0 : Nat) : Int) + (c : Int) = (c : Int) by omega, e3]
        ((with_reducible refine At.reachk ((s + 1)) ?_ ?_ ?_ ?_); exact zsubs; exact zml; exact zente; exact ⟨by omega, by omega⟩)
    · have e16 : s = 16 := by omega
      subst e16
      rw [exx]
      have hl1 := tbm_len 32 (dg (x * y))
      (repeat' (first | refine zss ?_ | ((first | (with_reducible first | apply At.val | apply AtQ.val)); (exact zprA); exact rfl) | refine zs0 ?_ | ((with_reducible apply At.storeA); exact rfl; exact rfl; exact rfl; exact all_gi _; exact (by repeat constructor); (first | exact rfl | (first | omega | (simp only [lns] <;> omega))); (first | exact rfl | (first | omega | (simp only [lns] <;> omega)))) | ((with_reducible apply At.box (d := 2)); exact rfl; exact rfl; exact rfl; intro b2) | ((with_reducible apply At.box (d := 3)); exact rfl; exact rfl; exact rfl; intro b3) | ((with_reducible apply At.alloc (d := 4)); exact rfl; exact rfl; intro b4) | ((with_reducible apply At.alloc (d := 5)); exact rfl; exact rfl; intro b5) | ((with_reducible apply At.alloc (d := 6)); exact rfl; exact rfl; intro b6) | ((with_reducible apply At.alloc (d := 7)); exact rfl; exact rfl; intro b7) | (refine zsp ?_ ?_ <;> (intro hc; (try simp only [zhcs, reduceCtorEq] at hc); (try (exfalso; first | omega | contradiction | omega | exact absurd rfl hc | exact absurd (by decide) hc))))))
      all_goals ((with_reducible apply At.retV (B := [])); exact rfl; (repeat' (first | exact RVs.nil | (with_reducible apply RVs.cons) | exact rv_tmp (by rfl) | exact rv_cellN (by rfl) (by repeat constructor) (by rfl) (by rfl) (by rfl) | exact rv_cell1 (by rfl) (by repeat constructor) (by rfl) (by rfl) | exact rv_cellA (by rfl) (by repeat constructor) (by rfl) (by rfl) zlq)); exact zml; exact zkp; exact ⟨rfl, rfl, rfl⟩)
end Ra
end Go.Proofs.YtpdleggpmhlagaaDoor
/- Ratios, the document's: Check, and which is less. -/
set_option linter.unusedSimpArgs false
set_option linter.unusedVariables false
set_option linter.unusedSectionVars false
set_option maxRecDepth 20000
set_option maxHeartbeats 4000000
namespace Go.Proofs.YtpdleggpmhlagaaDoor
open Go Go.J
attribute [local irreducible] At AtQ AtM AtM1 PR Ct Pu Rd Res.blk Res.own Res.ex RVs RV
namespace Ra
open Wide
/-- the document's 1 as it was laid -/
def One (m : Mem) : Prop := ∀ w : World, (∀ k o, m k = some o → w.heap[k]? = some o) → ∀ j, j < 2 → w.cell? ⟨0, j, none⟩ = (wd 1)[j]?
theorem One.mono {m m' : Mem} (h : One m) (hm : m.le m') : One m' := fun w hw => h w fun k o hk => hw k o (hm k o hk)
theorem pr_load_one {n : Nat} {w0 : World} {F : Fr} {m : Mem} {Rs : List Res} {x : Operand} {t : TypeId} (h : One m) (hx : ev F x = some (.pointer (some ⟨0, 0, none⟩))) (ht : isAggB Tryd.prog t = some true) (hs : sizeB Tryd.prog t = some 2) :
    PR Tryd.prog n F (HW w0 m Rs) (.load t x) (wv 1) := pr_loadN (vs := wd 1) ht hx hs fun w hw j hj => by
  have := h w hw.mem j hj
  rw [Nat.zero_add]
  exact this
theorem check_r {m : Mem} (h1' : One m) (n d : Nat) (hn : n < 340282366920938463463374607431768211456) (hd : d < 340282366920938463463374607431768211456) : Rd Tryd.prog 17 #[rv n d] m [] (.int .i64 (chk n d)) := by
  unfold Rd
  have k2 := gcd_r whole_r n d hn hd
  unfold chk
  by_cases h0 : d = 0
  · rw [if_pos (.inl h0)]
    subst h0
    refine Ct.enterV (by rfl) Tryd.func17 rfl Tryd.ntmps17 rfl (fun w0 Rest => ?_)
    (repeat' (first | refine zss ?_ | ((first | (with_reducible first | apply At.val | apply AtQ.val)); (first | exact pr_weq (a := 0) (b := 0) (by rfl) (by rfl) | exact zprA); exact rfl) | refine zs0 ?_ | ((with_reducible apply At.box (d := 1)); exact rfl; exact rfl; exact rfl; intro b1) | (refine zsp ?_ ?_ <;> (intro hc; (try simp only [zhcs, reduceCtorEq] at hc); (try (exfalso; first | contradiction | omega | exact absurd rfl hc | exact absurd (by decide) hc))))))
    all_goals ((with_reducible apply At.retB1 (B := [])); exact rfl; exact rfl; exact zml; exact zkp; exact ⟨rfl, rfl, rfl⟩)
  · have e0 : decide (d = 0) = false := decide_eq_false h0
    have pw : ∀ {n' : Nat} {F : Fr} {C : World → Prop} {x y : Operand} {u : TypeId}, ev F x = some (wv d) → ev F y = some (wv 0) → PR Tryd.prog n' F C (.binOp .eql 24 x y u) (.bool false) := fun hx hy => by rw [← e0]; exact pr_weq hx hy
    obtain ⟨g, hg⟩ : ∃ g, Nat.gcd n d = g := ⟨_, rfl⟩
    rw [hg] at k2
    by_cases h1 : g = 1
    · rw [if_neg (by rw [hg]; rintro (h | h); exact h0 h; exact h h1)]
      clear hg
      subst h1
      refine Ct.enterV (by rfl) Tryd.func17 rfl Tryd.ntmps17 rfl (fun w0 Rest => ?_)
      (repeat' (first | refine zss ?_ | ((first | (with_reducible first | apply At.val | apply AtQ.val)); (first | exact pw (by rfl) (by rfl) | exact pr_load_one h1' (by rfl) (by rfl) (by rfl) | exact pr_wne (a := 1) (b := 1) (by rfl) (by rfl) | exact zprA); exact rfl) | refine zs0 ?_ | ((with_reducible first | apply AtM1.callp | apply AtQ.callp | apply At.callp); kernel_rfl; exact rfl; exact rfl; exact k2) | ((with_reducible apply At.box (d := 1)); exact rfl; exact rfl; exact rfl; intro b1) | (refine zsp ?_ ?_ <;> (intro hc; (try simp only [zhcs, reduceCtorEq] at hc); (try (exfalso; first | contradiction | omega | exact absurd rfl hc | exact absurd (by decide) hc))))))
      all_goals ((with_reducible apply At.retB1 (B := [])); exact rfl; exact rfl; exact zml; exact zkp; exact ⟨rfl, rfl, rfl⟩)
    · rw [if_pos (by rw [hg]; exact .inr h1)]
      have e : (!decide (g = 1)) = true := by rw [decide_eq_false h1]; rfl
      have pw2 : ∀ {n' : Nat} {F : Fr} {C : World → Prop} {x y : Operand} {u : TypeId}, ev F x = some (wv g) → ev F y = some (wv 1) → PR Tryd.prog n' F C (.binOp .neq 24 x y u) (.bool true) := fun hx hy => by rw [← e]; exact pr_wne hx hy
      refine Ct.enterV (by rfl) Tryd.func17 rfl Tryd.ntmps17 rfl (fun w0 Rest => ?_)
      (repeat' (first | refine zss ?_ | ((first | (with_reducible first | apply At.val | apply AtQ.val)); (first | exact pw (by rfl) (by rfl) | exact pr_load_one h1' (by rfl) (by rfl) (by rfl) | exact pw2 (by rfl) (by rfl) | exact zprA); exact rfl) | refine zs0 ?_ | ((with_reducible first | apply AtM1.callp | apply AtQ.callp | apply At.callp); kernel_rfl; exact rfl; exact rfl; exact k2) | ((with_reducible apply At.box (d := 1)); exact rfl; exact rfl; exact rfl; intro b1) | (refine zsp ?_ ?_ <;> (intro hc; (try simp only [zhcs, reduceCtorEq] at hc); (try (exfalso; first | contradiction | omega | exact absurd rfl hc | exact absurd (by decide) hc))))))
      all_goals ((with_reducible apply At.retB1 (B := [])); exact rfl; exact rfl; exact zml; exact zkp; exact ⟨rfl, rfl, rfl⟩)
instance : Fl (fun x => [gi x]) 1 := ⟨fun _ => rfl, fun x v h => by simp at h; subst h; rfl, by decide⟩
theorem over (X : Nat) (hX : X < 256 ^ 32) : Pu Tryd.prog 37 #[.agg ((tb 32 (dg X)).map gi).toArray] (.bool (decide (340282366920938463463374607431768211456 ≤ X))) := Pu.intro fun m => by
  have hl := tbm_len 32 (dg X)
  have hl1 := tb_len 32 (dg X)
  have hl2 : ((tb 32 (dg X)).drop 16).length = 16 := by rw [List.length_drop, hl1]
  have hb : X / 256 ^ 16 < 256 ^ 16 := by rw [Nat.div_lt_iff_lt_mul (p256 16)]; exact hX
  refine Ct.enterV (by rfl) Tryd.func37 rfl Tryd.ntmps37 rfl (fun w0 Rest => ?_)
  (repeat' (first | refine zss ?_ | ((first | (with_reducible first | apply At.val | apply AtQ.val)); (first | exact pr_slice_arrl (lo := 16) (by rfl) (by rfl) (by rfl) (by rfl) (by decide) | exact zprA); exact rfl) | refine zs0 ?_ | ((with_reducible apply At.boxA (d := 1)); exact rfl; exact rfl; intro b1) | ((with_reducible apply At.box (d := 1)); exact rfl; exact rfl; exact rfl; intro b1) | (refine zsp ?_ ?_ <;> (intro hc; (try simp only [zhcs, reduceCtorEq] at hc); (try (exfalso; first | contradiction | omega | exact absurd rfl hc | exact absurd (by decide) hc))))))
  (refine At.loopk (σ := Nat) [5, 6] (fun s F0 => (7, .int .i64 (s : Int)) :: F0) (fun s => m) (fun s => .blk b1 52 ((tb 32 (dg X)).map gi) :: Rest) (fun s => s ≤ 16 ∧ X / 256 ^ 16 % 256 ^ s = 0) (fun s => 16 - s) 0 (by rfl) ?_ zsubs zml zente ?_)
  · exact ⟨Nat.zero_le _, by rw [Nat.pow_zero, Nat.mod_one]⟩
  rintro s ⟨hs, hz⟩
  by_cases h : s < 16
  · have hd := dg_hi X 16 s
    have hsu := dig_succ (X / 256 ^ 16) s
    rw [hz, Nat.zero_add] at hsu
    rw [← hd] at hsu
    have hdv : dg X (16 + s * 1) = dg X (16 + s) := by rw [Nat.mul_one]
    by_cases h0 : dg X (16 + s) = 0
    · rw [h0, Nat.mul_zero] at hsu
      rw [h0] at hdv
      clear hb hX hz hd
      (repeat' (first | refine zss ?_ | ((first | (with_reducible first | apply At.val | apply AtQ.val)); (first | exact pr_indexAddr (blk_rdbl (g := gi) (o := 16) (by repeat constructor) hl2) (by rfl) (by rfl) (by rfl) (by rfl) hl2.symm (by omega) | exact pr_load_tb (k := 16 + s * 1) (v := 0) (by rfl) (by repeat constructor) (by rfl) (by omega) hdv | exact zprA); exact rfl) | refine zs0 ?_ | ((with_reducible apply At.box (d := 1)); exact rfl; exact rfl; exact rfl; intro b1) | (refine zsp ?_ ?_ <;> (intro hc; (try simp only [zhcs, reduceCtorEq] at hc); (try (exfalso; first | omega | contradiction | omega | exact absurd rfl hc | exact absurd (by decide) hc))))))
      all_goals ((with_reducible refine At.reachk ((s + 1)) ?_ ?_ ?_ ?_); exact zsubs; exact zml; exact zente; exact ⟨⟨by omega, hsu⟩, by omega⟩)
    · rw [show decide (340282366920938463463374607431768211456 ≤ X) = true from decide_eq_true (by
        apply Nat.le_of_not_lt
        intro hlt
        apply h0
        rw [hd]
        rw [show X / 256 ^ 16 = 0 from Nat.div_eq_of_lt hlt]
        exact dg_big (p256 s))]
      generalize dg X (16 + s) = v at h0 hdv
      have h0' : ¬ (v : Int) = 0 := by omega
      clear hb hX hz hd hsu
      (repeat' (first | refine zss ?_ | ((first | (with_reducible first | apply At.val | apply AtQ.val)); (first | exact pr_indexAddr (blk_rdbl (g := gi) (o := 16) (by repeat constructor) hl2) (by rfl) (by rfl) (by rfl) (by rfl) hl2.symm (by omega) | exact pr_load_tb (k := 16 + s * 1) (v := v) (by rfl) (by repeat constructor) (by rfl) (by omega) hdv | exact zprA); exact rfl) | refine zs0 ?_ | ((with_reducible apply At.box (d := 1)); exact rfl; exact rfl; exact rfl; intro b1) | (refine zsp ?_ ?_ <;> (intro hc; (try simp only [zhcs, reduceCtorEq] at hc); (try (exfalso; first | (first | omega | exact absurd hc h0') | contradiction | omega | exact absurd rfl hc | exact absurd (by decide) hc))))))
      all_goals ((with_reducible apply At.retB1 (B := [])); exact rfl; exact rfl; exact zml; exact zkp; exact ⟨rfl, rfl, rfl⟩)
  · have e16 : s = 16 := by omega
    subst e16
    rw [Nat.mod_eq_of_lt hb] at hz
    rw [show decide (340282366920938463463374607431768211456 ≤ X) = false from decide_eq_false (by
      intro hle
      have := Nat.div_le_div_right (c := 256 ^ 16) hle
      rw [hz] at this
      exact absurd this (by decide))]
    clear hb hX hz
    (repeat' (first | refine zss ?_ | ((first | (with_reducible first | apply At.val | apply AtQ.val)); (exact zprA); exact rfl) | refine zs0 ?_ | ((with_reducible apply At.box (d := 1)); exact rfl; exact rfl; exact rfl; intro b1) | (refine zsp ?_ ?_ <;> (intro hc; (try simp only [zhcs, reduceCtorEq] at hc); (try (exfalso; first | omega | contradiction | omega | exact absurd rfl hc | exact absurd (by decide) hc))))))
    all_goals ((with_reducible apply At.retB1 (B := [])); exact rfl; exact rfl; exact zml; exact zkp; exact ⟨rfl, rfl, rfl⟩)
end Ra
end Go.Proofs.YtpdleggpmhlagaaDoor
/- Ratios, the document's: which is less. -/
set_option linter.unusedSimpArgs false
set_option linter.unusedVariables false
set_option linter.unusedSectionVars false
set_option maxRecDepth 20000
set_option maxHeartbeats 4000000
namespace Go.Proofs.YtpdleggpmhlagaaDoor
open Go Go.J
attribute [local irreducible] At AtQ AtM AtM1 PR Ct Pu Rd Res.blk Res.own Res.ex RVs RV
namespace Ra
open Wide
theorem sE_big (x : Nat) : decide (340282366920938463463374607431768211456 ≤ x) = decide (sE x ≠ 0) := by
  unfold sE
  by_cases h : x < 340282366920938463463374607431768211456
  · rw [if_pos h, decide_eq_false (by omega), decide_eq_false (by decide)]
  · rw [if_neg h, decide_eq_true (by omega), decide_eq_true (by decide)]
theorem mul_lt32 {x y : Nat} (hx : x < 340282366920938463463374607431768211456) (hy : y < 340282366920938463463374607431768211456) : x * y < 256 ^ 32 := by
  have e : (256 : Nat) ^ 32 = 340282366920938463463374607431768211456 * 340282366920938463463374607431768211456 := by decide
  rw [e]
  exact Nat.mul_lt_mul'' hx hy
theorem less_rr {m : Mem} (h1' : One m) (a b c d : Nat) (ha : a < 340282366920938463463374607431768211456) (hb : b < 340282366920938463463374607431768211456) (hc' : c < 340282366920938463463374607431768211456) (hd : d < 340282366920938463463374607431768211456) :
    Rd Tryd.prog 21 #[rv a b, rv c d] m [] (.tuple #[.bool (les a b c d).1, .int .i64 (les a b c d).2]) := by
  unfold Rd
  have k1 := fun (m' : Mem) (hm' : m.le m') => check_r (m := m') (h1'.mono hm') a b ha hb
  have k2 := fun (m' : Mem) (hm' : m.le m') => check_r (m := m') (h1'.mono hm') c d hc' hd
  have k3 := product a d ha hd
  have k4 := product c b hc' hb
  have k5 := over (a * d) (mul_lt32 ha hd)
  have k6 := over (c * b) (mul_lt32 hc' hb)
  have hX := mul_lt32 ha hd
  have hY := mul_lt32 hc' hb
  rw [sE_big] at k5 k6
  unfold les
  clear ha hb hc' hd
  by_cases h1 : chk a b = 0
  rotate_left
  · rw [if_pos (.inl h1)]
    generalize chk a b = e1 at k1 h1
    clear hX hY
    refine Ct.enterV (by rfl) Tryd.func21 rfl Tryd.ntmps21 rfl (fun w0 Rest => ?_)
    (repeat' (first | refine zss ?_ | ((first | (with_reducible first | apply At.val | apply AtQ.val)); (exact zprA); exact rfl) | refine zs0 ?_ | ((with_reducible first | apply AtM1.cr | apply AtQ.cr | apply At.cr); exact rfl; exact rfl; exact fun _ hmm => k1 _ hmm; exact ztk; kernel_rfl) | ((with_reducible apply At.box (d := 2)); exact rfl; exact rfl; exact rfl; intro b2) | ((with_reducible apply At.box (d := 3)); exact rfl; exact rfl; exact rfl; intro b3) | ((with_reducible apply At.alloc (d := 6)); exact rfl; exact rfl; intro b6) | ((with_reducible apply At.alloc (d := 7)); exact rfl; exact rfl; intro b7) | (refine zsp ?_ ?_ <;> (intro hc; (try simp only [zhcs, reduceCtorEq] at hc); (try (exfalso; first | (first | omega | exact absurd hc h1) | contradiction | omega | exact absurd rfl hc | exact absurd (by decide) hc))))))
    all_goals ((with_reducible apply At.retV (B := [])); exact rfl; (repeat' (first | exact RVs.nil | (with_reducible apply RVs.cons) | exact rv_tmp (by rfl) | exact rv_cellN (by rfl) (by repeat constructor) (by rfl) (by rfl) (by rfl) | exact rv_cell1 (by rfl) (by repeat constructor) (by rfl) (by rfl) | exact rv_cellA (by rfl) (by repeat constructor) (by rfl) (by rfl) zlq)); exact zml; exact zkp; exact ⟨rfl, rfl, rfl⟩)
  by_cases h2 : chk c d = 0
  rotate_left
  · rw [if_pos (.inr h2)]
    rw [h1] at k1
    generalize chk c d = e2 at k2 h2
    clear hX hY
    refine Ct.enterV (by rfl) Tryd.func21 rfl Tryd.ntmps21 rfl (fun w0 Rest => ?_)
    (repeat' (first | refine zss ?_ | ((first | (with_reducible first | apply At.val | apply AtQ.val)); (exact zprA); exact rfl) | refine zs0 ?_ | ((with_reducible first | apply AtM1.cr | apply AtQ.cr | apply At.cr); exact rfl; exact rfl; exact fun _ hmm => k1 _ hmm; exact ztk; kernel_rfl) | ((with_reducible first | apply AtM1.cr | apply AtQ.cr | apply At.cr); exact rfl; exact rfl; exact fun _ hmm => k2 _ hmm; exact ztk; kernel_rfl) | ((with_reducible apply At.box (d := 2)); exact rfl; exact rfl; exact rfl; intro b2) | ((with_reducible apply At.box (d := 3)); exact rfl; exact rfl; exact rfl; intro b3) | ((with_reducible apply At.alloc (d := 6)); exact rfl; exact rfl; intro b6) | ((with_reducible apply At.alloc (d := 7)); exact rfl; exact rfl; intro b7) | (refine zsp ?_ ?_ <;> (intro hc; (try simp only [zhcs, reduceCtorEq] at hc); (try (exfalso; first | (first | omega | exact absurd hc h2) | contradiction | omega | exact absurd rfl hc | exact absurd (by decide) hc))))))
    all_goals ((with_reducible apply At.retV (B := [])); exact rfl; (repeat' (first | exact RVs.nil | (with_reducible apply RVs.cons) | exact rv_tmp (by rfl) | exact rv_cellN (by rfl) (by repeat constructor) (by rfl) (by rfl) (by rfl) | exact rv_cell1 (by rfl) (by repeat constructor) (by rfl) (by rfl) | exact rv_cellA (by rfl) (by repeat constructor) (by rfl) (by rfl) zlq)); exact zml; exact zkp; exact ⟨rfl, rfl, rfl⟩)
  rw [if_neg (by rintro (h | h); exact h h1; exact h h2)]
  rw [h1] at k1
  rw [h2] at k2
  have hl1 := tbm_len 32 (dg (a * d))
  have hl2 := tbm_len 32 (dg (c * b))
  by_cases h3 : sE (a * d) = 0
  rotate_left
  · rw [if_pos (.inl h3)]
    rw [decide_eq_true h3] at k5
    clear hX hY h3 k6
    refine Ct.enterV (by rfl) Tryd.func21 rfl Tryd.ntmps21 rfl (fun w0 Rest => ?_)
    (repeat' (first | ((with_reducible apply At.mixed (id := 3) 14 (.q 0 (.q 1 (.q 2 (.q 3 (.q 4 (.q 5 (.q 6 (.q 7 (.q 8 (.q 9 (.b 10 11 (.l 11 (.x 12 (.x 13 .done))) (.l 10 (.x 12 (.x 13 .done))))))))))))))); exact rfl; kernel_rfl; kernel_rfl; kernel_rfl) | refine zsx ?_ | refine zss ?_ | ((with_reducible apply AtM.bo); exact rfl; exact rfl; exact rfl) | ((first | (with_reducible first | apply At.val | apply AtQ.val) | ((with_reducible first | apply AtM1.valz | apply AtM1.val); exact rfl) | ((with_reducible apply AtM1.val); exact rfl)); (exact zprA); exact rfl) | refine zs0 ?_ | refine zx0 ?_ | ((with_reducible first | apply AtM1.cr | apply AtQ.cr | apply At.cr); exact rfl; exact rfl; exact fun _ hmm => k1 _ hmm; exact ztk; kernel_rfl) | ((with_reducible first | apply AtM1.cr | apply AtQ.cr | apply At.cr); exact rfl; exact rfl; exact fun _ hmm => k2 _ hmm; exact ztk; kernel_rfl) | ((with_reducible first | apply AtM1.callp | apply AtQ.callp | apply At.callp); kernel_rfl; exact rfl; exact rfl; exact k3) | ((with_reducible first | apply AtM1.callp | apply AtQ.callp | apply At.callp); kernel_rfl; exact rfl; exact rfl; exact k4) | ((with_reducible first | apply AtM1.callp | apply AtQ.callp | apply At.callp); kernel_rfl; exact rfl; exact rfl; exact k5) | ((with_reducible apply At.storeA); exact rfl; exact rfl; exact rfl; exact all_gi _; exact (by repeat constructor); (first | exact rfl | (first | omega | (simp only [lns] <;> omega))); (first | exact rfl | (first | omega | (simp only [lns] <;> omega)))) | ((with_reducible apply At.box (d := 2)); exact rfl; exact rfl; exact rfl; intro b2) | ((with_reducible apply At.box (d := 3)); exact rfl; exact rfl; exact rfl; intro b3) | ((with_reducible apply At.alloc (d := 6)); exact rfl; exact rfl; intro b6) | ((with_reducible apply At.alloc (d := 7)); exact rfl; exact rfl; intro b7) | (refine zsp ?_ ?_ <;> (intro hc; (try simp only [zhcs, reduceCtorEq] at hc); (try (exfalso; first | contradiction | omega | exact absurd rfl hc | exact absurd (by decide) hc))))))
    all_goals ((with_reducible apply At.retV (B := [])); exact rfl; (repeat' (first | exact RVs.nil | (with_reducible apply RVs.cons) | exact rv_tmp (by rfl) | exact rv_cellN (by rfl) (by repeat constructor) (by rfl) (by rfl) (by rfl) | exact rv_cell1 (by rfl) (by repeat constructor) (by rfl) (by rfl) | exact rv_cellA (by rfl) (by repeat constructor) (by rfl) (by rfl) zlq)); exact zml; exact zkp; exact ⟨rfl, rfl, rfl⟩)
  rw [decide_eq_false (not_not_intro h3)] at k5
  by_cases h4 : sE (c * b) = 0
  rotate_left
  · rw [if_pos (.inr h4)]
    rw [decide_eq_true h4] at k6
    clear hX hY h3 h4
    refine Ct.enterV (by rfl) Tryd.func21 rfl Tryd.ntmps21 rfl (fun w0 Rest => ?_)
    (repeat' (first | ((with_reducible apply At.mixed (id := 3) 14 (.q 0 (.q 1 (.q 2 (.q 3 (.q 4 (.q 5 (.q 6 (.q 7 (.q 8 (.q 9 (.b 10 11 (.l 11 (.x 12 (.x 13 .done))) (.l 10 (.x 12 (.x 13 .done))))))))))))))); exact rfl; kernel_rfl; kernel_rfl; kernel_rfl) | refine zsx ?_ | refine zss ?_ | ((with_reducible apply AtM.bo); exact rfl; exact rfl; exact rfl) | ((first | (with_reducible first | apply At.val | apply AtQ.val) | ((with_reducible first | apply AtM1.valz | apply AtM1.val); exact rfl) | ((with_reducible apply AtM1.val); exact rfl)); (exact zprA); exact rfl) | refine zs0 ?_ | refine zx0 ?_ | ((with_reducible first | apply AtM1.cr | apply AtQ.cr | apply At.cr); exact rfl; exact rfl; exact fun _ hmm => k1 _ hmm; exact ztk; kernel_rfl) | ((with_reducible first | apply AtM1.cr | apply AtQ.cr | apply At.cr); exact rfl; exact rfl; exact fun _ hmm => k2 _ hmm; exact ztk; kernel_rfl) | ((with_reducible first | apply AtM1.callp | apply AtQ.callp | apply At.callp); kernel_rfl; exact rfl; exact rfl; exact k3) | ((with_reducible first | apply AtM1.callp | apply AtQ.callp | apply At.callp); kernel_rfl; exact rfl; exact rfl; exact k4) | ((with_reducible first | apply AtM1.callp | apply AtQ.callp | apply At.callp); kernel_rfl; exact rfl; exact rfl; exact k5) | ((with_reducible first | apply AtM1.callp | apply AtQ.callp | apply At.callp); kernel_rfl; exact rfl; exact rfl; exact k6) | ((with_reducible apply At.storeA); exact rfl; exact rfl; exact rfl; exact all_gi _; exact (by repeat constructor); (first | exact rfl | (first | omega | (simp only [lns] <;> omega))); (first | exact rfl | (first | omega | (simp only [lns] <;> omega)))) | ((with_reducible apply At.box (d := 2)); exact rfl; exact rfl; exact rfl; intro b2) | ((with_reducible apply At.box (d := 3)); exact rfl; exact rfl; exact rfl; intro b3) | ((with_reducible apply At.alloc (d := 6)); exact rfl; exact rfl; intro b6) | ((with_reducible apply At.alloc (d := 7)); exact rfl; exact rfl; intro b7) | (refine zsp ?_ ?_ <;> (intro hc; (try simp only [zhcs, reduceCtorEq] at hc); (try (exfalso; first | contradiction | omega | exact absurd rfl hc | exact absurd (by decide) hc))))))
    all_goals ((with_reducible apply At.retV (B := [])); exact rfl; (repeat' (first | exact RVs.nil | (with_reducible apply RVs.cons) | exact rv_tmp (by rfl) | exact rv_cellN (by rfl) (by repeat constructor) (by rfl) (by rfl) (by rfl) | exact rv_cell1 (by rfl) (by repeat constructor) (by rfl) (by rfl) | exact rv_cellA (by rfl) (by repeat constructor) (by rfl) (by rfl) zlq)); exact zml; exact zkp; exact ⟨rfl, rfl, rfl⟩)
  rw [decide_eq_false (not_not_intro h4)] at k6
  rw [if_neg (by rintro (h | h); exact h h3; exact h h4)]
  clear h1 h2 h3 h4
  generalize a * d = x at k3 k5 hX hl1 ⊢
  generalize c * b = y at k4 k6 hY hl2 ⊢
  have hp1 := tb_len 32 (dg x)
  have hp2 := tb_len 32 (dg y)
  have hz : x / 256 ^ 32 = y / 256 ^ 32 := by rw [Nat.div_eq_of_lt hX, Nat.div_eq_of_lt hY]
  clear hX hY
  refine Ct.enterV (by rfl) Tryd.func21 rfl Tryd.ntmps21 rfl (fun w0 Rest => ?_)
  (repeat' (first | ((with_reducible apply At.mixed (id := 3) 14 (.q 0 (.q 1 (.q 2 (.q 3 (.q 4 (.q 5 (.q 6 (.q 7 (.q 8 (.q 9 (.b 10 11 (.l 11 (.x 12 (.x 13 .done))) (.l 10 (.x 12 (.x 13 .done))))))))))))))); exact rfl; kernel_rfl; kernel_rfl; kernel_rfl) | refine zsx ?_ | refine zss ?_ | ((with_reducible apply AtM.bo); exact rfl; exact rfl; exact rfl) | ((first | (with_reducible first | apply At.val | apply AtQ.val) | ((with_reducible first | apply AtM1.valz | apply AtM1.val); exact rfl) | ((with_reducible apply AtM1.val); exact rfl)); (exact zprA); exact rfl) | refine zs0 ?_ | refine zx0 ?_ | ((with_reducible first | apply AtM1.cr | apply AtQ.cr | apply At.cr); exact rfl; exact rfl; exact fun _ hmm => k1 _ hmm; exact ztk; kernel_rfl) | ((with_reducible first | apply AtM1.cr | apply AtQ.cr | apply At.cr); exact rfl; exact rfl; exact fun _ hmm => k2 _ hmm; exact ztk; kernel_rfl) | ((with_reducible first | apply AtM1.callp | apply AtQ.callp | apply At.callp); kernel_rfl; exact rfl; exact rfl; exact k3) | ((with_reducible first | apply AtM1.callp | apply AtQ.callp | apply At.callp); kernel_rfl; exact rfl; exact rfl; exact k4) | ((with_reducible first | apply AtM1.callp | apply AtQ.callp | apply At.callp); kernel_rfl; exact rfl; exact rfl; exact k5) | ((with_reducible first | apply AtM1.callp | apply AtQ.callp | apply At.callp); kernel_rfl; exact rfl; exact rfl; exact k6) | ((with_reducible apply At.storeA); exact rfl; exact rfl; exact rfl; exact all_gi _; exact (by repeat constructor); (first | exact rfl | (first | omega | (simp only [lns] <;> omega))); (first | exact rfl | (first | omega | (simp only [lns] <;> omega)))) | ((with_reducible apply At.box (d := 2)); exact rfl; exact rfl; exact rfl; intro b2) | ((with_reducible apply At.box (d := 3)); exact rfl; exact rfl; exact rfl; intro b3) | ((with_reducible apply At.alloc (d := 6)); exact rfl; exact rfl; intro b6) | ((with_reducible apply At.alloc (d := 7)); exact rfl; exact rfl; intro b7) | (refine zsp ?_ ?_ <;> (intro hc; (try simp only [zhcs, reduceCtorEq] at hc); (try (exfalso; first | contradiction | omega | exact absurd rfl hc | exact absurd (by decide) hc))))))
  all_goals (refine At.loopk (σ := Nat) [6, 7] (fun s F0 => (8, .int .i64 ((s : Int) - 1)) :: F0) (fun s => m) (fun s => .blk b7 52 ((tb 32 (dg y)).map gi) :: .blk b6 52 ((tb 32 (dg x)).map gi) :: Rest) (fun s => s ≤ 32 ∧ x / 256 ^ s = y / 256 ^ s) (fun s => s) 32 (by rfl) ?_ zsubs zml zente ?_)
  all_goals try exact ⟨Nat.le_refl _, hz⟩
  all_goals
    rintro s ⟨hs, he⟩
    rcases s with _ | s
    · rw [Nat.pow_zero, Nat.div_one, Nat.div_one] at he
      rw [show decide (x < y) = false from decide_eq_false (by omega)]
      clear hz he
      (repeat' (first | refine zss ?_ | ((first | (with_reducible first | apply At.val | apply AtQ.val)); (exact zprA); exact rfl) | refine zs0 ?_ | ((with_reducible apply At.box (d := 2)); exact rfl; exact rfl; exact rfl; intro b2) | ((with_reducible apply At.box (d := 3)); exact rfl; exact rfl; exact rfl; intro b3) | ((with_reducible apply At.alloc (d := 6)); exact rfl; exact rfl; intro b6) | ((with_reducible apply At.alloc (d := 7)); exact rfl; exact rfl; intro b7) | (refine zsp ?_ ?_ <;> (intro hc; (try simp only [zhcs, reduceCtorEq] at hc); (try (exfalso; first | omega | contradiction | omega | exact absurd rfl hc | exact absurd (by decide) hc))))))
      all_goals ((with_reducible apply At.retV (B := [])); exact rfl; (repeat' (first | exact RVs.nil | (with_reducible apply RVs.cons) | exact rv_tmp (by rfl) | exact rv_cellN (by rfl) (by repeat constructor) (by rfl) (by rfl) (by rfl) | exact rv_cell1 (by rfl) (by repeat constructor) (by rfl) (by rfl) | exact rv_cellA (by rfl) (by repeat constructor) (by rfl) (by rfl) zlq)); exact zml; exact zkp; exact ⟨rfl, rfl, rfl⟩)
    · rw [show (((s + 1 : Nat) : Int) - 1) = (s : Int) by omega]
      by_cases hd : dg x s = dg y s
      · have ht : x / 256 ^ s = y / 256 ^ s := by rw [top_dg x s, top_dg y s, he, hd]
        clear hz he
        (repeat' (first | ((with_reducible apply At.mixed (id := 3) 14 (.q 0 (.q 1 (.q 2 (.q 3 (.q 4 (.q 5 (.q 6 (.q 7 (.q 8 (.q 9 (.b 10 11 (.l 11 (.x 12 (.x 13 .done))) (.l 10 (.x 12 (.x 13 .done))))))))))))))); exact rfl; kernel_rfl; kernel_rfl; kernel_rfl) | refine zsx ?_ | refine zss ?_ | ((with_reducible apply AtM.bo); exact rfl; exact rfl; exact rfl) | ((first | (with_reducible first | apply At.val | apply AtQ.val) | ((with_reducible first | apply AtM1.valz | apply AtM1.val); exact rfl) | ((with_reducible apply AtM1.val); exact rfl)); (first | exact pr_load_tb (N := 32) (k := s) (by rfl) (by repeat constructor) (by rfl) (by omega) rfl | exact zprA); exact rfl) | refine zs0 ?_ | refine zx0 ?_ | ((with_reducible apply At.box (d := 2)); exact rfl; exact rfl; exact rfl; intro b2) | ((with_reducible apply At.box (d := 3)); exact rfl; exact rfl; exact rfl; intro b3) | ((with_reducible apply At.alloc (d := 6)); exact rfl; exact rfl; intro b6) | ((with_reducible apply At.alloc (d := 7)); exact rfl; exact rfl; intro b7) | (refine zsp ?_ ?_ <;> (intro hc; (try simp only [zhcs, reduceCtorEq] at hc); (try (exfalso; first | omega | contradiction | omega | exact absurd rfl hc | exact absurd (by decide) hc))))))
        all_goals ((with_reducible refine At.reachk (s) ?_ ?_ ?_ ?_); exact zsubs; exact zml; exact zente; exact ⟨⟨by omega, ht⟩, Nat.lt_succ_self s⟩)
      · have hxy : decide (x < y) = decide (((dg x s : Nat) : Int) < ((dg y s : Nat) : Int)) := by
          by_cases hl : dg x s < dg y s
          · rw [decide_eq_true (lt_dg he hl), decide_eq_true (by omega)]
          · have := lt_dg he.symm (show dg y s < dg x s by omega)
            rw [decide_eq_false (by omega), decide_eq_false (by omega)]
        rw [hxy]
        clear hxy hz he
        (repeat' (first | ((with_reducible apply At.mixed (id := 3) 14 (.q 0 (.q 1 (.q 2 (.q 3 (.q 4 (.q 5 (.q 6 (.q 7 (.q 8 (.q 9 (.b 10 11 (.l 11 (.x 12 (.x 13 .done))) (.l 10 (.x 12 (.x 13 .done))))))))))))))); exact rfl; kernel_rfl; kernel_rfl; kernel_rfl) | refine zsx ?_ | refine zss ?_ | ((with_reducible apply AtM.bo); exact rfl; exact rfl; exact rfl) | ((first | (with_reducible first | apply At.val | apply AtQ.val) | ((with_reducible first | apply AtM1.valz | apply AtM1.val); exact rfl) | ((with_reducible apply AtM1.val); exact rfl)); (first | exact pr_load_tb (N := 32) (k := s) (by rfl) (by repeat constructor) (by rfl) (by omega) rfl | exact zprA); exact rfl) | refine zs0 ?_ | refine zx0 ?_ | ((with_reducible apply At.box (d := 2)); exact rfl; exact rfl; exact rfl; intro b2) | ((with_reducible apply At.box (d := 3)); exact rfl; exact rfl; exact rfl; intro b3) | ((with_reducible apply At.alloc (d := 6)); exact rfl; exact rfl; intro b6) | ((with_reducible apply At.alloc (d := 7)); exact rfl; exact rfl; intro b7) | (refine zsp ?_ ?_ <;> (intro hc; (try simp only [zhcs, reduceCtorEq] at hc); (try (exfalso; first | omega | contradiction | omega | exact absurd rfl hc | exact absurd (by decide) hc))))))
        all_goals ((with_reducible apply At.retV (B := [])); exact rfl; (repeat' (first | exact RVs.nil | (with_reducible apply RVs.cons) | exact rv_tmp (by rfl) | exact rv_cellN (by rfl) (by repeat constructor) (by rfl) (by rfl) (by rfl) | exact rv_cell1 (by rfl) (by repeat constructor) (by rfl) (by rfl) | exact rv_cellA (by rfl) (by repeat constructor) (by rfl) (by rfl) zlq)); exact zml; exact zkp; exact ⟨rfl, rfl, rfl⟩)
end Ra
end Go.Proofs.YtpdleggpmhlagaaDoor
/- The document's text of a number. -/
set_option linter.unusedSimpArgs false
set_option linter.unusedVariables false
set_option linter.unusedSectionVars false
set_option maxRecDepth 20000
set_option maxHeartbeats 4000000
namespace Go.Proofs.YtpdleggpmhlagaaDoor
open Go Go.J
attribute [local irreducible] At AtQ AtM AtM1 PR Ct Pu Rd Res.blk Res.own Res.ex RVs RV
namespace Wide
theorem u8_digit (r : Nat) : u8 (48 + (r : Int)) = UInt8.ofNat (48 + r) := by
  unfold u8
  rw [show (48 + (r : Int)).toNat = 48 + r by omega]
theorem text_r (x : Nat) : x < 340282366920938463463374607431768211456 → Pu Tryd.prog 34 #[wv x] (.string (str (dd x))) := by
  induction x using Nat.strongRecOn with
  | _ x ih =>
    intro hx
    refine Pu.of_le fun m => ?_
    have kd : Pu Tryd.prog 51 #[wv x, .int .u64 10] (.tuple #[wv (x / 10), .int .u64 ((x % 10 : Nat) : Int), .int .i64 0]) := div_r x 10 hx (by decide) (by decide)
    obtain ⟨r, hr⟩ : ∃ r, r = x % 10 := ⟨_, rfl⟩
    have hrl : r < 10 := by omega
    have hd : IntKind.wrap .u64 (48 + (r : Int)) = 48 + (r : Int) := by rw [IntKind.wrap_u64]; omega
    have hd2 : IntKind.wrap .u8 (48 + (r : Int)) = 48 + (r : Int) := by rw [IntKind.wrap_u8]; omega
    by_cases h : x < 10
    · have e : dd x = [48 + (r : Int)].map u8 := by
        rw [dd_small h, List.map_singleton, u8_digit, hr, Nat.mod_eq_of_lt h]
      rw [← hr, Nat.div_eq_of_lt h] at kd
      rw [e]
      clear hr e ih
      refine Ct.enterV (by rfl) Tryd.func34 rfl Tryd.ntmps34 rfl (fun w0 Rest => ?_)
      (repeat' (first | refine zss ?_ | ((first | (with_reducible first | apply At.val | apply AtQ.val)); (first | exact pr_add (by rfl) (by rfl) hd | exact zprA); exact rfl) | refine zsO ?_ | ((with_reducible first | apply AtM1.callp | apply AtQ.callp | apply At.callp); kernel_rfl; exact rfl; exact rfl; exact kd) | ((with_reducible apply At.lit fb [48 + (r : Int)]); exact inferInstance; (iterate 7 exact rfl); intro _) | ((with_reducible apply At.box (d := 1)); exact rfl; exact rfl; exact rfl; intro b1) | ((with_reducible apply At.alloc (d := 3)); exact rfl; exact rfl; intro b3) | (refine zsp ?_ ?_ <;> (intro hc; (try simp only [zhcs, reduceCtorEq] at hc); (try (exfalso; first | (first | omega | exact absurd rfl hc | exact hc rfl) | contradiction | omega | exact absurd rfl hc | exact absurd (by decide) hc))))))
      all_goals ((with_reducible apply At.retB1 (B := [])); exact rfl; exact rfl; exact zml; exact zkp; exact ⟨rfl, zml, rfl⟩)
    · have i := ih (x / 10) (by omega) (by omega)
      have e : dd x = dd (x / 10) ++ [48 + (r : Int)].map u8 := by
        rw [dd_big h, List.map_singleton, u8_digit, hr]
      have hl := dd_len_le 39 (x / 10) (by decide) (Nat.lt_trans (show x / 10 < 340282366920938463463374607431768211456 by omega) (by decide))
      obtain ⟨q, hq⟩ : ∃ q, q = x / 10 := ⟨_, rfl⟩
      have hq0 : q ≠ 0 := by omega
      rw [← hr, ← hq] at kd
      rw [← hq] at i e hl
      rw [e]
      have hadd : (dd q).length + ([48 + (r : Int)].map u8).length ≤ 9223372036854775807 := by simp; omega
      clear hr e ih hq
      refine Ct.enterV (by rfl) Tryd.func34 rfl Tryd.ntmps34 rfl (fun w0 Rest => ?_)
      (repeat' (first | refine zss ?_ | ((first | (with_reducible first | apply At.val | apply AtQ.val)); (first | exact pr_add (by rfl) (by rfl) hd | exact pr_stradd (by rfl) (by rfl) hadd | exact zprA); exact rfl) | refine zsO ?_ | ((with_reducible first | apply AtM1.callp | apply AtQ.callp | apply At.callp); kernel_rfl; exact rfl; exact rfl; exact kd) | ((with_reducible first | apply AtM1.callp | apply AtQ.callp | apply At.callp); kernel_rfl; exact rfl; exact rfl; exact i) | ((with_reducible apply At.lit fb [48 + (r : Int)]); exact inferInstance; (iterate 7 exact rfl); intro _) | ((with_reducible apply At.box (d := 1)); exact rfl; exact rfl; exact rfl; intro b1) | ((with_reducible apply At.alloc (d := 3)); exact rfl; exact rfl; intro b3) | (refine zsp ?_ ?_ <;> (intro hc; (try simp only [zhcs, reduceCtorEq] at hc); (try (exfalso; first | (first | omega | exact absurd rfl hc | exact hc rfl) | contradiction | omega | exact absurd rfl hc | exact absurd (by decide) hc))))))
      all_goals ((with_reducible apply At.retB1 (B := [])); exact rfl; exact rfl; exact zml; exact zkp; exact ⟨rfl, zml, rfl⟩)
end Wide
end Go.Proofs.YtpdleggpmhlagaaDoor
/- Ratios, the document's: Text. -/
set_option linter.unusedSimpArgs false
set_option linter.unusedVariables false
set_option linter.unusedSectionVars false
set_option maxRecDepth 20000
set_option maxHeartbeats 4000000
namespace Go.Proofs.YtpdleggpmhlagaaDoor
open Go Go.J
attribute [local irreducible] At AtQ AtM AtM1 PR Ct Pu Rd Res.blk Res.own Res.ex RVs RV
namespace Ra
open Wide
theorem textR (n d : Nat) (hn : n < 340282366920938463463374607431768211456) (hd : d < 340282366920938463463374607431768211456) : Pu Tryd.prog 19 #[rv n d] (.string (str (dd n ++ [47] ++ dd d))) := Pu.intro fun m => by
  have k1 := text_r n hn
  have k2 := text_r d hd
  have n1 := dd_len_le 39 n (by decide) (Nat.lt_trans hn (by decide))
  have n2 := dd_len_le 39 d (by decide) (Nat.lt_trans hd (by decide))
  generalize dd n = A at k1 n1 ⊢
  generalize dd d = B at k2 n2 ⊢
  have a1 : A.length + ([47] : List UInt8).length ≤ 9223372036854775807 := by simp; omega
  have a2 : (A ++ [47]).length + B.length ≤ 9223372036854775807 := by simp; omega
  refine Ct.enterV (by rfl) Tryd.func19 rfl Tryd.ntmps19 rfl (fun w0 Rest => ?_)
  (repeat' (first | refine zss ?_ | ((first | (with_reducible first | apply At.val | apply AtQ.val)); (first | exact pr_stradd (by rfl) (by rfl) a1 | exact pr_stradd (by rfl) (by rfl) a2 | exact zprA); exact rfl) | refine zs0 ?_ | ((with_reducible first | apply AtM1.callp | apply AtQ.callp | apply At.callp); kernel_rfl; exact rfl; exact rfl; exact k1) | ((with_reducible first | apply AtM1.callp | apply AtQ.callp | apply At.callp); kernel_rfl; exact rfl; exact rfl; exact k2) | fail | ((with_reducible apply At.box (d := 1)); exact rfl; exact rfl; exact rfl; intro b1) | (refine zsp ?_ ?_ <;> (intro hc; (try simp only [zhcs, reduceCtorEq] at hc); (try (exfalso; first | contradiction | omega | exact absurd rfl hc | exact absurd (by decide) hc))))))
  all_goals ((with_reducible apply At.retB1 (B := [])); exact rfl; exact rfl; exact zml; exact zkp; exact ⟨rfl, rfl, rfl⟩)
end Ra
end Go.Proofs.YtpdleggpmhlagaaDoor
/- What the laws of ratio ask first: answers that the document gives. -/
set_option linter.unusedSimpArgs false
set_option linter.unusedVariables false
set_option linter.unusedSectionVars false
set_option maxRecDepth 20000
set_option maxHeartbeats 4000000
namespace Go.Proofs.YtpdleggpmhlagaaDoor
open Go Go.J
attribute [local irreducible] At AtQ AtM AtM1 PR Ct Pu Rd Res.blk Res.own Res.ex RVs RV
namespace Ra
open Wide
theorem Pu.cast {P : Program} {f : FuncId} {a a' : Array Value} {V V' : Value} (h : Pu P f a V) (ha : a = a') (hV : V = V') : Pu P f a' V' := ha ▸ hV ▸ h
theorem Rd.cast {P : Program} {f : FuncId} {a a' : Array Value} {m : Mem} {A : List Res} {V V' : Value} (h : Rd P f a m A V) (ha : a = a') (hV : V = V') : Rd P f a' m A V' := ha ▸ hV ▸ h
abbrev ww (h l : Int) : Value := .agg #[.int .u64 h, .int .u64 l]
abbrev r4 (a b c d : Int) : Value := .agg #[.int .u64 a, .int .u64 b, .int .u64 c, .int .u64 d]
theorem ratio_lives {m : Mem} (hz : TZ m) (hT : Tab m) : Rd Tryd.prog 13 #[] m [] (.bool true) := by
  unfold Rd
  have o1 : Pu Tryd.prog 23 #[.int .u64 1] (ww 0 1) := Pu.cast (of_ 1 (by decide)) rfl (by kernel_rfl)
  have o2 : Pu Tryd.prog 23 #[.int .u64 2] (ww 0 2) := Pu.cast (of_ 2 (by decide)) rfl (by kernel_rfl)
  have o3 : Pu Tryd.prog 23 #[.int .u64 3] (ww 0 3) := Pu.cast (of_ 3 (by decide)) rfl (by kernel_rfl)
  have o6 : Pu Tryd.prog 23 #[.int .u64 6] (ww 0 6) := Pu.cast (of_ 6 (by decide)) rfl (by kernel_rfl)
  have o7 : Pu Tryd.prog 23 #[.int .u64 7] (ww 0 7) := Pu.cast (of_ 7 (by decide)) rfl (by kernel_rfl)
  have o12 : Pu Tryd.prog 23 #[.int .u64 12] (ww 0 12) := Pu.cast (of_ 12 (by decide)) rfl (by kernel_rfl)
  have o18 : Pu Tryd.prog 23 #[.int .u64 18] (ww 0 18) := Pu.cast (of_ 18 (by decide)) rfl (by kernel_rfl)
  have k1 : ∀ m' : Mem, m.le m' → Rd Tryd.prog 7 #[ww 0 12, ww 0 18] m' [] (.tuple #[r4 0 2 0 3, .int .i64 0]) := fun m' h => Rd.cast (reduce (hz.mono h) 12 18 (by decide) (by decide)) (by kernel_rfl) (by kernel_rfl)
  have k2 : ∀ m' : Mem, m.le m' → Rd Tryd.prog 7 #[ww 0 1, ww 0 0] m' [] (.tuple #[r4 0 0 0 0, .int .i64 1]) := fun m' h => Rd.cast (reduce (hz.mono h) 1 0 (by decide) (by decide)) (by kernel_rfl) (by kernel_rfl)
  have k3 : ∀ m' : Mem, m.le m' → Rd Tryd.prog 7 #[ww 0 0, ww 0 7] m' [] (.tuple #[r4 0 0 0 1, .int .i64 0]) := fun m' h => Rd.cast (reduce (hz.mono h) 0 7 (by decide) (by decide)) (by kernel_rfl) (by kernel_rfl)
  have k4 : ∀ m' : Mem, m.le m' → Rd Tryd.prog 9 #[ww 0 3, .int .u64 1500] m' [] (.tuple #[r4 0 2 0 1, .int .i64 0]) := fun m' h => Rd.cast (rate (hz.mono h) 3 1500 (by decide) (by decide)) (by kernel_rfl) (by kernel_rfl)
  have k5 : ∀ m' : Mem, m.le m' → Rd Tryd.prog 9 #[ww 0 3, .int .u64 0] m' [] (.tuple #[r4 0 0 0 0, .int .i64 12]) := fun m' h => Rd.cast (rate (hz.mono h) 3 0 (by decide) (by decide)) (by kernel_rfl) (by kernel_rfl)
  have k6 : ∀ m' : Mem, m.le m' → Rd Tryd.prog 20 #[r4 0 2 0 1, r4 0 2 0 3] m' [] (.tuple #[.bool false, .int .i64 0]) := fun m' h => Rd.cast (lessT (hz.mono h) 2 1 2 3 (by decide) (by decide) (by decide) (by decide)) (by kernel_rfl) (by kernel_rfl)
  have k7 : Pu Tryd.prog 11 #[r4 0 7 0 2] (.tuple #[ww 0 3, .int .i64 0]) := Pu.cast (floor 7 2 (by decide) (by decide)) (by kernel_rfl) (by kernel_rfl)
  have k8 : ∀ m' : Mem, m.le m' → Rd Tryd.prog 18 #[r4 0 2 0 3] m' [] (.string (str [50, 47, 51])) := fun m' h => Rd.cast (text (hT.mono h) 2 3 (by decide) (by decide)) (by kernel_rfl) (by rw [show dd 2 ++ [47] ++ dd 3 = [50, 47, 51] by decide +kernel])
  have k9 : ∀ m' : Mem, m.le m' → Rd Tryd.prog 16 #[r4 0 2 0 3] m' [] (.int .i64 0) := fun m' h => Rd.cast (check (hz.mono h) 2 3 (by decide) (by decide)) (by kernel_rfl) (by kernel_rfl)
  have ka : ∀ m' : Mem, m.le m' → Rd Tryd.prog 16 #[r4 0 0 0 0] m' [] (.int .i64 2) := fun m' h => Rd.cast (check (hz.mono h) 0 0 (by decide) (by decide)) (by kernel_rfl) (by kernel_rfl)
  have kb : ∀ m' : Mem, m.le m' → Rd Tryd.prog 14 #[ww 0 12, ww 0 18] m' [] (ww 0 6) := fun m' h => Rd.cast (gcd (hz.mono h) 12 18 (by decide) (by decide)) (by kernel_rfl) (by kernel_rfl)
  refine Ct.enterV (by rfl) Tryd.func13 rfl Tryd.ntmps13 rfl (fun w0 Rest => ?_)
  (repeat' (first | refine zss ?_ | ((first | (with_reducible first | apply At.val | apply AtQ.val)); (exact zprA); exact rfl) | refine zs0 ?_ | ((with_reducible first | apply AtM1.callp | apply AtQ.callp | apply At.callp); kernel_rfl; exact rfl; exact rfl; exact o1) | ((with_reducible first | apply AtM1.callp | apply AtQ.callp | apply At.callp); kernel_rfl; exact rfl; exact rfl; exact o2) | ((with_reducible first | apply AtM1.callp | apply AtQ.callp | apply At.callp); kernel_rfl; exact rfl; exact rfl; exact o3) | ((with_reducible first | apply AtM1.callp | apply AtQ.callp | apply At.callp); kernel_rfl; exact rfl; exact rfl; exact o6) | ((with_reducible first | apply AtM1.callp | apply AtQ.callp | apply At.callp); kernel_rfl; exact rfl; exact rfl; exact o7) | ((with_reducible first | apply AtM1.callp | apply AtQ.callp | apply At.callp); kernel_rfl; exact rfl; exact rfl; exact o12) | ((with_reducible first | apply AtM1.callp | apply AtQ.callp | apply At.callp); kernel_rfl; exact rfl; exact rfl; exact o18) | ((with_reducible first | apply AtM1.cr | apply AtQ.cr | apply At.cr); exact rfl; exact rfl; exact fun _ hmm => k1 _ hmm; exact ztk; kernel_rfl) | ((with_reducible first | apply AtM1.cr | apply AtQ.cr | apply At.cr); exact rfl; exact rfl; exact fun _ hmm => k2 _ hmm; exact ztk; kernel_rfl) | ((with_reducible first | apply AtM1.cr | apply AtQ.cr | apply At.cr); exact rfl; exact rfl; exact fun _ hmm => k3 _ hmm; exact ztk; kernel_rfl) | ((with_reducible first | apply AtM1.cr | apply AtQ.cr | apply At.cr); exact rfl; exact rfl; exact fun _ hmm => k4 _ hmm; exact ztk; kernel_rfl) | ((with_reducible first | apply AtM1.cr | apply AtQ.cr | apply At.cr); exact rfl; exact rfl; exact fun _ hmm => k5 _ hmm; exact ztk; kernel_rfl) | ((with_reducible first | apply AtM1.cr | apply AtQ.cr | apply At.cr); exact rfl; exact rfl; exact fun _ hmm => k6 _ hmm; exact ztk; kernel_rfl) | ((with_reducible first | apply AtM1.callp | apply AtQ.callp | apply At.callp); kernel_rfl; exact rfl; exact rfl; exact k7) | ((with_reducible first | apply AtM1.cr | apply AtQ.cr | apply At.cr); exact rfl; exact rfl; exact fun _ hmm => k8 _ hmm; exact ztk; kernel_rfl) | ((with_reducible first | apply AtM1.cr | apply AtQ.cr | apply At.cr); exact rfl; exact rfl; exact fun _ hmm => k9 _ hmm; exact ztk; kernel_rfl) | ((with_reducible first | apply AtM1.cr | apply AtQ.cr | apply At.cr); exact rfl; exact rfl; exact fun _ hmm => ka _ hmm; exact ztk; kernel_rfl) | ((with_reducible first | apply AtM1.cr | apply AtQ.cr | apply At.cr); exact rfl; exact rfl; exact fun _ hmm => kb _ hmm; exact ztk; kernel_rfl) | ((with_reducible apply At.alloc (d := 1)); exact rfl; exact rfl; intro b1) | ((with_reducible apply At.alloc (d := 3)); exact rfl; exact rfl; intro b3) | ((with_reducible apply At.alloc (d := 5)); exact rfl; exact rfl; intro b5) | ((with_reducible apply At.alloc (d := 7)); exact rfl; exact rfl; intro b7) | ((with_reducible apply At.alloc (d := 9)); exact rfl; exact rfl; intro b9) | ((with_reducible apply At.alloc (d := 13)); exact rfl; exact rfl; intro b13) | (refine zsp ?_ ?_ <;> (intro hc; (try simp only [zhcs, reduceCtorEq] at hc); (try (exfalso; first | (first | omega | exact absurd rfl hc | exact absurd hc (by decide)) | contradiction | omega | exact absurd rfl hc | exact absurd (by decide) hc))))))
  all_goals ((with_reducible apply At.retB1 (B := [])); exact rfl; exact rfl; exact zml; exact zkp; exact ⟨rfl, rfl, rfl⟩)
end Ra
end Go.Proofs.YtpdleggpmhlagaaDoor
/- From a contract to a law's row: what a law's call leaves of memory. -/
set_option linter.unusedSimpArgs false
set_option linter.unusedVariables false
set_option linter.unusedSectionVars false
set_option maxRecDepth 20000
namespace Go.J
open Go Go.ChangeShapes Go.WideShapes Go.ChangeAt Go.RowKit

def memOf (W : World) : Mem := fun k => W.heap[k]?

theorem HW.init (W : World) : HW W (memOf W) [] W :=
  ⟨rfl, rfl, rfl, Nat.le_refl _, fun _ _ h => h, fun _ => False, fun _ h => h, fun _ h => h.elim⟩

theorem HW.below {W w' : World} {m' : Mem} {Rs : List Res} (h : HW W m' Rs w') (hm : (memOf W).le m') : Below W.heap.size W w' :=
  ⟨h.os, h.tape, h.output, h.size, fun k hk => by
    have hk' : W.heap[k]? = some W.heap[k] := Array.getElem?_eq_getElem hk
    rw [hk']
    exact h.mem k _ (hm k _ hk')⟩

theorem law_calls {P : Program} {f : FuncId} {args : Array Value} {W : World} (h : Ct P f args (memOf W) [] (fun v _ _ => v = .bool true)) :
    Calls P f args W fun e W' => e = .returned (.bool true) ∧ Below W.heap.size W W' :=
  (h W [] W (HW.init W)).mono fun _ _ ⟨_, _, _, he, hm, hv, hw⟩ => ⟨by rw [he, hv], hw.below hm⟩

theorem law_calls_pu {P : Program} {f : FuncId} {args : Array Value} {W : World} (h : Pu P f args (.bool true)) :
    Calls P f args W fun e W' => e = .returned (.bool true) ∧ Below W.heap.size W W' :=
  law_calls ((h (memOf W)).mono fun _ _ _ _ ⟨hv, _, _⟩ => hv)

/-- the arguments read as they did -/
theorem trodAll_below {H : Type} {enc : TypeId × Value → H} {P : Program} (hl : laidOutB P = true) {W W' : World} (hb : Below W.heap.size W W') :
    ∀ (ts : List TypeId) (vs : List Value) (ds : List (DataW H)) (ps : List MemPlace), (ts.all fun t => P.readableRec t && decide (t < P.types.size)) = true →
      DataW.TrodAll enc P W 0 (fun _ => true) true ts vs ds ps → (∀ x ∈ ps, x.block < W.heap.size) → DataW.TrodAll enc P W' 0 (fun b => decide (b < W.heap.size)) true ts vs ds ps
  | [], vs, ds, ps, _, h, _ => by
    obtain ⟨rfl, rfl, rfl⟩ := trodAll_nil h
    exact trodAll_mk0
  | t :: ts, vs, ds, ps, hr, h, hlt => by
    obtain ⟨v, vs', d, ds', p, q, rfl, rfl, rfl, h0, h1⟩ := trodAll_cons h
    simp only [List.all_cons, Bool.and_eq_true, decide_eq_true_eq] at hr
    exact trodAll_cons_mk (Below.trod hl hr.1.1 hr.1.2 h0 hb (fun x hx => hlt x (by simp [hx]))) (trodAll_below hl hb ts vs' ds' q hr.2 h1 (fun x hx => hlt x (by simp [hx])))

end Go.J
/- A law's slices: opened into lists. -/
set_option linter.unusedSimpArgs false
set_option linter.unusedVariables false
set_option linter.unusedSectionVars false
set_option maxRecDepth 20000
namespace Go.J
open Go Go.ChangeShapes Go.WideShapes Go.ChangeAt Go.RowKit

theorem cell_cells {w : World} {a : Addr} {v : Value} (h : w.cell? a = some v) : a.spot = none ∧ ∃ E cs fz, w.heap[a.block]? = some (.cells cs E fz) ∧ cs[a.off]? = some v := by
  unfold World.cell? at h
  cases hb : w.heap[a.block]? with
  | none => rw [hb] at h; cases h
  | some o =>
    rw [hb] at h
    cases o <;> simp at h
    rename_i cs E fz
    exact ⟨by
      cases hs : a.spot with
      | none => rfl
      | some x => rw [hs] at h; simp at h, E, cs, fz, rfl, h.2⟩

theorem open_sl {α : Type} [Inhabited α] {f : α → List Value} {sz : Nat} (hf : Fl f sz) (φ : α → Prop) {H : Type} {enc : TypeId × Value → H} {P : Program} {W : World} {t e : TypeId} {fuel : Nat} {cs : List Value} {x : DataW H × List MemPlace}
    (ht : P.underlying t = some (.slice e)) (hc : P.cellsOf e = sz)
    (hdec : ∀ n cs' y, cs'.length = sz → DataW.trod enc P W 0 (fun _ => true) true n e cs' = some y → ∃ a, cs' = f a ∧ φ a)
    (h : DataW.trod enc P W 0 (fun _ => true) true fuel t cs = some x) : ∃ p c l, cs = [.slice p l.length c] ∧ Sl (memOf W) f sz p c l ∧ ∀ a ∈ l, φ a := by
  rcases Go.Deep.open_slice ht h with ⟨rfl, _⟩ | ⟨a, len, cap, m, n, D, Pl, rfl, _, hl, hm, hmm, _, hx⟩
  · exact ⟨none, 0, [], rfl, Sl.empty _ hf, fun a ha => by cases ha⟩
  · simp only [if_true] at hmm
    subst hmm
    obtain ⟨A, hA⟩ := Go.Deep.choose_lt (α := α) (n := m) (p := fun i y => W.cells? 0 (a.add (i * sz)) sz = some (f y) ∧ φ y) (fun i hi => by
      obtain ⟨cs', h1, h2⟩ := hx i hi
      rw [hc] at h1
      obtain ⟨_, hlen, _⟩ := World.cells?_some h1
      obtain ⟨y, rfl, hy⟩ := hdec n cs' _ hlen h2
      exact ⟨y, h1, hy⟩)
    have hll : ((List.range len).map A).length = len := by simp
    refine ⟨some a, m, (List.range len).map A, by rw [hll], ⟨hf, by rw [hll]; exact hl, hm, (fun e => by cases e), fun a' ha' hpos => ?_⟩, fun y hy => ?_⟩
    · cases ha'
      have hsz := hf.pos
      have hcell : ∀ i j, i < m → j < sz → W.cell? ((a.add (i * sz)).add j) = (f (A i))[j]? := fun i j hi hj => (World.cells?_some (hA i hi).1).2.2 j hj
      have hlen : ∀ i j, j < sz → ∃ v, (f (A i))[j]? = some v := fun i j hj => ⟨(f (A i))[j]'(by rw [hf.len]; exact hj), List.getElem?_eq_getElem _⟩
      obtain ⟨v0, hv0⟩ := hlen 0 0 hsz
      have h00 := hcell 0 0 hpos hsz
      rw [hv0] at h00
      have e0 : (a.add (0 * sz)).add 0 = a := by simp [Addr.add]
      rw [e0] at h00
      obtain ⟨hspot, E, cs, fz, hb, _⟩ := cell_cells h00
      have ea : ∀ k, a.add k = ⟨a.block, a.off + k, none⟩ := fun k => by cases a; simp only at hspot; subst hspot; exact Addr.add_eq _ _ _
      have hcell' : ∀ i j, i < m → j < sz → cs[a.off + (i * sz + j)]? = (f (A i))[j]? := fun i j hi hj => by
        have := hcell i j hi hj
        rw [ea, Addr.add_eq, World.cell_of hb] at this
        rw [← this, Nat.add_assoc]
      refine ⟨hspot, E, cs, fz, hb, ?_, fun i j hi hj => ?_⟩
      · obtain ⟨v, hv⟩ := hlen (m - 1) (sz - 1) (by omega)
        have h1 := hcell' (m - 1) (sz - 1) (by omega) (by omega)
        rw [hv] at h1
        have h2 := (Array.getElem?_eq_some_iff.1 h1).1
        have h3 : (m - 1) * sz + sz = m * sz := by
          have := Nat.succ_mul (m - 1) sz
          rw [show (m - 1).succ = m by omega] at this; omega
        omega
      · rw [hll] at hi
        rw [hcell' i j (by omega) hj]
        congr 2
        rw [List.getElem!_eq_getElem?_getD]; simp [hi]
    · obtain ⟨i, hi, rfl⟩ := List.mem_map.1 hy
      exact (hA i (by have := List.mem_range.1 hi; omega)).2

/-- a law's argument that is a slice -/
theorem open_sl_arg {α : Type} [Inhabited α] {f : α → List Value} {sz : Nat} (hf : Fl f sz) (φ : α → Prop) {H : Type} {enc : TypeId × Value → H} {P : Program} {W : World} {t e : TypeId} {v : Value} {d : DataW H} {ps : List MemPlace}
    (ht : P.underlying t = some (.slice e)) (hc : P.cellsOf e = sz)
    (hdec : ∀ n cs' y, cs'.length = sz → DataW.trod enc P W 0 (fun _ => true) true n e cs' = some y → ∃ a, cs' = f a ∧ φ a)
    (hsl : ∃ p l c, v = .slice p l c) (h : DataW.Trod enc P W 0 (fun _ => true) true t v d ps) : ∃ p c l, v = .slice p l.length c ∧ Sl (memOf W) f sz p c l ∧ ∀ a ∈ l, φ a := by
  obtain ⟨fuel, hfl⟩ := h
  obtain ⟨p0, l0, c0, rfl⟩ := hsl
  obtain ⟨p, c, l, h1, h2⟩ := open_sl hf φ ht hc hdec hfl
  refine ⟨p, c, l, ?_, h2⟩
  simpa [Value.cells] using h1

theorem dec_int {H : Type} {enc : TypeId × Value → H} {P : Program} {W : World} {e : TypeId} {k : IntKind} (he : P.underlying e = some (.int k)) : ∀ n cs' y, cs'.length = 1 → DataW.trod enc P W 0 (fun _ => true) true n e cs' = some y → ∃ a : Int, cs' = [.int k a] ∧ (Lit.int k a).wf = true := fun n cs' y _ h => by
  obtain ⟨a, h1, _, h3⟩ := DataW.trod_int he h
  exact ⟨a, h1, h3⟩
end Go.J
/- A law's arguments of any plain make: structs of whole numbers, truth values, texts, and slices, opened into their cells. -/
set_option linter.unusedSimpArgs false
set_option linter.unusedVariables false
set_option linter.unusedSectionVars false
set_option maxRecDepth 20000
namespace Go.J
open Go Go.ChangeShapes Go.WideShapes Go.ChangeAt Go.RowKit

inductive LK
  | int (k : IntKind)
  | bool
  | str
  | sl (t : TypeId)

section
variable {H : Type} {enc : TypeId × Value → H} {P : Program} {W : World}

def Fit1 (enc : TypeId × Value → H) (P : Program) (W : World) : LK → Value → Prop
  | .int k, v => ∃ a, v = .int k a ∧ (Lit.int k a).wf = true
  | .bool, v => ∃ b, v = .bool b
  | .str, v => ∃ l, v = .string (str l) ∧ l.length ≤ maxLen
  | .sl t, v => ∃ n y, DataW.trod enc P W 0 (fun _ => true) true n t [v] = some y
def Fit (enc : TypeId × Value → H) (P : Program) (W : World) : List LK → List Value → Prop
  | [], [] => True
  | k :: ks, v :: vs => Fit1 enc P W k v ∧ Fit enc P W ks vs
  | _, _ => False
theorem Fit.append : ∀ {a b : List LK} {x y : List Value}, Fit enc P W a x → Fit enc P W b y → Fit enc P W (a ++ b) (x ++ y)
  | [], _, [], _, _, h => h
  | _ :: _, _, _ :: _, _, ⟨h1, h2⟩, h => ⟨h1, Fit.append h2 h⟩
  | [], _, _ :: _, _, h, _ => h.elim
  | _ :: _, _, [], _, h, _ => h.elim

theorem Fit.cons {k : LK} {ks : List LK} {cs : List Value} (h : Fit enc P W (k :: ks) cs) : ∃ v vs, cs = v :: vs ∧ Fit1 enc P W k v ∧ Fit enc P W ks vs := by
  cases cs with
  | nil => exact h.elim
  | cons v vs => exact ⟨v, vs, rfl, h.1, h.2⟩
theorem Fit.nil {cs : List Value} (h : Fit enc P W [] cs) : cs = [] := by
  cases cs with
  | nil => rfl
  | cons v vs => exact h.elim
theorem Fit1.int {k : IntKind} {v : Value} (h : Fit1 enc P W (.int k) v) : ∃ a, v = .int k a ∧ (Lit.int k a).wf = true := h
theorem Fit1.bool {v : Value} (h : Fit1 enc P W .bool v) : ∃ b, v = .bool b := h
theorem Fit1.str {v : Value} (h : Fit1 enc P W .str v) : ∃ l, v = .string (J.str l) ∧ l.length ≤ maxLen := h

def leavesF (P : Program) (rec : TypeId → Option (List LK)) (total : Nat) : Nat → List Field → Option (List LK)
  | off, [] => match Nat.beq off total with
    | true => some []
    | false => none
  | off, f :: fs => match Nat.beq f.offset off with
    | true => match rec f.type with
      | some a => match leavesF P rec total (off + P.cellsOf f.type) fs with
        | some b => some (a ++ b)
        | none => none
      | none => none
    | false => none
def leavesB (P : Program) : Nat → TypeId → Option (List LK)
  | 0, _ => none
  | d + 1, t => match P.underlying t with
    | some (.int k) => some [.int k]
    | some .bool => some [.bool]
    | some .string => some [.str]
    | some (.slice _) => some [.sl t]
    | some (.struct fs) => leavesF P (leavesB P d) (P.cellsOf t) 0 fs.toList
    | some (.array n e) => match leavesB P d e with
      | some a => match Nat.beq (P.cellsOf t) (n * P.cellsOf e) with
        | true => some (List.replicate n a).flatten
        | false => none
      | none => none
    | _ => none

theorem trod_bool' {t : TypeId} {n : Nat} {cs : List Value} {x : DataW H × List MemPlace} (ht : P.underlying t = some .bool) (h : DataW.trod enc P W 0 (fun _ => true) true n t cs = some x) : ∃ b, cs = [.bool b] := by
  cases n with
  | zero => simp [DataW.trod] at h
  | succ n =>
    unfold DataW.trod at h
    rw [ht] at h
    split at h <;> simp_all

theorem trod_fit : ∀ (d n : Nat) (t : TypeId) (cs : List Value) (x : DataW H × List MemPlace) (ks : List LK), leavesB P d t = some ks → DataW.trod enc P W 0 (fun _ => true) true n t cs = some x → Fit enc P W ks cs
  | 0, _, _, _, _, _, h, _ => by cases h
  | d + 1, n, t, cs, x, ks, h, hx => by
    have ih := trod_fit d
    unfold leavesB at h
    cases hu : P.underlying t with
    | none => rw [hu] at h; cases h
    | some u =>
      rw [hu] at h
      cases u <;> simp only at h <;> try (cases h; done)
      case int k =>
        cases h
        obtain ⟨a, rfl, _, h3⟩ := DataW.trod_int hu hx
        exact ⟨⟨a, rfl, h3⟩, trivial⟩
      case bool =>
        cases h
        obtain ⟨b, rfl⟩ := trod_bool' hu hx
        exact ⟨⟨b, rfl⟩, trivial⟩
      case string =>
        cases h
        obtain ⟨s, rfl, _, h3⟩ := DataW.trod_string hu hx
        obtain ⟨l, rfl⟩ := str_of s
        exact ⟨⟨l, rfl, by rw [str_size] at h3; exact h3⟩, trivial⟩
      case slice e =>
        cases h
        have : ∃ v, cs = [v] := by
          rcases DataW.trod_slice hu hx with ⟨rfl, _⟩ | ⟨a, len, cap, _, _, _, _, rfl, _⟩
          · exact ⟨_, rfl⟩
          · exact ⟨_, rfl⟩
        obtain ⟨v, rfl⟩ := this
        exact ⟨⟨n, x, hx⟩, trivial⟩
      case array k e =>
        cases h1 : leavesB P d e with
        | none => rw [h1] at h; cases h
        | some a =>
          rw [h1] at h
          simp only at h
          cases hb : Nat.beq (P.cellsOf t) (k * P.cellsOf e) with
          | false => rw [hb] at h; cases h
          | true =>
            rw [hb] at h
            cases h
            have hl0 := Nat.eq_of_beq_eq_true hb
            obtain ⟨xs, m, _, _, hlen, hxl, hf⟩ := DataW.trod_array hu hx
            have key : ∀ i, i ≤ k → Fit enc P W ((List.replicate i a).flatten) (cs.drop ((k - i) * P.cellsOf e)) := by
              intro i
              induction i with
              | zero =>
                intro _
                rw [List.drop_eq_nil_of_le (by rw [hlen, hl0, Nat.sub_zero]; exact Nat.le_refl _)]
                trivial
              | succ i ih2 =>
                intro hi
                have e1 := hf (k - (i + 1)) (by omega)
                have hj : k - (i + 1) < xs.length := by omega
                rw [List.getElem?_eq_getElem hj] at e1
                have g1 := ih m e _ _ a h1 e1
                have g2 := ih2 (by omega)
                have e2 : (k - (i + 1)) * P.cellsOf e + P.cellsOf e = (k - i) * P.cellsOf e := by rw [← Nat.succ_mul]; congr 1; omega
                rw [List.replicate_succ, List.flatten_cons, show cs.drop ((k - (i + 1)) * P.cellsOf e) = (cs.drop ((k - (i + 1)) * P.cellsOf e)).take (P.cellsOf e) ++ cs.drop ((k - i) * P.cellsOf e) by
                  rw [← e2, ← List.drop_drop, List.take_append_drop]]
                exact Fit.append g1 g2
            have := key k (Nat.le_refl _)
            simpa using this
      case struct fs =>
        obtain ⟨xs, n', _, _, hlen, hxs, hf⟩ := DataW.trod_struct hu hx
        have hf' : ∀ f ∈ fs.toList, ∃ y, DataW.trod enc P W 0 (fun _ => true) true n' f.type ((cs.drop f.offset).take (P.cellsOf f.type)) = some y := fun f hm => by
          obtain ⟨i, hi, he⟩ := List.mem_iff_getElem.1 hm
          have hi' : i < fs.size := by simpa using hi
          have h1 : fs[i]? = some f := by
            rw [Array.getElem?_eq_getElem hi']
            congr 1
          exact ⟨xs[i], by rw [hf i f h1, List.getElem?_eq_getElem]⟩
        have key : ∀ (l : List Field) (off : Nat) (ks : List LK), (∀ f ∈ l, ∃ y, DataW.trod enc P W 0 (fun _ => true) true n' f.type ((cs.drop f.offset).take (P.cellsOf f.type)) = some y) →
            leavesF P (leavesB P d) (P.cellsOf t) off l = some ks → Fit enc P W ks (cs.drop off) := by
          intro l
          induction l with
          | nil =>
            intro off ks _ h
            unfold leavesF at h
            cases hb : Nat.beq off (P.cellsOf t) with
            | false => rw [hb] at h; cases h
            | true =>
              rw [hb] at h
              cases h
              have := Nat.eq_of_beq_eq_true hb
              rw [List.drop_eq_nil_of_le (by omega)]
              trivial
          | cons f l ihl =>
            intro off ks hl h
            unfold leavesF at h
            cases hb : Nat.beq f.offset off with
            | false => rw [hb] at h; cases h
            | true =>
              rw [hb] at h
              simp only at h
              have hoff := Nat.eq_of_beq_eq_true hb
              cases h1 : leavesB P d f.type with
              | none => rw [h1] at h; cases h
              | some a =>
                rw [h1] at h
                simp only at h
                cases h2 : leavesF P (leavesB P d) (P.cellsOf t) (off + P.cellsOf f.type) l with
                | none => rw [h2] at h; cases h
                | some b =>
                  rw [h2] at h
                  cases h
                  obtain ⟨y, hy⟩ := hl f (List.mem_cons_self ..)
                  rw [hoff] at hy
                  have g1 := ih n' f.type _ y a h1 hy
                  have g2 := ihl (off + P.cellsOf f.type) b (fun g hg => hl g (List.mem_cons_of_mem _ hg)) h2
                  rw [show cs.drop off = (cs.drop off).take (P.cellsOf f.type) ++ cs.drop (off + P.cellsOf f.type) by
                    rw [← List.drop_drop, List.take_append_drop]]
                  exact Fit.append g1 g2
        have := key fs.toList 0 ks hf' h
        simpa using this

/-- an element of a slice, by its leaves -/
theorem dec_flat {α : Type} {f : α → List Value} {φ : α → Prop} {e : TypeId} (ks : List LK) (hk : leavesB P 6 e = some ks) (h : ∀ cs, Fit enc P W ks cs → ∃ a, cs = f a ∧ φ a) :
    ∀ n cs' y, cs'.length = P.cellsOf e → DataW.trod enc P W 0 (fun _ => true) true n e cs' = some y → ∃ a, cs' = f a ∧ φ a := fun n cs' y _ hy =>
  h cs' (trod_fit 6 n e cs' y ks hk hy)
theorem dec_flat' {α : Type} {f : α → List Value} {φ : α → Prop} {e : TypeId} {sz : Nat} (ks : List LK) (hk : leavesB P 6 e = some ks) (h : ∀ cs, Fit enc P W ks cs → ∃ a, cs = f a ∧ φ a) :
    ∀ n cs' y, cs'.length = sz → DataW.trod enc P W 0 (fun _ => true) true n e cs' = some y → ∃ a, cs' = f a ∧ φ a := fun n cs' y _ hy =>
  h cs' (trod_fit 6 n e cs' y ks hk hy)
/-- an argument that is a struct -/
theorem open_flat_arg {α : Type} {f : α → List Value} {φ : α → Prop} {t : TypeId} {fs : Array Field} {base : Nat} {v : Value} {d : DataW H} {ps : List MemPlace} (ks : List LK) (ht : P.underlying t = some (.struct fs)) (hk : leavesB P 6 t = some ks)
    (h : ∀ cs, Fit enc P W ks cs → ∃ a, cs = f a ∧ φ a) {r : Reach} (hv : Value.okWide P W r base t v) (hx : DataW.Trod enc P W 0 (fun _ => true) true t v d ps) : ∃ a, v = .agg (f a).toArray ∧ φ a := by
  obtain ⟨cs, rfl, _⟩ := okWide_struct ht hv
  obtain ⟨fuel, hfl⟩ := hx
  obtain ⟨a, h1, h2⟩ := h _ (trod_fit 6 fuel t _ _ ks hk hfl)
  refine ⟨a, ?_, h2⟩
  have : cs.toList = f a := by simpa [Value.cells] using h1
  rw [← this]
/-- a slice that is part of something -/
theorem Fit1.sl {α : Type} [Inhabited α] {f : α → List Value} {sz : Nat} (hf : Fl f sz) (φ : α → Prop) {t e : TypeId} {v : Value} (ht : P.underlying t = some (.slice e)) (hc : P.cellsOf e = sz)
    (hdec : ∀ n cs' y, cs'.length = sz → DataW.trod enc P W 0 (fun _ => true) true n e cs' = some y → ∃ a, cs' = f a ∧ φ a) (h : Fit1 enc P W (.sl t) v) : ∃ p c l, v = .slice p l.length c ∧ Sl (memOf W) f sz p c l ∧ ∀ a ∈ l, φ a := by
  obtain ⟨n, y, hy⟩ := h
  obtain ⟨p, c, l, h1, h2⟩ := open_sl hf φ ht hc hdec hy
  exact ⟨p, c, l, by simpa using h1, h2⟩
end
end Go.J
/- The arguments of the laws of ratio; what the listed variables read as. -/
set_option linter.unusedSimpArgs false
set_option linter.unusedVariables false
set_option linter.unusedSectionVars false
set_option maxRecDepth 20000
set_option maxHeartbeats 4000000
namespace Go.Proofs.YtpdleggpmhlagaaDoor
open Go Go.J
attribute [local irreducible] At AtQ AtM AtM1 PR Ct Pu Rd Res.blk Res.own Res.ex RVs RV
namespace Ra
open Wide
def In (x : Nat) : Prop := x < 340282366920938463463374607431768211456
def fd (p : Nat × Nat) : List Value := wd p.1 ++ wd p.2
def In2 (p : Nat × Nat) : Prop := In p.1 ∧ In p.2
theorem mk_wide {a b : Int} (wa : (Lit.int .u64 a).wf = true) (wb : (Lit.int .u64 b).wf = true) : ∃ x : Nat, [Value.int .u64 a, .int .u64 b] = wd x ∧ In x := by
  have ha := bounds_u64 wa
  have hb := bounds_u64 wb
  obtain ⟨x, hx⟩ : ∃ x : Nat, x = a.toNat * 18446744073709551616 + b.toNat := ⟨_, rfl⟩
  have e1 : ((x / 18446744073709551616 : Nat) : Int) = a := by omega
  have e2 : ((x % 18446744073709551616 : Nat) : Int) = b := by omega
  refine ⟨x, ?_, by unfold In; omega⟩
  unfold wd
  rw [e1, e2]
theorem dec_wide {H : Type} {enc : TypeId × Value → H} {P : Program} {W : World} : ∀ cs, Fit enc P W [.int .u64, .int .u64] cs → ∃ x : Nat, cs = wd x ∧ In x := by
  intro cs h
  obtain ⟨_, _, rfl, h1, h⟩ := h.cons
  obtain ⟨_, _, rfl, h2, h⟩ := h.cons
  obtain rfl := h.nil
  obtain ⟨a, rfl, wa⟩ := h1.int
  obtain ⟨b, rfl, wb⟩ := h2.int
  exact mk_wide wa wb
theorem dec_frac {H : Type} {enc : TypeId × Value → H} {P : Program} {W : World} : ∀ cs, Fit enc P W [.int .u64, .int .u64, .int .u64, .int .u64] cs → ∃ p : Nat × Nat, cs = fd p ∧ In2 p := by
  intro cs h
  obtain ⟨_, _, rfl, h1, h⟩ := h.cons
  obtain ⟨_, _, rfl, h2, h⟩ := h.cons
  obtain ⟨_, _, rfl, h3, h⟩ := h.cons
  obtain ⟨_, _, rfl, h4, h⟩ := h.cons
  obtain rfl := h.nil
  obtain ⟨a, rfl, wa⟩ := h1.int
  obtain ⟨b, rfl, wb⟩ := h2.int
  obtain ⟨c, rfl, wc⟩ := h3.int
  obtain ⟨d, rfl, wd'⟩ := h4.int
  obtain ⟨x, ex, hx⟩ := mk_wide wa wb
  obtain ⟨y, ey, hy⟩ := mk_wide wc wd'
  refine ⟨(x, y), ?_, hx, hy⟩
  unfold fd
  rw [← ex, ← ey]
  rfl
/-- what a variable reads as stays as memory grows -/
theorem var_up {W w : World} {name : String} {cs : Array Value} {g : Nat} (hg : Tryd.prog.globalNamed name = some g) (t : W.var? Tryd.prog name = some cs) (hw : ∀ k o, memOf W k = some o → w.heap[k]? = some o) : w.var? Tryd.prog name = some cs := by
  unfold World.var? at t ⊢
  rw [hg] at t ⊢
  rw [Option.bind_some] at t ⊢
  cases ho : W.heap[g]? with
  | none => rw [ho] at t; cases t
  | some o => rw [hw _ o ho]; rw [ho] at t; exact t
theorem tab_of {W : World} {l : List (String × DataW Unit)} (h : laidMetH Tryd.prog l W)
    (e : (l.filter fun x => x.1 == (Tryd.prog.globals[4]!).name) = [((Tryd.prog.globals[4]!).name, Lib.tabData .u64 Lib.pow10Tab)]) : Tab (memOf W) := by
  have h1 := h.filter (fun x => x.1 == (Tryd.prog.globals[4]!).name)
  rw [e, MakeChecks.laidMetH_plain _ _ _ (by kernel_rfl)] at h1
  have hg : Tryd.prog.globalNamed (Tryd.prog.globals[4]!).name = some 4 := by kernel_rfl
  have t := Lib.tabIs_of_head hg (by kernel_rfl) Tryd.underlying78 Tryd.underlying22 (by kernel_rfl) (by kernel_rfl) h1
  intro w hw
  exact var_up hg t hw
theorem tz_of {W : World} {l : List (String × DataW Unit)} (h : laidMetH Tryd.prog l W)
    (e : (l.filter fun x => x.1 == (Tryd.prog.globals[1]!).name) = [((Tryd.prog.globals[1]!).name, Lib.tabData .u8 (Lib.deBruijn64tab.map Int.ofNat))]) : TZ (memOf W) := by
  have h1 := h.filter (fun x => x.1 == (Tryd.prog.globals[1]!).name)
  rw [e, MakeChecks.laidMetH_plain _ _ _ (by kernel_rfl)] at h1
  have hg : Tryd.prog.globalNamed (Tryd.prog.globals[1]!).name = some 1 := by kernel_rfl
  have t := Lib.tabIs_of_head hg (by kernel_rfl) Tryd.underlying68 Tryd.underlying5 (by kernel_rfl) (by kernel_rfl) h1
  intro w hw j hj
  have t' : Lib.TabIs Tryd.prog w _ .u8 _ := var_up hg t hw
  rw [t'.cell hg j (by rw [List.length_map]; exact hj)]
  simp [List.getD, hj]
theorem one_of {W : World} {l : List (String × DataW Unit)} (h : laidMetH Tryd.prog l W)
    (e : (l.filter fun x => x.1 == (Tryd.prog.globals[0]!).name) = [((Tryd.prog.globals[0]!).name, .agg [.lit (.int .u64 0), .lit (.int .u64 1)])]) : One (memOf W) := by
  have h1 := h.filter (fun x => x.1 == (Tryd.prog.globals[0]!).name)
  rw [e, MakeChecks.laidMetH_plain _ _ _ (by kernel_rfl)] at h1
  have hg : Tryd.prog.globalNamed (Tryd.prog.globals[0]!).name = some 0 := by kernel_rfl
  have hty : (Tryd.prog.globals[0]?).map (·.type) = some 24 := by kernel_rfl
  obtain ⟨ps, ⟨g', t', cs, fuel, p, q, hg', ht', hvar, hd, _, _⟩, _⟩ := h1
  obtain rfl := Option.some.inj (hg.symm.trans hg')
  obtain rfl := Option.some.inj (hty.symm.trans ht')
  obtain ⟨y0, y1, n, e2, hl, h0, h2⟩ := Go.ChangeShapes.trod_struct2 Tryd.underlying24 hd
  obtain ⟨a, c0, r0, _⟩ := DataW.trod_int Tryd.underlying22 h0
  obtain ⟨b, c1, r1, _⟩ := DataW.trod_int Tryd.underlying22 h2
  rw [r0, r1] at e2
  have e3 := congrArg Prod.fst e2
  simp only [DataW.agg.injEq, List.cons.injEq, DataW.lit.injEq, Lit.int.injEq, true_and, and_true] at e3
  obtain ⟨rfl, rfl⟩ := e3
  have hl2 : cs.toList.length = 2 := hl.trans (by kernel_rfl)
  intro w hw j hj
  have hv := var_up hg hvar hw
  rw [World.var?_cell hg hv]
  have hz : Tryd.prog.cellsOf 22 = 1 := by kernel_rfl
  obtain ⟨x0, x1, hx⟩ : ∃ x0 x1, cs.toList = [x0, x1] := by
    generalize cs.toList = l at hl2
    match l, hl2 with
    | [x0, x1], _ => exact ⟨x0, x1, rfl⟩
  rw [hx] at c0 c1
  dsimp only at c0 c1
  rw [hz] at c0 c1
  have d0 : [x0] = [Value.int .u64 0] := c0
  have d1 : [x1] = [Value.int .u64 1] := c1
  injection d0 with d0
  injection d1 with d1
  have e5 : cs[j]? = [x0, x1][j]? := by rw [← hx, Array.getElem?_toList]
  rw [e5, d0, d1]
  rfl
end Ra
end Go.Proofs.YtpdleggpmhlagaaDoor
/- RatioTells: whatever two numbers and whatever while, the package and the document answer alike. Conditions: the library's tables and the document's one read as the row's cells say (the card ties them to the program's text). -/
set_option linter.unusedSimpArgs false
set_option linter.unusedVariables false
set_option linter.unusedSectionVars false
set_option maxRecDepth 20000
set_option maxHeartbeats 4000000
namespace Go.Proofs.YtpdleggpmhlagaaDoor
open Go Go.J
attribute [local irreducible] At AtQ AtM AtM1 PR Ct Pu Rd Res.blk Res.own Res.ex RVs RV
namespace Ra
open Wide
theorem tellsL {m : Mem} (hz : TZ m) (hT : Tab m) (h1 : One m) (x y : Nat) (n : Int) (hx : In x) (hy : In y) (hn : 0 ≤ n ∧ n ≤ 18446744073709551615) :
    Ct Tryd.prog 3 #[wv x, wv y, .int .u64 n] m [] (fun v m' B => v = .bool true ∧ B = []) := by
  obtain ⟨k, rfl⟩ : ∃ k : Nat, n = (k : Int) := ⟨n.toNat, by omega⟩
  unfold In at hx hy
  have hk : k < 18446744073709551616 := by omega
  have hl := fun (m' : Mem) (h : m.le m') => ratio_lives (hz.mono h) (hT.mono h)
  have a1 := fun (m' : Mem) (h : m.le m') => reduce (m := m') (hz.mono h) x y hx hy
  have a2 := fun (m' : Mem) (h : m.le m') => rate (m := m') (hz.mono h) x k hx hk
  have a3 := floor x y hx hy
  have a4 := fun (m' : Mem) (h : m.le m') => gcd (m := m') (hz.mono h) x y hx hy
  have a5 := fun (m' : Mem) (h : m.le m') => check (m := m') (hz.mono h) x y hx hy
  have a6 := fun (m' : Mem) (h : m.le m') => text (m := m') (hT.mono h) x y hx hy
  have c1 := reduce_r whole_r x y hx hy
  have c2 := rate_r whole_r x k hx hk
  have c3 := floor_r whole_r x y hx hy
  have c4 := gcd_r whole_r x y hx hy
  have c5 := fun (m' : Mem) (h : m.le m') => check_r (m := m') (h1.mono h) x y hx hy
  have c6 := textR x y hx hy
  clear hx hy hn
  refine Ct.enterV (by rfl) Tryd.func3 rfl Tryd.ntmps3 rfl (fun w0 Rest => ?_)
  (repeat' (first | refine zss ?_ | ((first | (with_reducible first | apply At.val | apply AtQ.val)); (exact zprA); exact rfl) | refine zs0 ?_ | ((with_reducible first | apply AtM1.cr | apply AtQ.cr | apply At.cr); exact rfl; exact rfl; exact fun _ hmm => hl _ hmm; exact ztk; kernel_rfl) | ((with_reducible first | apply AtM1.cr | apply AtQ.cr | apply At.cr); exact rfl; exact rfl; exact fun _ hmm => a1 _ hmm; exact ztk; kernel_rfl) | ((with_reducible first | apply AtM1.cr | apply AtQ.cr | apply At.cr); exact rfl; exact rfl; exact fun _ hmm => a2 _ hmm; exact ztk; kernel_rfl) | ((with_reducible first | apply AtM1.callp | apply AtQ.callp | apply At.callp); kernel_rfl; exact rfl; exact rfl; exact a3) | ((with_reducible first | apply AtM1.cr | apply AtQ.cr | apply At.cr); exact rfl; exact rfl; exact fun _ hmm => a4 _ hmm; exact ztk; kernel_rfl) | ((with_reducible first | apply AtM1.cr | apply AtQ.cr | apply At.cr); exact rfl; exact rfl; exact fun _ hmm => a5 _ hmm; exact ztk; kernel_rfl) | ((with_reducible first | apply AtM1.cr | apply AtQ.cr | apply At.cr); exact rfl; exact rfl; exact fun _ hmm => a6 _ hmm; exact ztk; kernel_rfl) | ((with_reducible first | apply AtM1.callp | apply AtQ.callp | apply At.callp); kernel_rfl; exact rfl; exact rfl; exact c1) | ((with_reducible first | apply AtM1.callp | apply AtQ.callp | apply At.callp); kernel_rfl; exact rfl; exact rfl; exact c2) | ((with_reducible first | apply AtM1.callp | apply AtQ.callp | apply At.callp); kernel_rfl; exact rfl; exact rfl; exact c3) | ((with_reducible first | apply AtM1.callp | apply AtQ.callp | apply At.callp); kernel_rfl; exact rfl; exact rfl; exact c4) | ((with_reducible first | apply AtM1.cr | apply AtQ.cr | apply At.cr); exact rfl; exact rfl; exact fun _ hmm => c5 _ hmm; exact ztk; kernel_rfl) | ((with_reducible first | apply AtM1.callp | apply AtQ.callp | apply At.callp); kernel_rfl; exact rfl; exact rfl; exact c6) | ((with_reducible apply At.box (d := 3)); exact rfl; exact rfl; exact rfl; intro b3) | ((with_reducible apply At.box (d := 4)); exact rfl; exact rfl; exact rfl; intro b4) | ((with_reducible apply At.alloc (d := 7)); exact rfl; exact rfl; intro b7) | ((with_reducible apply At.alloc (d := 9)); exact rfl; exact rfl; intro b9) | ((with_reducible apply At.alloc (d := 11)); exact rfl; exact rfl; intro b11) | ((with_reducible apply At.alloc (d := 13)); exact rfl; exact rfl; intro b13) | ((with_reducible apply At.alloc (d := 15)); exact rfl; exact rfl; intro b15) | ((with_reducible apply At.alloc (d := 16)); exact rfl; exact rfl; intro b16) | ((with_reducible apply At.alloc (d := 18)); exact rfl; exact rfl; intro b18) | (refine zsp ?_ ?_ <;> (intro hc; (try simp only [zhcs, reduceCtorEq] at hc); (try (exfalso; first | (first | omega | exact absurd rfl hc | exact hc rfl) | contradiction | omega | exact absurd rfl hc | exact absurd (by decide) hc))))))
  all_goals ((with_reducible apply At.retB1 (B := [])); exact rfl; exact rfl; exact zml; exact zkp; exact ⟨by first | rfl | simp [andL], rfl⟩)
end Ra
namespace RatioTellsCardL
open Go.ChangeShapes Go.WideShapes Go.ChangeAt Go.RowKit
open Go.ChangeMaps (open_string shut_string)
theorem own : ownKnob Tryd.prog.godebug = none := by kernel_rfl
theorem laidOut : laidOutB Tryd.prog = true := by kernel_rfl
set_option maxRecDepth 100000 in
theorem door_met (os : Os) (args : Array Value) : laidMetH Tryd.prog Rows.ratioTellsRow.laid ((World.doorLaid Tryd.prog 400 os).forCall (fun _ _ => 0) ⟨#[], args, []⟩).memory :=
  laidMetH_of_parts3 (fuel := 8) (laidMet_of_run' 8 (by kernel_rfl) (by kernel_rfl)) (by kernel_rfl) (by kernel_rfl)
set_option maxRecDepth 100000 in
theorem lifted (os : Os) (started : os.Started) (H : Type) (enc : TypeId × Value → H) :
    ReturnsInHanded {} Tryd.checked os 3 .any (fun w args => (Rows.ratioTellsSpec.pre enc Tryd.prog Tryd.f3 [] false w args ∧ laidMetH Tryd.prog Rows.ratioTellsRow.laid w) ∧ sizedMet enc Tryd.prog Tryd.f3 (OpenSpec.ofChange Rows.ratioTellsSpec) false w args)
      (Rows.ratioTellsSpec.post enc Tryd.prog Tryd.f3 false true false false) := by
  refine returnsInHanded_of_change_and (C := Tryd.checked) (X := fun w _ => laidMetH Tryd.prog Rows.ratioTellsRow.laid w) (fun _ _ _ hh h => h.of_heap hh) own started (by kernel_rfl) Tryd.func3
    (ChangeSpec.witness_shaped (enc := enc) (C := Tryd.checked) (os := os) (X := fun w _ => laidMetH Tryd.prog Rows.ratioTellsRow.laid w) false (World.doorLaid Tryd.prog 400 os) #[.agg #[.int .u64 0, .int .u64 0], .agg #[.int .u64 0, .int .u64 0], .int .u64 0] 8 rfl (World.shaped_of_RefB (by kernel_rfl) (by kernel_rfl)) (by kernel_rfl) (by kernel_rfl) (by kernel_rfl) (door_met os _)) ?_
  intro W base args ds gs before hval0 hW hcnd _ hL _
  have hval : ∀ (j : Nat) t v, Tryd.f3.params[j]? = some t → args[j]? = some v → Value.okWide Tryd.prog W .any base t v := hval0
  have hW' := hW
  obtain ⟨p, q, hA0, hV, rfl, hfz, hnd⟩ := hW
  have hA : DataW.TrodAll enc Tryd.prog W 0 (fun _ => true) true Tryd.f3.params.toList args.toList ds p := hA0
  rw [Tryd.params3] at hA hval
  obtain ⟨rfl, rfl⟩ := trodVars_none hV
  have hlt : ∀ x ∈ p, x.block < W.heap.size := fun x hx => hW'.lt x (by simpa using hx)
  have hback := fun (W' : World) (bel : Below W.heap.size W W') => trodAll_below laidOut bel _ _ _ _ (by kernel_rfl) hA hlt
  obtain ⟨v0, vs0, d0, ds0, p0, q0, hargs, rfl, rfl, h0, r0⟩ := trodAll_cons hA
  obtain ⟨v1, vs1, d1, ds1, p1, q1, rfl, rfl, rfl, h1, r1⟩ := trodAll_cons r0
  obtain ⟨v2, vs2, d2, ds2, p2, q2, rfl, rfl, rfl, h2, r2⟩ := trodAll_cons r1
  obtain ⟨rfl, rfl, rfl⟩ := trodAll_nil r2
  obtain rfl : args = #[v0, v1, v2] := by cases args; simp_all
  obtain ⟨a0, rfl, w0⟩ := open_flat_arg (f := Wide.wd) (φ := Ra.In) [.int .u64, .int .u64] Tryd.underlying24 (by kernel_rfl) Ra.dec_wide (hval 0 24 v0 rfl rfl) h0
  obtain ⟨a1, rfl, w1⟩ := open_flat_arg (f := Wide.wd) (φ := Ra.In) [.int .u64, .int .u64] Tryd.underlying24 (by kernel_rfl) Ra.dec_wide (hval 1 24 v1 rfl rfl) h1
  obtain ⟨a2, rfl, rfl, rfl, w2⟩ := open_int Tryd.underlying22 (hval 2 22 v2 rfl rfl) h2
  refine (law_calls (Ct.mono (Ra.tellsL (m := memOf W) (Ra.tz_of hL (by kernel_rfl)) (Ra.tab_of hL (by kernel_rfl)) (Ra.one_of hL (by kernel_rfl)) a0 a1 a2 w0 w1 (bounds_u64 w2)) fun v m' B _ h => h.1)).mono fun e W' ⟨he, bel⟩ => ?_
  subst he
  exact ⟨_, rfl, _, _, _, [], _, [], hW', trodAll_mk1 (shut_bool Tryd.underlying4 _), hback W' bel, rfl, bel.frame _, fun h => by cases h⟩
theorem over : Rows.ratioTellsRow.holds Tryd.pinned (OpenSpec.ofChange Rows.ratioTellsSpec) :=
  OpenClaim.holds_of_wide 3 Tryd.f3 rfl rfl rfl rfl rfl rfl rfl ⟨rfl, rfl, rfl, rfl, rfl⟩ rfl rfl rfl rfl rfl (by kernel_rfl) Tryd.func3 (by kernel_rfl)
    (of_decide_eq_true (by kernel_rfl)) (by unfold Func.isWrapper; first | (rw [if_pos (by decide +kernel)]; kernel_rfl) | (rw [if_neg (by decide +kernel)]; exact ⟨rfl, rfl⟩))
    (fun os started H enc _ => lifted os started H enc)
theorem proved : Rows.RatioTellsCardSaid :=
  Claim7.holds_tied_plain_at .later [] Rows.ratioTellsCard.laidKinds true Rows.ratioTellsCard.stood.harness Rows.ratioTellsCard.stood.looks
    over (fun _ h => by cases h) (by kernel_rfl) (fun _ h => by cases h) ratioTells_row_tie rfl ⟨rfl, rfl⟩ (by kernel_rfl) rfl
    (fun f fn hf hfn => by
      obtain rfl : f = 3 := Option.some.inj ((show Tryd.prog.funcNamed Tryd.f3.name = some 3 by kernel_rfl).symm.trans hf) |>.symm
      obtain rfl : fn = Tryd.f3 := (Option.some.inj (Tryd.func3.symm.trans hfn)).symm
      exact ⟨by kernel_rfl, fun j t ht => by
        rw [Tryd.params3] at ht
        have hm := Array.mem_of_getElem? ht
        have hall : ((Tryd.f3.params).all fun u => !Tryd.prog.wantsStandIn u) = true := by kernel_rfl
        rw [Tryd.params3] at hall
        exact (show Tryd.prog.wantsStandIn t = false by simpa using Array.all_eq_true'.1 hall t hm)⟩)
    (by kernel_rfl)
end RatioTellsCardL
end Go.Proofs.YtpdleggpmhlagaaDoor

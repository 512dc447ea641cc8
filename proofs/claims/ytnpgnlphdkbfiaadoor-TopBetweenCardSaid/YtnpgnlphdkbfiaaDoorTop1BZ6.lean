/- Part 6 of what the law's proof needs: rules of the walk, contracts of functions, plain laws. No condition. -/
import Derived.Test.YtnpgnlphdkbfiaaDoorTop1BZ5
import Derived.Lib.ItoaNum
import Derived.Test.YtnpgnlphdkbfiaaDoorRows
/- Ratios: the greatest common divisor, by halving. -/
set_option linter.unusedSimpArgs false
set_option linter.unusedVariables false
set_option linter.unusedSectionVars false
set_option maxRecDepth 20000
set_option maxHeartbeats 4000000
namespace Go.Proofs.YtnpgnlphdkbfiaaDoor
open Go Go.J
attribute [local irreducible] At AtQ AtM AtM1 PR Ct Pu Rd Res.blk Res.own Res.ex RVs RV
namespace Ra
open Wide
theorem pr_minN {n : Nat} {F : Fr} {C : World → Prop} {x y : Operand} {k : IntKind} {p q : Nat} {ts : Array TypeId} (hx : ev F x = some (.int k (p : Int))) (hy : ev F y = some (.int k (q : Int))) : PR Tryd.prog n F C (.call ⟨.builtin .min, #[x, y], ts⟩) (.int k ((min p q : Nat) : Int)) := by
  rw [show ((min p q : Nat) : Int) = min (p : Int) (q : Int) by omega]
  exact pr_minI hx hy
theorem or_zero' (a : Nat) (h : a < 18446744073709551616) : bits .or .u64 (a : Int) 0 = (a : Int) := by
  have := bits_or_u64_nat a 0 h (by decide)
  rw [Nat.or_zero] at this
  exact this
theorem zero_or' (a : Nat) (h : a < 18446744073709551616) : bits .or .u64 0 (a : Int) = (a : Int) := by
  have := bits_or_u64_nat 0 a (by decide) h
  rw [Nat.zero_or] at this
  exact this
structure GS where
  (a b : Nat)
theorem gcd {m : Mem} (ht : TZ m) (x y : Nat) (hx : x < 340282366920938463463374607431768211456) (hy : y < 340282366920938463463374607431768211456) : Rd Tryd.prog 28 #[wv x, wv y] m [] (wv (Nat.gcd x y)) := by
  unfold Rd
  have hxh : x / 18446744073709551616 < 18446744073709551616 := by omega
  have hyh : y / 18446744073709551616 < 18446744073709551616 := by omega
  have n1 := none_ x
  have n2 := none_ y
  by_cases h0 : x = 0
  · rw [decide_eq_true h0] at n1
    subst h0
    rw [Nat.gcd_zero_left]
    have e1 := zero_or' _ hyh
    have e2 := zero_or' _ (show y % 18446744073709551616 < 18446744073709551616 by omega)
    refine Ct.enterV (by rfl) Tryd.func28 rfl Tryd.ntmps28 rfl (fun w0 Rest => ?_)
    (repeat' (first | refine zss ?_ | ((first | (with_reducible first | apply At.val | apply AtQ.val)); (first | exact pr_or (by rfl) (by rfl) e1 | exact pr_or (by rfl) (by rfl) e2); exact rfl) | refine zs0 ?_ | ((with_reducible first | apply AtM1.callp | apply AtQ.callp | apply At.callp); kernel_rfl; exact rfl; exact rfl; exact n1) | ((with_reducible first | apply AtM1.callp | apply AtQ.callp | apply At.callp); kernel_rfl; exact rfl; exact rfl; exact n2) | ((with_reducible apply At.box (d := 2)); exact rfl; exact rfl; exact rfl; intro b2) | ((with_reducible apply At.box (d := 3)); exact rfl; exact rfl; exact rfl; intro b3) | ((with_reducible apply At.alloc (d := 4)); exact rfl; exact rfl; intro b4) | (refine zsp ?_ ?_ <;> (intro hc; (try simp only [zhcs, reduceCtorEq] at hc); (try (exfalso; first | contradiction | omega | exact absurd rfl hc | exact absurd (by decide) hc))))))
    all_goals ((with_reducible apply At.retV (B := [])); exact rfl; (repeat' (first | exact RVs.nil | (with_reducible apply RVs.cons) | exact rv_tmp (by rfl) | exact rv_cellN (by rfl) (by repeat constructor) (by rfl) (by rfl) (by rfl) | exact rv_cell1 (by rfl) (by repeat constructor) (by rfl) (by rfl))); exact zml; exact zkp; exact ⟨rfl, rfl, rfl⟩)
  rw [decide_eq_false h0] at n1
  by_cases h1 : y = 0
  · rw [decide_eq_true h1] at n2
    subst h1
    rw [Nat.gcd_zero_right]
    have e1 := or_zero' _ hxh
    have e2 := or_zero' _ (show x % 18446744073709551616 < 18446744073709551616 by omega)
    refine Ct.enterV (by rfl) Tryd.func28 rfl Tryd.ntmps28 rfl (fun w0 Rest => ?_)
    (repeat' (first | refine zss ?_ | ((first | (with_reducible first | apply At.val | apply AtQ.val)); (first | exact pr_or (by rfl) (by rfl) e1 | exact pr_or (by rfl) (by rfl) e2); exact rfl) | refine zs0 ?_ | ((with_reducible first | apply AtM1.callp | apply AtQ.callp | apply At.callp); kernel_rfl; exact rfl; exact rfl; exact n1) | ((with_reducible first | apply AtM1.callp | apply AtQ.callp | apply At.callp); kernel_rfl; exact rfl; exact rfl; exact n2) | ((with_reducible apply At.box (d := 2)); exact rfl; exact rfl; exact rfl; intro b2) | ((with_reducible apply At.box (d := 3)); exact rfl; exact rfl; exact rfl; intro b3) | ((with_reducible apply At.alloc (d := 4)); exact rfl; exact rfl; intro b4) | (refine zsp ?_ ?_ <;> (intro hc; (try simp only [zhcs, reduceCtorEq] at hc); (try (exfalso; first | contradiction | omega | exact absurd rfl hc | exact absurd (by decide) hc))))))
    all_goals ((with_reducible apply At.retV (B := [])); exact rfl; (repeat' (first | exact RVs.nil | (with_reducible apply RVs.cons) | exact rv_tmp (by rfl) | exact rv_cellN (by rfl) (by repeat constructor) (by rfl) (by rfl) (by rfl) | exact rv_cell1 (by rfl) (by repeat constructor) (by rfl) (by rfl))); exact zml; exact zkp; exact ⟨rfl, rfl, rfl⟩)
  rw [decide_eq_false h1] at n2
  have k1 := fun (m' : Mem) (hm' : m.le m') => noughts (m := m') (ht.mono hm') x hx
  have k2 := fun (m' : Mem) (hm' : m.le m') => noughts (m := m') (ht.mono hm') y hy
  obtain ⟨_, _, q1⟩ := nt_spec h0 hx
  obtain ⟨_, _, q2⟩ := nt_spec h1 hy
  have kd := down x (nt x) hx q1
  have hend := gcd_end h0 hx h1 hy
  obtain ⟨o1, o2⟩ := od_spec h0 hx
  have hox : od x < 340282366920938463463374607431768211456 := Nat.lt_of_le_of_lt (Nat.div_le_self _ _) hx
  have hG : Nat.gcd x y < 340282366920938463463374607431768211456 := Nat.lt_of_le_of_lt (Nat.gcd_le_left y (by omega)) hx
  generalize Nat.gcd x y = G at hend hG ⊢
  have kd' : Pu Tryd.prog 38 #[wv x, .int .i64 ((nt x : Nat) : Int)] (wv (od x)) := kd
  clear kd
  generalize od x = u at kd' hend o2 hox
  refine Ct.enterV (by rfl) Tryd.func28 rfl Tryd.ntmps28 rfl (fun w0 Rest => ?_)
  (repeat' (first | ((with_reducible apply At.mixed (id := 4) 5 (.q 0 (.q 1 (.q 2 (.q 3 (.x 4 .done)))))); exact rfl; kernel_rfl; kernel_rfl; kernel_rfl) | ((with_reducible apply At.mixed (id := 6) 5 (.q 0 (.q 1 (.q 2 (.q 3 (.x 4 .done)))))); exact rfl; kernel_rfl; kernel_rfl; kernel_rfl) | refine zsx ?_ | refine zss ?_ | ((with_reducible apply AtM.bo); exact rfl; exact rfl; exact rfl) | ((first | (with_reducible first | apply At.val | apply AtQ.val) | ((with_reducible first | apply AtM1.valz | apply AtM1.val); exact rfl) | ((with_reducible apply AtM1.val); exact rfl)); (exact pr_minN (by rfl) (by rfl)); exact rfl) | refine zs0 ?_ | refine zx0 ?_ | ((with_reducible first | apply AtM1.callp | apply AtQ.callp | apply At.callp); kernel_rfl; exact rfl; exact rfl; exact n1) | ((with_reducible first | apply AtM1.callp | apply AtQ.callp | apply At.callp); kernel_rfl; exact rfl; exact rfl; exact n2) | ((with_reducible first | apply AtM1.cr | apply AtQ.cr | apply At.cr); exact rfl; exact rfl; exact fun _ hmm => k1 _ hmm; exact ztk; kernel_rfl) | ((with_reducible first | apply AtM1.cr | apply AtQ.cr | apply At.cr); exact rfl; exact rfl; exact fun _ hmm => k2 _ hmm; exact ztk; kernel_rfl) | ((with_reducible first | apply AtM1.callp | apply AtQ.callp | apply At.callp); kernel_rfl; exact rfl; exact rfl; exact kd') | ((with_reducible apply At.box (d := 2)); exact rfl; exact rfl; exact rfl; intro b2) | ((with_reducible apply At.box (d := 3)); exact rfl; exact rfl; exact rfl; intro b3) | ((with_reducible apply At.alloc (d := 4)); exact rfl; exact rfl; intro b4) | (refine zsp ?_ ?_ <;> (intro hc; (try simp only [zhcs, reduceCtorEq] at hc); (try (exfalso; first | contradiction | omega | exact absurd rfl hc | exact absurd (by decide) hc))))))
  clear k1 k2 n1 n2 kd' hx hxh hyh
  (refine At.loopk (σ := GS) [2, 3, 4, 5] (fun s F0 => F0) (fun s => m) (fun s => .blk b2 24 (wd s.a) :: .blk b3 24 (wd s.b) :: .blk b4 24 (wd 0) :: Rest) (fun s => s.a % 2 = 1 ∧ s.a < 340282366920938463463374607431768211456 ∧ s.b < 340282366920938463463374607431768211456 ∧ Nat.gcd s.a s.b = Nat.gcd u y) (fun s => s.a + s.b) ⟨u, y⟩ (by rfl) ?_ zsubs zml zente ?_)
  · exact ⟨o2, hox, hy, rfl⟩
  rintro ⟨a, b⟩ ⟨g1, g2, g3, g4⟩
  dsimp only at g1 g2 g3 g4 ⊢
  have n3 := none_ b
  by_cases hb : b = 0
  · rw [decide_eq_true hb] at n3
    subst hb
    rw [Nat.gcd_zero_right] at g4
    rw [← g4, Nat.mul_comm] at hend
    have ku := up a (min (nt x) (nt y)) (by rw [hend]; exact hG) g2 (by omega)
    rw [hend] at ku
    (repeat' (first | refine zss ?_ | refine zs0 ?_ | ((with_reducible first | apply AtM1.callp | apply AtQ.callp | apply At.callp); kernel_rfl; exact rfl; exact rfl; exact n3) | ((with_reducible first | apply AtM1.callp | apply AtQ.callp | apply At.callp); kernel_rfl; exact rfl; exact rfl; exact ku) | ((with_reducible apply At.box (d := 2)); exact rfl; exact rfl; exact rfl; intro b2) | ((with_reducible apply At.box (d := 3)); exact rfl; exact rfl; exact rfl; intro b3) | ((with_reducible apply At.alloc (d := 4)); exact rfl; exact rfl; intro b4) | (refine zsp ?_ ?_ <;> (intro hc; (try simp only [zhcs, reduceCtorEq] at hc); (try (exfalso; first | contradiction | omega | exact absurd rfl hc | exact absurd (by decide) hc))))))
    all_goals ((with_reducible apply At.retV (B := [])); exact rfl; (repeat' (first | exact RVs.nil | (with_reducible apply RVs.cons) | exact rv_tmp (by rfl) | exact rv_cellN (by rfl) (by repeat constructor) (by rfl) (by rfl) (by rfl) | exact rv_cell1 (by rfl) (by repeat constructor) (by rfl) (by rfl))); exact zml; exact zkp; exact ⟨rfl, rfl, rfl⟩)
  · rw [decide_eq_false hb] at n3
    obtain ⟨s1, s2, s3⟩ := gcd_step g1 hb g3
    obtain ⟨_, _, q3⟩ := nt_spec hb g3
    have k3 := fun (m' : Mem) (hm' : m.le m') => noughts (m := m') (ht.mono hm') b g3
    have kd : Pu Tryd.prog 38 #[wv b, .int .i64 ((nt b : Nat) : Int)] (wv (od b)) := down b (nt b) g3 q3
    have hob : od b < 340282366920938463463374607431768211456 := Nat.lt_of_le_of_lt (Nat.div_le_self _ _) g3
    generalize od b = c at s1 s2 s3 kd hob
    have kl := less c a
    clear q3
    by_cases hc2 : c < a
    · rw [decide_eq_true hc2] at kl
      rw [Nat.min_eq_right (Nat.le_of_lt hc2), Nat.max_eq_left (Nat.le_of_lt hc2)] at s1 s3
      rw [Nat.min_eq_right (Nat.le_of_lt hc2)] at s2
      have km := lessR a c g2 hob
      (repeat' (first | ((with_reducible apply At.mixed (id := 4) 5 (.q 0 (.q 1 (.q 2 (.q 3 (.x 4 .done)))))); exact rfl; kernel_rfl; kernel_rfl; kernel_rfl) | ((with_reducible apply At.mixed (id := 6) 5 (.q 0 (.q 1 (.q 2 (.q 3 (.x 4 .done)))))); exact rfl; kernel_rfl; kernel_rfl; kernel_rfl) | refine zsx ?_ | refine zss ?_ | ((with_reducible apply AtM.bo); exact rfl; exact rfl; exact rfl) | refine zs0 ?_ | refine zx0 ?_ | ((with_reducible first | apply AtM1.callp | apply AtQ.callp | apply At.callp); kernel_rfl; exact rfl; exact rfl; exact n3) | ((with_reducible first | apply AtM1.cr | apply AtQ.cr | apply At.cr); exact rfl; exact rfl; exact fun _ hmm => k3 _ hmm; exact ztk; kernel_rfl) | ((with_reducible first | apply AtM1.callp | apply AtQ.callp | apply At.callp); kernel_rfl; exact rfl; exact rfl; exact kd) | ((with_reducible first | apply AtM1.callp | apply AtQ.callp | apply At.callp); kernel_rfl; exact rfl; exact rfl; exact kl) | ((with_reducible first | apply AtM1.callp | apply AtQ.callp | apply At.callp); kernel_rfl; exact rfl; exact rfl; exact km) | ((with_reducible apply At.box (d := 2)); exact rfl; exact rfl; exact rfl; intro b2) | ((with_reducible apply At.box (d := 3)); exact rfl; exact rfl; exact rfl; intro b3) | ((with_reducible apply At.alloc (d := 4)); exact rfl; exact rfl; intro b4) | (refine zsp ?_ ?_ <;> (intro hc; (try simp only [zhcs, reduceCtorEq] at hc); (try (exfalso; first | contradiction | omega | exact absurd rfl hc | exact absurd (by decide) hc))))))
      all_goals ((with_reducible refine At.reachk ((⟨c, a - c⟩ : GS)) ?_ ?_ ?_ ?_); exact zsubs; exact zml; exact zente; exact ⟨⟨s2, hob, Nat.lt_of_le_of_lt (Nat.sub_le _ _) g2, s1.trans g4⟩, s3⟩)
    · rw [decide_eq_false hc2] at kl
      have hle := Nat.le_of_not_lt hc2
      rw [Nat.min_eq_left hle, Nat.max_eq_right hle] at s1 s3
      have km := lessR c a hob g2
      (repeat' (first | ((with_reducible apply At.mixed (id := 4) 5 (.q 0 (.q 1 (.q 2 (.q 3 (.x 4 .done)))))); exact rfl; kernel_rfl; kernel_rfl; kernel_rfl) | ((with_reducible apply At.mixed (id := 6) 5 (.q 0 (.q 1 (.q 2 (.q 3 (.x 4 .done)))))); exact rfl; kernel_rfl; kernel_rfl; kernel_rfl) | refine zsx ?_ | refine zss ?_ | ((with_reducible apply AtM.bo); exact rfl; exact rfl; exact rfl) | refine zs0 ?_ | refine zx0 ?_ | ((with_reducible first | apply AtM1.callp | apply AtQ.callp | apply At.callp); kernel_rfl; exact rfl; exact rfl; exact n3) | ((with_reducible first | apply AtM1.cr | apply AtQ.cr | apply At.cr); exact rfl; exact rfl; exact fun _ hmm => k3 _ hmm; exact ztk; kernel_rfl) | ((with_reducible first | apply AtM1.callp | apply AtQ.callp | apply At.callp); kernel_rfl; exact rfl; exact rfl; exact kd) | ((with_reducible first | apply AtM1.callp | apply AtQ.callp | apply At.callp); kernel_rfl; exact rfl; exact rfl; exact kl) | ((with_reducible first | apply AtM1.callp | apply AtQ.callp | apply At.callp); kernel_rfl; exact rfl; exact rfl; exact km) | ((with_reducible apply At.box (d := 2)); exact rfl; exact rfl; exact rfl; intro b2) | ((with_reducible apply At.box (d := 3)); exact rfl; exact rfl; exact rfl; intro b3) | ((with_reducible apply At.alloc (d := 4)); exact rfl; exact rfl; intro b4) | (refine zsp ?_ ?_ <;> (intro hc; (try simp only [zhcs, reduceCtorEq] at hc); (try (exfalso; first | contradiction | omega | exact absurd rfl hc | exact absurd (by decide) hc))))))
      all_goals ((with_reducible refine At.reachk ((⟨a, c - a⟩ : GS)) ?_ ?_ ?_ ?_); exact zsubs; exact zml; exact zente; exact ⟨⟨g1, g2, Nat.lt_of_le_of_lt (Nat.sub_le _ _) hob, s1.trans g4⟩, s3⟩)
end Ra
end Go.Proofs.YtnpgnlphdkbfiaaDoor
/- Ratios: one number by another, and the check. -/
set_option linter.unusedSimpArgs false
set_option linter.unusedVariables false
set_option linter.unusedSectionVars false
set_option maxRecDepth 20000
set_option maxHeartbeats 4000000
namespace Go.Proofs.YtnpgnlphdkbfiaaDoor
open Go Go.J
attribute [local irreducible] At AtQ AtM AtM1 PR Ct Pu Rd Res.blk Res.own Res.ex RVs RV
namespace Ra
open Wide
theorem times_ (x y : Nat) (hx : x < 340282366920938463463374607431768211456) (hy : y < 340282366920938463463374607431768211456) : Pu Tryd.prog 22 #[wv x, wv y] (.tuple #[wv (sV (x * y)), .int .i64 (sE (x * y))]) := Pu.intro fun m => by
  by_cases h1 : x < 18446744073709551616
  · have z1 : x / 18446744073709551616 = 0 := by omega
    have z2 : x % 18446744073709551616 = x := by omega
    have k1 := times y x hy h1
    rw [Nat.mul_comm] at k1
    rw [show wv x = .agg #[.int .u64 0, .int .u64 (x : Int)] from (wd_mk (by rw [z1]; rfl) (by rw [z2])).symm]
    refine Ct.enterV (by rfl) Tryd.func22 rfl Tryd.ntmps22 rfl (fun w0 Rest => ?_)
    (repeat' (first | refine zss ?_ | refine zs0 ?_ | ((with_reducible first | apply AtM1.callp | apply AtQ.callp | apply At.callp); kernel_rfl; exact rfl; exact rfl; exact k1) | ((with_reducible apply At.box (d := 2)); exact rfl; exact rfl; exact rfl; intro b2) | ((with_reducible apply At.box (d := 3)); exact rfl; exact rfl; exact rfl; intro b3) | ((with_reducible apply At.alloc (d := 4)); exact rfl; exact rfl; intro b4) | (refine zsp ?_ ?_ <;> (intro hc; (try simp only [zhcs, reduceCtorEq] at hc); (try (exfalso; first | contradiction | omega | exact absurd rfl hc | exact absurd (by decide) hc))))))
    all_goals ((with_reducible apply At.retV (B := [])); exact rfl; (repeat' (first | exact RVs.nil | (with_reducible apply RVs.cons) | exact rv_tmp (by rfl) | exact rv_cellN (by rfl) (by repeat constructor) (by rfl) (by rfl) (by rfl) | exact rv_cell1 (by rfl) (by repeat constructor) (by rfl) (by rfl))); exact zml; exact zkp; exact ⟨rfl, rfl, rfl⟩)
  · have n1 : ¬ ((x / 18446744073709551616 : Nat) : Int) = 0 := by omega
    by_cases h2 : y < 18446744073709551616
    · have z1 : y / 18446744073709551616 = 0 := by omega
      have z2 : y % 18446744073709551616 = y := by omega
      have k1 := times x y hx h2
      rw [show wv y = .agg #[.int .u64 0, .int .u64 (y : Int)] from (wd_mk (by rw [z1]; rfl) (by rw [z2])).symm]
      refine Ct.enterV (by rfl) Tryd.func22 rfl Tryd.ntmps22 rfl (fun w0 Rest => ?_)
      (repeat' (first | refine zss ?_ | refine zs0 ?_ | ((with_reducible first | apply AtM1.callp | apply AtQ.callp | apply At.callp); kernel_rfl; exact rfl; exact rfl; exact k1) | ((with_reducible apply At.box (d := 2)); exact rfl; exact rfl; exact rfl; intro b2) | ((with_reducible apply At.box (d := 3)); exact rfl; exact rfl; exact rfl; intro b3) | ((with_reducible apply At.alloc (d := 4)); exact rfl; exact rfl; intro b4) | (refine zsp ?_ ?_ <;> (intro hc; (try simp only [zhcs, reduceCtorEq] at hc); (try (exfalso; first | (first | omega | exact absurd hc n1) | contradiction | omega | exact absurd rfl hc | exact absurd (by decide) hc))))))
      all_goals ((with_reducible apply At.retV (B := [])); exact rfl; (repeat' (first | exact RVs.nil | (with_reducible apply RVs.cons) | exact rv_tmp (by rfl) | exact rv_cellN (by rfl) (by repeat constructor) (by rfl) (by rfl) (by rfl) | exact rv_cell1 (by rfl) (by repeat constructor) (by rfl) (by rfl))); exact zml; exact zkp; exact ⟨rfl, rfl, rfl⟩)
    · have n2 : ¬ ((y / 18446744073709551616 : Nat) : Int) = 0 := by omega
      have hb : 340282366920938463463374607431768211456 ≤ x * y := Nat.le_trans (by decide : 340282366920938463463374607431768211456 ≤ 18446744073709551616 * 18446744073709551616) (Nat.mul_le_mul (by omega) (by omega))
      rw [show sV (x * y) = 0 from if_neg (Nat.not_lt.2 hb), show sE (x * y) = 1 from if_neg (Nat.not_lt.2 hb)]
      refine Ct.enterV (by rfl) Tryd.func22 rfl Tryd.ntmps22 rfl (fun w0 Rest => ?_)
      (repeat' (first | refine zss ?_ | refine zs0 ?_ | ((with_reducible apply At.box (d := 2)); exact rfl; exact rfl; exact rfl; intro b2) | ((with_reducible apply At.box (d := 3)); exact rfl; exact rfl; exact rfl; intro b3) | ((with_reducible apply At.alloc (d := 4)); exact rfl; exact rfl; intro b4) | (refine zsp ?_ ?_ <;> (intro hc; (try simp only [zhcs, reduceCtorEq] at hc); (try (exfalso; first | (first | omega | exact absurd hc n1 | exact absurd hc n2) | contradiction | omega | exact absurd rfl hc | exact absurd (by decide) hc))))))
      all_goals ((with_reducible apply At.retV (B := [])); exact rfl; (repeat' (first | exact RVs.nil | (with_reducible apply RVs.cons) | exact rv_tmp (by rfl) | exact rv_cellN (by rfl) (by repeat constructor) (by rfl) (by rfl) (by rfl) | exact rv_cell1 (by rfl) (by repeat constructor) (by rfl) (by rfl))); exact zml; exact zkp; exact ⟨rfl, rfl, rfl⟩)
/-- a ratio's value -/
abbrev rv (n d : Nat) : Value := .agg (wd n ++ wd d).toArray
def chk (n d : Nat) : Int := if d = 0 ∨ Nat.gcd n d ≠ 1 then 2 else 0
theorem check {m : Mem} (ht : TZ m) (n d : Nat) (hn : n < 340282366920938463463374607431768211456) (hd : d < 340282366920938463463374607431768211456) : Rd Tryd.prog 21 #[rv n d] m [] (.int .i64 (chk n d)) := by
  unfold Rd
  have k1 := none_ d
  have k2 := fun (m' : Mem) (hm' : m.le m') => gcd (m := m') (ht.mono hm') n d hn hd
  have k3 := of_ 1 (by decide)
  unfold chk
  by_cases h0 : d = 0
  · rw [decide_eq_true h0] at k1
    rw [if_pos (.inl h0)]
    refine Ct.enterV (by rfl) Tryd.func21 rfl Tryd.ntmps21 rfl (fun w0 Rest => ?_)
    (repeat' (first | refine zss ?_ | refine zs0 ?_ | ((with_reducible first | apply AtM1.callp | apply AtQ.callp | apply At.callp); kernel_rfl; exact rfl; exact rfl; exact k1) | ((with_reducible apply At.box (d := 1)); exact rfl; exact rfl; exact rfl; intro b1) | (refine zsp ?_ ?_ <;> (intro hc; (try simp only [zhcs, reduceCtorEq] at hc); (try (exfalso; first | contradiction | omega | exact absurd rfl hc | exact absurd (by decide) hc))))))
    all_goals ((with_reducible apply At.retB1 (B := [])); exact rfl; exact rfl; exact zml; exact zkp; exact ⟨rfl, rfl, rfl⟩)
  · rw [decide_eq_false h0] at k1
    obtain ⟨g, hg⟩ : ∃ g, Nat.gcd n d = g := ⟨_, rfl⟩
    rw [hg] at k2
    by_cases h1 : g = 1
    · rw [if_neg (by rw [hg]; rintro (h | h); exact h0 h; exact h h1)]
      clear hg
      subst h1
      refine Ct.enterV (by rfl) Tryd.func21 rfl Tryd.ntmps21 rfl (fun w0 Rest => ?_)
      (repeat' (first | refine zss ?_ | ((first | (with_reducible first | apply At.val | apply AtQ.val)); (exact pr_wne (a := 1) (b := 1) (by rfl) (by rfl)); exact rfl) | refine zs0 ?_ | ((with_reducible first | apply AtM1.callp | apply AtQ.callp | apply At.callp); kernel_rfl; exact rfl; exact rfl; exact k1) | ((with_reducible first | apply AtM1.cr | apply AtQ.cr | apply At.cr); exact rfl; exact rfl; exact fun _ hmm => k2 _ hmm; exact ztk; kernel_rfl) | ((with_reducible first | apply AtM1.callp | apply AtQ.callp | apply At.callp); kernel_rfl; exact rfl; exact rfl; exact k3) | ((with_reducible apply At.box (d := 1)); exact rfl; exact rfl; exact rfl; intro b1) | (refine zsp ?_ ?_ <;> (intro hc; (try simp only [zhcs, reduceCtorEq] at hc); (try (exfalso; first | contradiction | omega | exact absurd rfl hc | exact absurd (by decide) hc))))))
      all_goals ((with_reducible apply At.retB1 (B := [])); exact rfl; exact rfl; exact zml; exact zkp; exact ⟨rfl, rfl, rfl⟩)
    · rw [if_pos (by rw [hg]; exact .inr h1)]
      have e : (!decide (g = 1)) = true := by rw [decide_eq_false h1]; rfl
      have pw : ∀ {n' : Nat} {F : Fr} {C : World → Prop} {x y : Operand} {u : TypeId}, ev F x = some (wv g) → ev F y = some (wv 1) → PR Tryd.prog n' F C (.binOp .neq 24 x y u) (.bool true) := fun hx hy => by rw [← e]; exact pr_wne hx hy
      refine Ct.enterV (by rfl) Tryd.func21 rfl Tryd.ntmps21 rfl (fun w0 Rest => ?_)
      (repeat' (first | refine zss ?_ | ((first | (with_reducible first | apply At.val | apply AtQ.val)); (exact pw (by rfl) (by rfl)); exact rfl) | refine zs0 ?_ | ((with_reducible first | apply AtM1.callp | apply AtQ.callp | apply At.callp); kernel_rfl; exact rfl; exact rfl; exact k1) | ((with_reducible first | apply AtM1.cr | apply AtQ.cr | apply At.cr); exact rfl; exact rfl; exact fun _ hmm => k2 _ hmm; exact ztk; kernel_rfl) | ((with_reducible first | apply AtM1.callp | apply AtQ.callp | apply At.callp); kernel_rfl; exact rfl; exact rfl; exact k3) | ((with_reducible apply At.box (d := 1)); exact rfl; exact rfl; exact rfl; intro b1) | (refine zsp ?_ ?_ <;> (intro hc; (try simp only [zhcs, reduceCtorEq] at hc); (try (exfalso; first | contradiction | omega | exact absurd rfl hc | exact absurd (by decide) hc))))))
      all_goals ((with_reducible apply At.retB1 (B := [])); exact rfl; exact rfl; exact zml; exact zkp; exact ⟨rfl, rfl, rfl⟩)
end Ra
end Go.Proofs.YtnpgnlphdkbfiaaDoor
/- Ratios: which is less. -/
set_option linter.unusedSimpArgs false
set_option linter.unusedVariables false
set_option linter.unusedSectionVars false
set_option maxRecDepth 20000
set_option maxHeartbeats 4000000
namespace Go.Proofs.YtnpgnlphdkbfiaaDoor
open Go Go.J
attribute [local irreducible] At AtQ AtM AtM1 PR Ct Pu Rd Res.blk Res.own Res.ex RVs RV
namespace Ra
open Wide
def les (a b c d : Nat) : Bool × Int := if chk a b ≠ 0 ∨ chk c d ≠ 0 then (false, 2) else if sE (a * d) ≠ 0 ∨ sE (c * b) ≠ 0 then (false, 1) else (decide (a * d < c * b), 0)
theorem sE_zero {x : Nat} (h : sE x = 0) : sV x = x := by
  unfold sE at h
  unfold sV
  by_cases k : x < 340282366920938463463374607431768211456
  · rw [if_pos k]
  · rw [if_neg k] at h; exact absurd h (by decide)
theorem lessT {m : Mem} (ht : TZ m) (a b c d : Nat) (ha : a < 340282366920938463463374607431768211456) (hb : b < 340282366920938463463374607431768211456) (hc' : c < 340282366920938463463374607431768211456) (hd : d < 340282366920938463463374607431768211456) :
    Rd Tryd.prog 13 #[rv a b, rv c d] m [] (.tuple #[.bool (les a b c d).1, .int .i64 (les a b c d).2]) := by
  unfold Rd
  have k1 := fun (m' : Mem) (hm' : m.le m') => check (m := m') (ht.mono hm') a b ha hb
  have k2 := fun (m' : Mem) (hm' : m.le m') => check (m := m') (ht.mono hm') c d hc' hd
  have k3 := times_ a d ha hd
  have k4 := times_ c b hc' hb
  have k5 := less (sV (a * d)) (sV (c * b))
  unfold les
  by_cases h1 : chk a b = 0
  rotate_left
  · rw [if_pos (.inl h1)]
    generalize chk a b = e1 at k1 h1
    refine Ct.enterV (by rfl) Tryd.func13 rfl Tryd.ntmps13 rfl (fun w0 Rest => ?_)
    (repeat' (first | refine zss ?_ | refine zs0 ?_ | ((with_reducible first | apply AtM1.cr | apply AtQ.cr | apply At.cr); exact rfl; exact rfl; exact fun _ hmm => k1 _ hmm; exact ztk; kernel_rfl) | ((with_reducible apply At.box (d := 2)); exact rfl; exact rfl; exact rfl; intro b2) | ((with_reducible apply At.box (d := 3)); exact rfl; exact rfl; exact rfl; intro b3) | ((with_reducible apply At.alloc (d := 6)); exact rfl; exact rfl; intro b6) | ((with_reducible apply At.alloc (d := 8)); exact rfl; exact rfl; intro b8) | (refine zsp ?_ ?_ <;> (intro hc; (try simp only [zhcs, reduceCtorEq] at hc); (try (exfalso; first | (first | omega | exact absurd hc h1) | contradiction | omega | exact absurd rfl hc | exact absurd (by decide) hc))))))
    all_goals ((with_reducible apply At.retV (B := [])); exact rfl; (repeat' (first | exact RVs.nil | (with_reducible apply RVs.cons) | exact rv_tmp (by rfl) | exact rv_cellN (by rfl) (by repeat constructor) (by rfl) (by rfl) (by rfl) | exact rv_cell1 (by rfl) (by repeat constructor) (by rfl) (by rfl))); exact zml; exact zkp; exact ⟨rfl, rfl, rfl⟩)
  by_cases h2 : chk c d = 0
  rotate_left
  · rw [if_pos (.inr h2)]
    rw [h1] at k1
    generalize chk c d = e2 at k2 h2
    refine Ct.enterV (by rfl) Tryd.func13 rfl Tryd.ntmps13 rfl (fun w0 Rest => ?_)
    (repeat' (first | refine zss ?_ | refine zs0 ?_ | ((with_reducible first | apply AtM1.cr | apply AtQ.cr | apply At.cr); exact rfl; exact rfl; exact fun _ hmm => k1 _ hmm; exact ztk; kernel_rfl) | ((with_reducible first | apply AtM1.cr | apply AtQ.cr | apply At.cr); exact rfl; exact rfl; exact fun _ hmm => k2 _ hmm; exact ztk; kernel_rfl) | ((with_reducible apply At.box (d := 2)); exact rfl; exact rfl; exact rfl; intro b2) | ((with_reducible apply At.box (d := 3)); exact rfl; exact rfl; exact rfl; intro b3) | ((with_reducible apply At.alloc (d := 6)); exact rfl; exact rfl; intro b6) | ((with_reducible apply At.alloc (d := 8)); exact rfl; exact rfl; intro b8) | (refine zsp ?_ ?_ <;> (intro hc; (try simp only [zhcs, reduceCtorEq] at hc); (try (exfalso; first | (first | omega | exact absurd hc h2) | contradiction | omega | exact absurd rfl hc | exact absurd (by decide) hc))))))
    all_goals ((with_reducible apply At.retV (B := [])); exact rfl; (repeat' (first | exact RVs.nil | (with_reducible apply RVs.cons) | exact rv_tmp (by rfl) | exact rv_cellN (by rfl) (by repeat constructor) (by rfl) (by rfl) (by rfl) | exact rv_cell1 (by rfl) (by repeat constructor) (by rfl) (by rfl))); exact zml; exact zkp; exact ⟨rfl, rfl, rfl⟩)
  rw [if_neg (by rintro (h | h); exact h h1; exact h h2)]
  rw [h1] at k1
  rw [h2] at k2
  by_cases h3 : sE (a * d) = 0
  rotate_left
  · rw [if_pos (.inl h3)]
    generalize sE (a * d) = e3 at k3 h3
    refine Ct.enterV (by rfl) Tryd.func13 rfl Tryd.ntmps13 rfl (fun w0 Rest => ?_)
    (repeat' (first | refine zss ?_ | refine zs0 ?_ | ((with_reducible first | apply AtM1.cr | apply AtQ.cr | apply At.cr); exact rfl; exact rfl; exact fun _ hmm => k1 _ hmm; exact ztk; kernel_rfl) | ((with_reducible first | apply AtM1.cr | apply AtQ.cr | apply At.cr); exact rfl; exact rfl; exact fun _ hmm => k2 _ hmm; exact ztk; kernel_rfl) | ((with_reducible first | apply AtM1.callp | apply AtQ.callp | apply At.callp); kernel_rfl; exact rfl; exact rfl; exact k3) | ((with_reducible first | apply AtM1.callp | apply AtQ.callp | apply At.callp); kernel_rfl; exact rfl; exact rfl; exact k4) | ((with_reducible apply At.box (d := 2)); exact rfl; exact rfl; exact rfl; intro b2) | ((with_reducible apply At.box (d := 3)); exact rfl; exact rfl; exact rfl; intro b3) | ((with_reducible apply At.alloc (d := 6)); exact rfl; exact rfl; intro b6) | ((with_reducible apply At.alloc (d := 8)); exact rfl; exact rfl; intro b8) | (refine zsp ?_ ?_ <;> (intro hc; (try simp only [zhcs, reduceCtorEq] at hc); (try (exfalso; first | (first | omega | exact absurd hc h3) | contradiction | omega | exact absurd rfl hc | exact absurd (by decide) hc))))))
    all_goals ((with_reducible apply At.retV (B := [])); exact rfl; (repeat' (first | exact RVs.nil | (with_reducible apply RVs.cons) | exact rv_tmp (by rfl) | exact rv_cellN (by rfl) (by repeat constructor) (by rfl) (by rfl) (by rfl) | exact rv_cell1 (by rfl) (by repeat constructor) (by rfl) (by rfl))); exact zml; exact zkp; exact ⟨rfl, rfl, rfl⟩)
  by_cases h4 : sE (c * b) = 0
  rotate_left
  · rw [if_pos (.inr h4)]
    rw [h3] at k3
    generalize sE (c * b) = e4 at k4 h4
    refine Ct.enterV (by rfl) Tryd.func13 rfl Tryd.ntmps13 rfl (fun w0 Rest => ?_)
    (repeat' (first | refine zss ?_ | refine zs0 ?_ | ((with_reducible first | apply AtM1.cr | apply AtQ.cr | apply At.cr); exact rfl; exact rfl; exact fun _ hmm => k1 _ hmm; exact ztk; kernel_rfl) | ((with_reducible first | apply AtM1.cr | apply AtQ.cr | apply At.cr); exact rfl; exact rfl; exact fun _ hmm => k2 _ hmm; exact ztk; kernel_rfl) | ((with_reducible first | apply AtM1.callp | apply AtQ.callp | apply At.callp); kernel_rfl; exact rfl; exact rfl; exact k3) | ((with_reducible first | apply AtM1.callp | apply AtQ.callp | apply At.callp); kernel_rfl; exact rfl; exact rfl; exact k4) | ((with_reducible apply At.box (d := 2)); exact rfl; exact rfl; exact rfl; intro b2) | ((with_reducible apply At.box (d := 3)); exact rfl; exact rfl; exact rfl; intro b3) | ((with_reducible apply At.alloc (d := 6)); exact rfl; exact rfl; intro b6) | ((with_reducible apply At.alloc (d := 8)); exact rfl; exact rfl; intro b8) | (refine zsp ?_ ?_ <;> (intro hc; (try simp only [zhcs, reduceCtorEq] at hc); (try (exfalso; first | (first | omega | exact absurd hc h4) | contradiction | omega | exact absurd rfl hc | exact absurd (by decide) hc))))))
    all_goals ((with_reducible apply At.retV (B := [])); exact rfl; (repeat' (first | exact RVs.nil | (with_reducible apply RVs.cons) | exact rv_tmp (by rfl) | exact rv_cellN (by rfl) (by repeat constructor) (by rfl) (by rfl) (by rfl) | exact rv_cell1 (by rfl) (by repeat constructor) (by rfl) (by rfl))); exact zml; exact zkp; exact ⟨rfl, rfl, rfl⟩)
  rw [if_neg (by rintro (h | h); exact h h3; exact h h4)]
  rw [sE_zero h3, sE_zero h4] at k5
  rw [sE_zero h3, h3] at k3
  rw [sE_zero h4, h4] at k4
  refine Ct.enterV (by rfl) Tryd.func13 rfl Tryd.ntmps13 rfl (fun w0 Rest => ?_)
  (repeat' (first | refine zss ?_ | refine zs0 ?_ | ((with_reducible first | apply AtM1.cr | apply AtQ.cr | apply At.cr); exact rfl; exact rfl; exact fun _ hmm => k1 _ hmm; exact ztk; kernel_rfl) | ((with_reducible first | apply AtM1.cr | apply AtQ.cr | apply At.cr); exact rfl; exact rfl; exact fun _ hmm => k2 _ hmm; exact ztk; kernel_rfl) | ((with_reducible first | apply AtM1.callp | apply AtQ.callp | apply At.callp); kernel_rfl; exact rfl; exact rfl; exact k3) | ((with_reducible first | apply AtM1.callp | apply AtQ.callp | apply At.callp); kernel_rfl; exact rfl; exact rfl; exact k4) | ((with_reducible first | apply AtM1.callp | apply AtQ.callp | apply At.callp); kernel_rfl; exact rfl; exact rfl; exact k5) | ((with_reducible apply At.box (d := 2)); exact rfl; exact rfl; exact rfl; intro b2) | ((with_reducible apply At.box (d := 3)); exact rfl; exact rfl; exact rfl; intro b3) | ((with_reducible apply At.alloc (d := 6)); exact rfl; exact rfl; intro b6) | ((with_reducible apply At.alloc (d := 8)); exact rfl; exact rfl; intro b8) | (refine zsp ?_ ?_ <;> (intro hc; (try simp only [zhcs, reduceCtorEq] at hc); (try (exfalso; first | contradiction | omega | exact absurd rfl hc | exact absurd (by decide) hc))))))
  all_goals ((with_reducible apply At.retV (B := [])); exact rfl; (repeat' (first | exact RVs.nil | (with_reducible apply RVs.cons) | exact rv_tmp (by rfl) | exact rv_cellN (by rfl) (by repeat constructor) (by rfl) (by rfl) (by rfl) | exact rv_cell1 (by rfl) (by repeat constructor) (by rfl) (by rfl))); exact zml; exact zkp; exact ⟨rfl, rfl, rfl⟩)
end Ra
end Go.Proofs.YtnpgnlphdkbfiaaDoor
/- Ratios: how long a number is. -/
set_option linter.unusedSimpArgs false
set_option linter.unusedVariables false
set_option linter.unusedSectionVars false
set_option maxRecDepth 20000
set_option maxHeartbeats 4000000
namespace Go.Proofs.YtnpgnlphdkbfiaaDoor
open Go Go.J
attribute [local irreducible] At AtQ AtM AtM1 PR Ct Pu Rd Res.blk Res.own Res.ex RVs RV
namespace Ra
open Wide
theorem len64 (y : Nat) (h : y < 18446744073709551616) : Pu Tryd.prog 36 #[.int .u64 (y : Int)] (.int .i64 (Lib.bitLen y : Int)) := by
  have := Pu.of_same fun w => Any.bits_Len64 { laysn134 with } (y : Int) w (by omega) (by omega)
  rw [Int.toNat_natCast] at this
  exact this
/-- how many digits of base two -/
def ln (x : Nat) : Nat := if x / 18446744073709551616 = 0 then Lib.bitLen (x % 18446744073709551616) else 64 + Lib.bitLen (x / 18446744073709551616)
theorem long (x : Nat) (hx : x < 340282366920938463463374607431768211456) : Pu Tryd.prog 29 #[wv x] (.int .i64 (ln x : Int)) := Pu.intro fun m => by
  have hh : x / 18446744073709551616 < 18446744073709551616 := by omega
  unfold ln
  by_cases h : x / 18446744073709551616 = 0
  · rw [if_pos h]
    have k1 := len64 (x % 18446744073709551616) (Nat.mod_lt _ (by decide))
    refine Ct.enterV (by rfl) Tryd.func29 rfl Tryd.ntmps29 rfl (fun w0 Rest => ?_)
    (repeat' (first | refine zss ?_ | refine zs0 ?_ | ((with_reducible first | apply AtM1.callp | apply AtQ.callp | apply At.callp); kernel_rfl; exact rfl; exact rfl; exact k1) | ((with_reducible apply At.box (d := 1)); exact rfl; exact rfl; exact rfl; intro b1) | (refine zsp ?_ ?_ <;> (intro hc; (try simp only [zhcs, reduceCtorEq] at hc); (try (exfalso; first | omega | contradiction | omega | exact absurd rfl hc | exact absurd (by decide) hc))))))
    all_goals ((with_reducible apply At.retB1 (B := [])); exact rfl; exact rfl; exact zml; exact zkp; exact ⟨rfl, rfl, rfl⟩)
  · rw [if_neg h]
    have k1 := len64 (x / 18446744073709551616) hh
    have e1 : Lib.bitLen (x / 18446744073709551616) ≤ 64 := Lib.bitLen_le _ 64 (by omega) (by omega)
    generalize Lib.bitLen (x / 18446744073709551616) = c at k1 e1
    have e2 : IntKind.wrap .i64 (64 + (c : Int)) = ((64 + c : Nat) : Int) := by rw [show 64 + (c : Int) = ((64 + c : Nat) : Int) by omega]; exact IntWalk.i64_in _ (by omega)
    have n1 : ¬ ((x / 18446744073709551616 : Nat) : Int) = 0 := by omega
    refine Ct.enterV (by rfl) Tryd.func29 rfl Tryd.ntmps29 rfl (fun w0 Rest => ?_)
    (repeat' (first | refine zss ?_ | ((first | (with_reducible first | apply At.val | apply AtQ.val)); (exact pr_add (by rfl) (by rfl) e2); exact rfl) | refine zs0 ?_ | ((with_reducible first | apply AtM1.callp | apply AtQ.callp | apply At.callp); kernel_rfl; exact rfl; exact rfl; exact k1) | ((with_reducible apply At.box (d := 1)); exact rfl; exact rfl; exact rfl; intro b1) | (refine zsp ?_ ?_ <;> (intro hc; (try simp only [zhcs, reduceCtorEq] at hc); (try (exfalso; first | (first | omega | exact absurd hc n1) | contradiction | omega | exact absurd rfl hc | exact absurd (by decide) hc))))))
    all_goals ((with_reducible apply At.retB1 (B := [])); exact rfl; exact rfl; exact zml; exact zkp; exact ⟨rfl, rfl, rfl⟩)
end Ra
end Go.Proofs.YtnpgnlphdkbfiaaDoor
/- Ratios (plain): how often, by shifting and taking away. -/
set_option linter.unusedSimpArgs false
set_option linter.unusedVariables false
set_option linter.unusedSectionVars false
set_option maxRecDepth 20000
set_option maxHeartbeats 4000000
namespace Go.Proofs.YtnpgnlphdkbfiaaDoor
open Go Go.J
namespace Ra
theorem len_bounds {y : Nat} (h0 : y ≠ 0) (h : y < 18446744073709551616) : 1 ≤ Lib.bitLen y ∧ 2 ^ (Lib.bitLen y - 1) ≤ y ∧ y < 2 ^ Lib.bitLen y ∧ Lib.bitLen y ≤ 64 := by
  obtain ⟨h1, h2, h3⟩ := Lib.bitLenAux_bounds 64 y h h0
  exact ⟨h1, h2, h3, Lib.bitLen_le y 64 (Nat.le_refl _) h⟩
theorem ln_bounds {x : Nat} (h0 : x ≠ 0) (hx : x < 340282366920938463463374607431768211456) : 1 ≤ ln x ∧ 2 ^ (ln x - 1) ≤ x ∧ x < 2 ^ ln x ∧ ln x ≤ 128 := by
  unfold ln
  have hd := Nat.div_add_mod x 18446744073709551616
  have hm : x % 18446744073709551616 < 18446744073709551616 := Nat.mod_lt _ (by decide)
  by_cases h : x / 18446744073709551616 = 0
  · rw [if_pos h]
    rw [h, Nat.mul_zero, Nat.zero_add] at hd
    rw [hd] at hm ⊢
    obtain ⟨h1, h2, h3, h4⟩ := len_bounds h0 hm
    exact ⟨h1, h2, h3, by omega⟩
  · rw [if_neg h]
    obtain ⟨h1, h2, h3, h4⟩ := len_bounds h (by omega)
    generalize x / 18446744073709551616 = q at h h1 h2 h3 h4 hd ⊢
    generalize Lib.bitLen q = c at h1 h2 h3 h4 ⊢
    refine ⟨by omega, ?_, ?_, by omega⟩
    · rw [show 64 + c - 1 = 64 + (c - 1) by omega, Nat.pow_add]
      have := Nat.mul_le_mul_left (2 ^ 64) h2
      rw [show (2 : Nat) ^ 64 = 18446744073709551616 from rfl] at this ⊢
      omega
    · rw [Nat.pow_add]
      have := Nat.mul_le_mul_left (2 ^ 64) (Nat.succ_le_of_lt h3)
      rw [show (2 : Nat) ^ 64 = 18446744073709551616 from rfl] at this ⊢
      omega
/-- the longest shift -/
theorem sh_fits {a d k : Nat} (ha0 : a ≠ 0) (ha : a < 340282366920938463463374607431768211456) (hd0 : d ≠ 0) (hd : d < 340282366920938463463374607431768211456) (hk : k + ln d ≤ ln a) : d * 2 ^ k < 340282366920938463463374607431768211456 ∧ k < 128 := by
  obtain ⟨_, _, _, a4⟩ := ln_bounds ha0 ha
  obtain ⟨d1, _, d3, _⟩ := ln_bounds hd0 hd
  refine ⟨?_, by omega⟩
  have h1 : d * 2 ^ k < 2 ^ ln d * 2 ^ k := Nat.mul_lt_mul_of_pos_right d3 (Nat.two_pow_pos k)
  rw [← Nat.pow_add] at h1
  have h2 : 2 ^ (ln d + k) ≤ 2 ^ 128 := Nat.pow_le_pow_right (by decide) (by omega)
  rw [show (2 : Nat) ^ 128 = 340282366920938463463374607431768211456 from rfl] at h2
  omega
theorem sh_start {a d k : Nat} (ha0 : a ≠ 0) (ha : a < 340282366920938463463374607431768211456) (hd0 : d ≠ 0) (hd : d < 340282366920938463463374607431768211456) (hk : ln a + 1 ≤ k + ln d) : a < d * 2 ^ k := by
  obtain ⟨_, _, a3, _⟩ := ln_bounds ha0 ha
  obtain ⟨d1, d2, _, _⟩ := ln_bounds hd0 hd
  have h1 : 2 ^ (ln d - 1) * 2 ^ k ≤ d * 2 ^ k := Nat.mul_le_mul_right _ d2
  rw [← Nat.pow_add] at h1
  have h2 : 2 ^ ln a ≤ 2 ^ (ln d - 1 + k) := Nat.pow_le_pow_right (by decide) (by omega)
  omega
/-- what is true ahead of the shift by s - 1 -/
def Wi (a d s q r : Nat) : Prop := a = q * 2 ^ s * d + r ∧ r < d * 2 ^ s
theorem wi_no {a d k q r : Nat} (h : Wi a d (k + 1) q r) (hr : r < d * 2 ^ k) : Wi a d k (q * 2) r := by
  obtain ⟨h1, _⟩ := h
  refine ⟨?_, hr⟩
  rw [Nat.mul_assoc q 2, ← Nat.pow_succ']
  exact h1
theorem wi_yes {a d k q r : Nat} (h : Wi a d (k + 1) q r) (hr : ¬ r < d * 2 ^ k) : Wi a d k (q * 2 + 1) (r - d * 2 ^ k) := by
  obtain ⟨h1, h2⟩ := h
  have e1 : d * 2 ^ (k + 1) = 2 * (d * 2 ^ k) := by rw [Nat.pow_succ', Nat.mul_left_comm]
  have e2 : (q * 2 + 1) * 2 ^ k * d = q * 2 ^ (k + 1) * d + d * 2 ^ k := by
    rw [Nat.add_mul, Nat.one_mul, Nat.add_mul, Nat.mul_assoc q 2, ← Nat.pow_succ', Nat.mul_comm (2 ^ k) d]
  refine ⟨?_, by omega⟩
  rw [e2]
  omega
theorem wi_end {a d q r : Nat} (h : Wi a d 0 q r) : q = a / d := by
  obtain ⟨h1, h2⟩ := h
  rw [Nat.pow_zero, Nat.mul_one] at h1 h2
  rw [h1, Nat.mul_comm q d, Nat.mul_add_div (by omega), Nat.div_eq_of_lt h2, Nat.add_zero]
/-- the bit k set, in the words -/
theorem or_bit (q k : Nat) : (q * 2 ^ (k + 1) + 2 ^ k) / 18446744073709551616 = q * 2 ^ (k + 1) / 18446744073709551616 ||| 2 ^ k / 18446744073709551616 ∧ (q * 2 ^ (k + 1) + 2 ^ k) % 18446744073709551616 = q * 2 ^ (k + 1) % 18446744073709551616 ||| 2 ^ k % 18446744073709551616 := by
  have e : q * 2 ^ (k + 1) + 2 ^ k = q * 2 ^ (k + 1) ||| 2 ^ k := by
    rw [← Nat.shiftLeft_eq, Nat.shiftLeft_add_eq_or_of_lt (Nat.pow_lt_pow_right (by decide) (Nat.lt_succ_self k))]
  rw [e]
  exact ⟨Nat.or_div_two_pow (n := 64), Nat.or_mod_two_pow (n := 64)⟩
end Ra
end Go.Proofs.YtnpgnlphdkbfiaaDoor
/- Ratios: how often one number goes into another. -/
set_option linter.unusedSimpArgs false
set_option linter.unusedVariables false
set_option linter.unusedSectionVars false
set_option maxRecDepth 20000
set_option maxHeartbeats 4000000
namespace Go.Proofs.YtnpgnlphdkbfiaaDoor
open Go Go.J
attribute [local irreducible] At AtQ AtM AtM1 PR Ct Pu Rd Res.blk Res.own Res.ex RVs RV
namespace Ra
open Wide
structure WS where
  (t : Int) (Q q r : Nat)
theorem whole (a d : Nat) (ha : a < 340282366920938463463374607431768211456) (hd : d < 340282366920938463463374607431768211456) (hd0 : d ≠ 0) : Pu Tryd.prog 25 #[wv a, wv d] (wv (a / d)) := Pu.intro fun m => by
  have l1 := long a ha
  have l2 := long d hd
  have hla : ln a ≤ 128 ∧ (a = 0 → ln a = 0) := by
    by_cases h : a = 0
    · subst h; exact ⟨by decide, fun _ => by decide⟩
    · exact ⟨(ln_bounds h ha).2.2.2, fun k => absurd k h⟩
  have hld := ln_bounds hd0 hd
  have hld1 : 1 ≤ ln d := hld.1
  have hld4 : ln d ≤ 128 := hld.2.2.2
  clear hld
  have hst : Wi a d (((ln a : Int) - (ln d : Int)) + 1).toNat 0 a := by
    refine ⟨by simp, ?_⟩
    by_cases h : a = 0
    · have := Nat.mul_le_mul_left d (Nat.two_pow_pos (((ln a : Int) - (ln d : Int)) + 1).toNat)
      omega
    · exact sh_start h ha hd0 hd (by omega)
  have hfit := fun k => @sh_fits a d k
  obtain ⟨la, hlae⟩ : ∃ la, ln a = la := ⟨_, rfl⟩
  obtain ⟨ld, hlde⟩ : ∃ ld, ln d = ld := ⟨_, rfl⟩
  rw [hlae] at hla l1
  rw [hlde] at hld1 hld4 l2
  rw [hlae, hlde] at hst
  have e0 : IntKind.wrap .i64 ((la : Int) - (ld : Int)) = (la : Int) - (ld : Int) := IntWalk.i64_in _ (by omega)
  refine Ct.enterV (by rfl) Tryd.func25 rfl Tryd.ntmps25 rfl (fun w0 Rest => ?_)
  (repeat' (first | refine zss ?_ | ((first | (with_reducible first | apply At.val | apply AtQ.val)); (exact pr_sub (by rfl) (by rfl) e0); exact rfl) | refine zs0 ?_ | ((with_reducible first | apply AtM1.callp | apply AtQ.callp | apply At.callp); kernel_rfl; exact rfl; exact rfl; exact l1) | ((with_reducible first | apply AtM1.callp | apply AtQ.callp | apply At.callp); kernel_rfl; exact rfl; exact rfl; exact l2) | fail | ((with_reducible apply At.box (d := 2)); exact rfl; exact rfl; exact rfl; intro b2) | ((with_reducible apply At.box (d := 3)); exact rfl; exact rfl; exact rfl; intro b3) | ((with_reducible apply At.alloc (d := 4)); exact rfl; exact rfl; intro b4) | ((with_reducible apply At.alloc (d := 5)); exact rfl; exact rfl; intro b5) | ((with_reducible apply At.alloc (d := 7)); exact rfl; exact rfl; intro b7) | ((with_reducible apply At.alloc (d := 8)); exact rfl; exact rfl; intro b8) | (refine zsp ?_ ?_ <;> (intro hc; (try simp only [zhcs, reduceCtorEq] at hc); (try (exfalso; first | contradiction | omega | exact absurd rfl hc | exact absurd (by decide) hc))))))
  clear l1 l2 e0
  rw [show ([.int .u64 0, .int .u64 0] : List Value) = wd 0 from rfl]
  (refine At.loopk (σ := WS) [2, 3, 4, 5] (fun s F0 => (6, .int .i64 s.t) :: F0) (fun s => m) (fun s => .blk b2 24 (wd s.r) :: .blk b3 24 (wd d) :: .blk b4 24 (wd 0) :: .blk b5 24 (wd s.Q) :: Rest) (fun s => -200 ≤ s.t ∧ s.t + ld ≤ la ∧ s.r ≤ a ∧ s.Q = s.q * 2 ^ (s.t + 1).toNat ∧ Wi a d (s.t + 1).toNat s.q s.r) (fun s => (s.t + 1).toNat) ⟨(la : Int) - (ld : Int), 0, 0, a⟩ (by rfl) ?_ zsubs zml zente ?_)
  · exact ⟨by dsimp only; omega, by dsimp only; omega, Nat.le_refl _, by simp, hst⟩
  rintro ⟨t, Q, q, r⟩ ⟨g1, g2, g3, g4, g5⟩
  dsimp only at g1 g2 g3 g4 g5 ⊢
  by_cases h : 0 ≤ t
  · obtain ⟨k, rfl⟩ : ∃ k : Nat, t = (k : Int) := ⟨t.toNat, by omega⟩
    rw [show ((k : Int) + 1).toNat = k + 1 by omega] at g4 g5
    have a0 : a ≠ 0 := fun e => by have := hla.2 e; omega
    obtain ⟨f1, f2⟩ := hfit k a0 ha hd0 hd (by omega)
    have ku := up d k f1 hd f2
    have kl := less r (d * 2 ^ k)
    have em : IntKind.wrap .i64 ((k : Int) - 1) = (k : Int) - 1 := IntWalk.i64_in _ (by omega)
    by_cases hr : r < d * 2 ^ k
    · rw [decide_eq_true hr] at kl
      have hn := wi_no g5 hr
      clear hfit hst
      generalize d * 2 ^ k = X at ku kl f1 hr
      (repeat' (first | refine zss ?_ | ((first | (with_reducible first | apply At.val | apply AtQ.val)); (exact pr_sub (by rfl) (by rfl) em); exact rfl) | refine zs0 ?_ | ((with_reducible first | apply AtM1.callp | apply AtQ.callp | apply At.callp); kernel_rfl; exact rfl; exact rfl; exact ku) | ((with_reducible first | apply AtM1.callp | apply AtQ.callp | apply At.callp); kernel_rfl; exact rfl; exact rfl; exact kl) | ((with_reducible apply At.box (d := 2)); exact rfl; exact rfl; exact rfl; intro b2) | ((with_reducible apply At.box (d := 3)); exact rfl; exact rfl; exact rfl; intro b3) | ((with_reducible apply At.alloc (d := 4)); exact rfl; exact rfl; intro b4) | ((with_reducible apply At.alloc (d := 5)); exact rfl; exact rfl; intro b5) | ((with_reducible apply At.alloc (d := 7)); exact rfl; exact rfl; intro b7) | ((with_reducible apply At.alloc (d := 8)); exact rfl; exact rfl; intro b8) | (refine zsp ?_ ?_ <;> (intro hc; (try simp only [zhcs, reduceCtorEq] at hc); (try (exfalso; first | omega | contradiction | omega | exact absurd rfl hc | exact absurd (by decide) hc))))))
      all_goals ((with_reducible refine At.reachk ((⟨(k : Int) - 1, Q, q * 2, r⟩ : WS)) ?_ ?_ ?_ ?_); exact zsubs; exact zml; exact zente; exact ⟨⟨by dsimp only; omega, by dsimp only; omega, g3, by dsimp only; rw [show ((k : Int) - 1 + 1).toNat = k by omega, g4, Nat.pow_succ', Nat.mul_assoc], by dsimp only; rw [show ((k : Int) - 1 + 1).toNat = k by omega]; exact hn⟩, by dsimp only; omega⟩)
    · rw [decide_eq_false hr] at kl
      have hy := wi_yes g5 hr
      have h1p : 2 ^ k < 340282366920938463463374607431768211456 := by
        have := Nat.le_mul_of_pos_left (2 ^ k) (Nat.pos_of_ne_zero hd0)
        omega
      have k1 := of_ 1 (by decide)
      have kv := up 1 k (by rw [Nat.one_mul]; exact h1p) (by decide) f2
      rw [Nat.one_mul] at kv
      have km := lessR r (d * 2 ^ k) (Nat.lt_of_le_of_lt g3 ha) f1
      have ob := or_bit q k
      rw [← g4] at ob
      have hQ : Q < 340282366920938463463374607431768211456 := by
        have h1 := g5.1
        rw [← g4] at h1
        have := Nat.le_mul_of_pos_right Q (Nat.pos_of_ne_zero hd0)
        omega
      have p1 : bits .or .u64 ((Q / 18446744073709551616 : Nat) : Int) ((2 ^ k / 18446744073709551616 : Nat) : Int) = (((Q + 2 ^ k) / 18446744073709551616 : Nat) : Int) := by rw [bits_or_u64_nat _ _ (by omega) (by omega), ob.1]
      have p2 : bits .or .u64 ((Q % 18446744073709551616 : Nat) : Int) ((2 ^ k % 18446744073709551616 : Nat) : Int) = (((Q + 2 ^ k) % 18446744073709551616 : Nat) : Int) := by rw [bits_or_u64_nat _ _ (by omega) (by omega), ob.2]
      have hq : Q + 2 ^ k = (q * 2 + 1) * 2 ^ k := by rw [g4, Nat.add_mul, Nat.one_mul, Nat.pow_succ', Nat.mul_assoc]
      clear hfit hst ob
      generalize d * 2 ^ k = X at ku kl f1 hr hy km
      generalize Q + 2 ^ k = Q2 at p1 p2 hq
      obtain ⟨Z, hZ⟩ : ∃ Z, 2 ^ k = Z := ⟨_, rfl⟩
      rw [hZ] at kv p1 p2 hq h1p
      (repeat' (first | refine zss ?_ | ((first | (with_reducible first | apply At.val | apply AtQ.val)); (first | exact pr_sub (by rfl) (by rfl) em | exact pr_or (by rfl) (by rfl) p1 | exact pr_or (by rfl) (by rfl) p2); exact rfl) | refine zs0 ?_ | ((with_reducible first | apply AtM1.callp | apply AtQ.callp | apply At.callp); kernel_rfl; exact rfl; exact rfl; exact ku) | ((with_reducible first | apply AtM1.callp | apply AtQ.callp | apply At.callp); kernel_rfl; exact rfl; exact rfl; exact kl) | ((with_reducible first | apply AtM1.callp | apply AtQ.callp | apply At.callp); kernel_rfl; exact rfl; exact rfl; exact km) | ((with_reducible first | apply AtM1.callp | apply AtQ.callp | apply At.callp); kernel_rfl; exact rfl; exact rfl; exact k1) | ((with_reducible first | apply AtM1.callp | apply AtQ.callp | apply At.callp); kernel_rfl; exact rfl; exact rfl; exact kv) | ((with_reducible apply At.box (d := 2)); exact rfl; exact rfl; exact rfl; intro b2) | ((with_reducible apply At.box (d := 3)); exact rfl; exact rfl; exact rfl; intro b3) | ((with_reducible apply At.alloc (d := 4)); exact rfl; exact rfl; intro b4) | ((with_reducible apply At.alloc (d := 5)); exact rfl; exact rfl; intro b5) | ((with_reducible apply At.alloc (d := 7)); exact rfl; exact rfl; intro b7) | ((with_reducible apply At.alloc (d := 8)); exact rfl; exact rfl; intro b8) | (refine zsp ?_ ?_ <;> (intro hc; (try simp only [zhcs, reduceCtorEq] at hc); (try (exfalso; first | omega | contradiction | omega | exact absurd rfl hc | exact absurd (by decide) hc))))))
      all_goals ((with_reducible refine At.reachk ((⟨(k : Int) - 1, Q2, q * 2 + 1, r - X⟩ : WS)) ?_ ?_ ?_ ?_); exact zsubs; exact zml; exact zente; exact ⟨⟨by dsimp only; omega, by dsimp only; omega, by dsimp only; omega, by dsimp only; rw [show ((k : Int) - 1 + 1).toNat = k by omega, hZ]; exact hq, by dsimp only; rw [show ((k : Int) - 1 + 1).toNat = k by omega]; exact hy⟩, by dsimp only; omega⟩)
  · rw [show (t + 1).toNat = 0 by omega] at g4 g5
    rw [Nat.pow_zero, Nat.mul_one, wi_end g5] at g4
    subst g4
    (repeat' (first | refine zss ?_ | refine zs0 ?_ | ((with_reducible apply At.box (d := 2)); exact rfl; exact rfl; exact rfl; intro b2) | ((with_reducible apply At.box (d := 3)); exact rfl; exact rfl; exact rfl; intro b3) | ((with_reducible apply At.alloc (d := 4)); exact rfl; exact rfl; intro b4) | ((with_reducible apply At.alloc (d := 5)); exact rfl; exact rfl; intro b5) | ((with_reducible apply At.alloc (d := 7)); exact rfl; exact rfl; intro b7) | ((with_reducible apply At.alloc (d := 8)); exact rfl; exact rfl; intro b8) | (refine zsp ?_ ?_ <;> (intro hc; (try simp only [zhcs, reduceCtorEq] at hc); (try (exfalso; first | omega | contradiction | omega | exact absurd rfl hc | exact absurd (by decide) hc))))))
    all_goals ((with_reducible apply At.retV (B := [])); exact rfl; (repeat' (first | exact RVs.nil | (with_reducible apply RVs.cons) | exact rv_tmp (by rfl) | exact rv_cellN (by rfl) (by repeat constructor) (by rfl) (by rfl) (by rfl) | exact rv_cell1 (by rfl) (by repeat constructor) (by rfl) (by rfl))); exact zml; exact zkp; exact ⟨rfl, rfl, rfl⟩)
end Ra
end Go.Proofs.YtnpgnlphdkbfiaaDoor
/- Ratios: Floor, Reduce. -/
set_option linter.unusedSimpArgs false
set_option linter.unusedVariables false
set_option linter.unusedSectionVars false
set_option maxRecDepth 20000
set_option maxHeartbeats 4000000
namespace Go.Proofs.YtnpgnlphdkbfiaaDoor
open Go Go.J
attribute [local irreducible] At AtQ AtM AtM1 PR Ct Pu Rd Res.blk Res.own Res.ex RVs RV
namespace Ra
open Wide
def flo (n d : Nat) : Nat × Int := if d = 0 then (0, 2) else (n / d, 0)
theorem floor (n d : Nat) (hn : n < 340282366920938463463374607431768211456) (hd : d < 340282366920938463463374607431768211456) : Pu Tryd.prog 14 #[rv n d] (.tuple #[wv (flo n d).1, .int .i64 (flo n d).2]) := Pu.intro fun m => by
  have k1 := none_ d
  unfold flo
  by_cases h : d = 0
  · rw [decide_eq_true h] at k1
    rw [if_pos h]
    refine Ct.enterV (by rfl) Tryd.func14 rfl Tryd.ntmps14 rfl (fun w0 Rest => ?_)
    (repeat' (first | refine zss ?_ | refine zs0 ?_ | ((with_reducible first | apply AtM1.callp | apply AtQ.callp | apply At.callp); kernel_rfl; exact rfl; exact rfl; exact k1) | ((with_reducible apply At.box (d := 1)); exact rfl; exact rfl; exact rfl; intro b1) | ((with_reducible apply At.alloc (d := 2)); exact rfl; exact rfl; intro b2) | (refine zsp ?_ ?_ <;> (intro hc; (try simp only [zhcs, reduceCtorEq] at hc); (try (exfalso; first | contradiction | omega | exact absurd rfl hc | exact absurd (by decide) hc))))))
    all_goals ((with_reducible apply At.retV (B := [])); exact rfl; (repeat' (first | exact RVs.nil | (with_reducible apply RVs.cons) | exact rv_tmp (by rfl) | exact rv_cellN (by rfl) (by repeat constructor) (by rfl) (by rfl) (by rfl) | exact rv_cell1 (by rfl) (by repeat constructor) (by rfl) (by rfl))); exact zml; exact zkp; exact ⟨rfl, rfl, rfl⟩)
  · rw [decide_eq_false h] at k1
    rw [if_neg h]
    have k2 := whole n d hn hd h
    refine Ct.enterV (by rfl) Tryd.func14 rfl Tryd.ntmps14 rfl (fun w0 Rest => ?_)
    (repeat' (first | refine zss ?_ | refine zs0 ?_ | ((with_reducible first | apply AtM1.callp | apply AtQ.callp | apply At.callp); kernel_rfl; exact rfl; exact rfl; exact k1) | ((with_reducible first | apply AtM1.callp | apply AtQ.callp | apply At.callp); kernel_rfl; exact rfl; exact rfl; exact k2) | ((with_reducible apply At.box (d := 1)); exact rfl; exact rfl; exact rfl; intro b1) | ((with_reducible apply At.alloc (d := 2)); exact rfl; exact rfl; intro b2) | (refine zsp ?_ ?_ <;> (intro hc; (try simp only [zhcs, reduceCtorEq] at hc); (try (exfalso; first | contradiction | omega | exact absurd rfl hc | exact absurd (by decide) hc))))))
    all_goals ((with_reducible apply At.retV (B := [])); exact rfl; (repeat' (first | exact RVs.nil | (with_reducible apply RVs.cons) | exact rv_tmp (by rfl) | exact rv_cellN (by rfl) (by repeat constructor) (by rfl) (by rfl) (by rfl) | exact rv_cell1 (by rfl) (by repeat constructor) (by rfl) (by rfl))); exact zml; exact zkp; exact ⟨rfl, rfl, rfl⟩)
def red (n d : Nat) : (Nat × Nat) × Int := if d = 0 then ((0, 0), 1) else ((n / Nat.gcd n d, d / Nat.gcd n d), 0)
theorem reduce {m : Mem} (ht : TZ m) (n d : Nat) (hn : n < 340282366920938463463374607431768211456) (hd : d < 340282366920938463463374607431768211456) : Rd Tryd.prog 20 #[wv n, wv d] m [] (.tuple #[rv (red n d).1.1 (red n d).1.2, .int .i64 (red n d).2]) := by
  unfold Rd
  have k1 := none_ d
  unfold red
  by_cases h : d = 0
  · rw [decide_eq_true h] at k1
    rw [if_pos h]
    refine Ct.enterV (by rfl) Tryd.func20 rfl Tryd.ntmps20 rfl (fun w0 Rest => ?_)
    (repeat' (first | refine zss ?_ | refine zs0 ?_ | ((with_reducible first | apply AtM1.callp | apply AtQ.callp | apply At.callp); kernel_rfl; exact rfl; exact rfl; exact k1) | ((with_reducible apply At.box (d := 2)); exact rfl; exact rfl; exact rfl; intro b2) | ((with_reducible apply At.box (d := 3)); exact rfl; exact rfl; exact rfl; intro b3) | ((with_reducible apply At.alloc (d := 4)); exact rfl; exact rfl; intro b4) | ((with_reducible apply At.alloc (d := 6)); exact rfl; exact rfl; intro b6) | (refine zsp ?_ ?_ <;> (intro hc; (try simp only [zhcs, reduceCtorEq] at hc); (try (exfalso; first | contradiction | omega | exact absurd rfl hc | exact absurd (by decide) hc))))))
    all_goals ((with_reducible apply At.retV (B := [])); exact rfl; (repeat' (first | exact RVs.nil | (with_reducible apply RVs.cons) | exact rv_tmp (by rfl) | exact rv_cellN (by rfl) (by repeat constructor) (by rfl) (by rfl) (by rfl) | exact rv_cell1 (by rfl) (by repeat constructor) (by rfl) (by rfl))); exact zml; exact zkp; exact ⟨rfl, rfl, rfl⟩)
  · rw [decide_eq_false h] at k1
    rw [if_neg h]
    have k2 := fun (m' : Mem) (hm' : m.le m') => gcd (m := m') (ht.mono hm') n d hn hd
    have hg0 : Nat.gcd n d ≠ 0 := fun e => h (Nat.eq_zero_of_gcd_eq_zero_right e)
    have hg : Nat.gcd n d < 340282366920938463463374607431768211456 := Nat.lt_of_le_of_lt (Nat.gcd_le_right n (Nat.pos_of_ne_zero h) : Nat.gcd n d ≤ d) hd
    generalize Nat.gcd n d = g at k2 hg0 hg ⊢
    have k3 := whole n g hn hg hg0
    have k4 := whole d g hd hg hg0
    refine Ct.enterV (by rfl) Tryd.func20 rfl Tryd.ntmps20 rfl (fun w0 Rest => ?_)
    (repeat' (first | ((with_reducible apply At.mixed (id := 4) 9 (.q 0 (.q 1 (.q 2 (.q 3 (.q 4 (.q 5 (.q 6 (.x 7 (.q 8 .done)))))))))); exact rfl; kernel_rfl; kernel_rfl; kernel_rfl) | refine zsx ?_ | refine zss ?_ | ((with_reducible apply AtM.bo); exact rfl; exact rfl; exact rfl) | refine zs0 ?_ | refine zx0 ?_ | ((with_reducible first | apply AtM1.callp | apply AtQ.callp | apply At.callp); kernel_rfl; exact rfl; exact rfl; exact k1) | ((with_reducible first | apply AtM1.cr | apply AtQ.cr | apply At.cr); exact rfl; exact rfl; exact fun _ hmm => k2 _ hmm; exact ztk; kernel_rfl) | ((with_reducible first | apply AtM1.callp | apply AtQ.callp | apply At.callp); kernel_rfl; exact rfl; exact rfl; exact k3) | ((with_reducible first | apply AtM1.callp | apply AtQ.callp | apply At.callp); kernel_rfl; exact rfl; exact rfl; exact k4) | ((with_reducible apply At.box (d := 2)); exact rfl; exact rfl; exact rfl; intro b2) | ((with_reducible apply At.box (d := 3)); exact rfl; exact rfl; exact rfl; intro b3) | ((with_reducible apply At.alloc (d := 4)); exact rfl; exact rfl; intro b4) | ((with_reducible apply At.alloc (d := 6)); exact rfl; exact rfl; intro b6) | (refine zsp ?_ ?_ <;> (intro hc; (try simp only [zhcs, reduceCtorEq] at hc); (try (exfalso; first | contradiction | omega | exact absurd rfl hc | exact absurd (by decide) hc))))))
    all_goals ((with_reducible apply At.retV (B := [])); exact rfl; (repeat' (first | exact RVs.nil | (with_reducible apply RVs.cons) | exact rv_tmp (by rfl) | exact rv_cellN (by rfl) (by repeat constructor) (by rfl) (by rfl) (by rfl) | exact rv_cell1 (by rfl) (by repeat constructor) (by rfl) (by rfl))); exact zml; exact zkp; exact ⟨rfl, rfl, rfl⟩)
end Ra
end Go.Proofs.YtnpgnlphdkbfiaaDoor
/- Ratios: Rate. -/
set_option linter.unusedSimpArgs false
set_option linter.unusedVariables false
set_option linter.unusedSectionVars false
set_option maxRecDepth 20000
set_option maxHeartbeats 4000000
namespace Go.Proofs.YtnpgnlphdkbfiaaDoor
open Go Go.J
attribute [local irreducible] At AtQ AtM AtM1 PR Ct Pu Rd Res.blk Res.own Res.ex RVs RV
namespace Ra
open Wide
def rat (x k : Nat) : (Nat × Nat) × Int := if k = 0 then ((0, 0), 12) else if sE (x * 1000) ≠ 0 then ((0, 0), sE (x * 1000)) else red (x * 1000) k
theorem sE_cases (x : Nat) : sE x = 0 ∨ sE x = 1 := by
  unfold sE
  by_cases h : x < 340282366920938463463374607431768211456
  · rw [if_pos h]; exact .inl rfl
  · rw [if_neg h]; exact .inr rfl
theorem rate {m : Mem} (ht : TZ m) (x k : Nat) (hx : x < 340282366920938463463374607431768211456) (hk : k < 18446744073709551616) : Rd Tryd.prog 12 #[wv x, .int .u64 (k : Int)] m [] (.tuple #[rv (rat x k).1.1 (rat x k).1.2, .int .i64 (rat x k).2]) := by
  unfold Rd
  unfold rat
  by_cases h : k = 0
  · rw [if_pos h]
    subst h
    refine Ct.enterV (by rfl) Tryd.func12 rfl Tryd.ntmps12 rfl (fun w0 Rest => ?_)
    (repeat' (first | refine zss ?_ | refine zs0 ?_ | ((with_reducible apply At.box (d := 2)); exact rfl; exact rfl; exact rfl; intro b2) | ((with_reducible apply At.alloc (d := 4)); exact rfl; exact rfl; intro b4) | ((with_reducible apply At.alloc (d := 6)); exact rfl; exact rfl; intro b6) | (refine zsp ?_ ?_ <;> (intro hc; (try simp only [zhcs, reduceCtorEq] at hc); (try (exfalso; first | omega | contradiction | omega | exact absurd rfl hc | exact absurd (by decide) hc))))))
    all_goals ((with_reducible apply At.retV (B := [])); exact rfl; (repeat' (first | exact RVs.nil | (with_reducible apply RVs.cons) | exact rv_tmp (by rfl) | exact rv_cellN (by rfl) (by repeat constructor) (by rfl) (by rfl) (by rfl) | exact rv_cell1 (by rfl) (by repeat constructor) (by rfl) (by rfl))); exact zml; exact zkp; exact ⟨rfl, rfl, rfl⟩)
  rw [if_neg h]
  have n1 : ¬ (k : Int) = 0 := by omega
  have k1 : Pu Tryd.prog 6 #[wv x, .int .u64 1000] (.tuple #[wv (sV (x * 1000)), .int .i64 (sE (x * 1000))]) := times x 1000 hx (by decide)
  rcases sE_cases (x * 1000) with e | e
  · rw [if_neg (not_not_intro e)]
    have h1 := sE_zero e
    have hb := sV_lt (x * 1000)
    rw [e, h1] at k1
    rw [h1] at hb
    generalize x * 1000 = y at k1 hb ⊢
    have k2 := of_ k hk
    have k3 := fun (m' : Mem) (hm' : m.le m') => reduce (m := m') (ht.mono hm') y k hb (Nat.lt_trans hk (by decide))
    generalize red y k = w at k3 ⊢
    refine Ct.enterV (by rfl) Tryd.func12 rfl Tryd.ntmps12 rfl (fun w0 Rest => ?_)
    (repeat' (first | ((with_reducible apply At.mixed (id := 6) 8 (.q 0 (.q 1 (.q 2 (.q 3 (.q 4 (.q 5 (.x 6 (.q 7 .done))))))))); exact rfl; kernel_rfl; kernel_rfl; kernel_rfl) | refine zsx ?_ | refine zss ?_ | ((with_reducible apply AtM.bo); exact rfl; exact rfl; exact rfl) | refine zs0 ?_ | refine zx0 ?_ | ((with_reducible first | apply AtM1.callp | apply AtQ.callp | apply At.callp); kernel_rfl; exact rfl; exact rfl; exact k1) | ((with_reducible first | apply AtM1.callp | apply AtQ.callp | apply At.callp); kernel_rfl; exact rfl; exact rfl; exact k2) | ((with_reducible first | apply AtM1.cr | apply AtQ.cr | apply At.cr); exact rfl; exact rfl; exact fun _ hmm => k3 _ hmm; exact ztk; kernel_rfl) | ((with_reducible apply At.box (d := 2)); exact rfl; exact rfl; exact rfl; intro b2) | ((with_reducible apply At.alloc (d := 4)); exact rfl; exact rfl; intro b4) | ((with_reducible apply At.alloc (d := 6)); exact rfl; exact rfl; intro b6) | (refine zsp ?_ ?_ <;> (intro hc; (try simp only [zhcs, reduceCtorEq] at hc); (try (exfalso; first | (first | omega | exact absurd hc n1) | contradiction | omega | exact absurd rfl hc | exact absurd (by decide) hc))))))
    all_goals ((with_reducible apply At.retV (B := [])); exact rfl; (repeat' (first | exact RVs.nil | (with_reducible apply RVs.cons) | exact rv_tmp (by rfl) | exact rv_cellN (by rfl) (by repeat constructor) (by rfl) (by rfl) (by rfl) | exact rv_cell1 (by rfl) (by repeat constructor) (by rfl) (by rfl))); exact zml; exact zkp; exact ⟨rfl, rfl, rfl⟩)
  · rw [e] at k1
    rw [if_pos (by rw [e]; decide), e]
    generalize sV (x * 1000) = y at k1
    refine Ct.enterV (by rfl) Tryd.func12 rfl Tryd.ntmps12 rfl (fun w0 Rest => ?_)
    (repeat' (first | refine zss ?_ | refine zs0 ?_ | ((with_reducible first | apply AtM1.callp | apply AtQ.callp | apply At.callp); kernel_rfl; exact rfl; exact rfl; exact k1) | ((with_reducible apply At.box (d := 2)); exact rfl; exact rfl; exact rfl; intro b2) | ((with_reducible apply At.alloc (d := 4)); exact rfl; exact rfl; intro b4) | ((with_reducible apply At.alloc (d := 6)); exact rfl; exact rfl; intro b6) | (refine zsp ?_ ?_ <;> (intro hc; (try simp only [zhcs, reduceCtorEq] at hc); (try (exfalso; first | (first | omega | exact absurd hc n1) | contradiction | omega | exact absurd rfl hc | exact absurd (by decide) hc))))))
    all_goals ((with_reducible apply At.retV (B := [])); exact rfl; (repeat' (first | exact RVs.nil | (with_reducible apply RVs.cons) | exact rv_tmp (by rfl) | exact rv_cellN (by rfl) (by repeat constructor) (by rfl) (by rfl) (by rfl) | exact rv_cell1 (by rfl) (by repeat constructor) (by rfl) (by rfl))); exact zml; exact zkp; exact ⟨rfl, rfl, rfl⟩)
end Ra
end Go.Proofs.YtnpgnlphdkbfiaaDoor
/- The document's numbers, as sixteen bytes. -/
set_option linter.unusedSimpArgs false
set_option linter.unusedVariables false
set_option linter.unusedSectionVars false
set_option maxRecDepth 20000
set_option maxHeartbeats 4000000
namespace Go.Proofs.YtnpgnlphdkbfiaaDoor
open Go Go.J
attribute [local irreducible] At AtQ AtM AtM1 PR Ct Pu Rd Res.blk Res.own Res.ex RVs RV
namespace Wide
def tab (f : Nat → Nat) : List Int := (List.range 16).map (fun i => ((f i : Nat) : Int))
def dg (S i : Nat) : Nat := S / 256 ^ i % 256
abbrev gi : Int → Value := fun x => .int .i64 x
abbrev av (f : Nat → Nat) : Value := .agg ((tab f).map gi).toArray
theorem tab_len (f : Nat → Nat) : (tab f).length = 16 := by simp [tab]
theorem tabm_len (f : Nat → Nat) : ((tab f).map gi).length = 16 := by simp [tab]
theorem all_gi (l : List Int) : (l.map gi).all oneCell = true := by
  rw [List.all_eq_true]; intro x hx; obtain ⟨y, -, rfl⟩ := List.mem_map.1 hx; rfl
theorem tab_get (f : Nat → Nat) {i : Nat} (h : i < 16) : (tab f)[i]! = (f i : Int) := by
  rw [getElem!_pos _ i (by rw [tab_len]; exact h)]; simp [tab]
theorem tab_congr {f g : Nat → Nat} (h : ∀ j, j < 16 → f j = g j) : tab f = tab g := by
  unfold tab
  apply List.map_congr_left
  intro j hj
  rw [h j (List.mem_range.1 hj)]
theorem tab_set (f : Nat → Nat) {k : Nat} (v : Nat) (h : k < 16) : (tab f).set k (v : Int) = tab (fun j => if j = k then v else f j) := by
  apply List.ext_getElem (by simp [tab])
  intro j h1 h2
  rw [List.getElem_set]
  simp only [tab, List.getElem_map, List.getElem_range]
  by_cases e : k = j
  · subst e; simp
  · rw [if_neg e, if_neg (Ne.symm e)]
theorem pr_load_tab {n : Nat} {w0 : World} {F : Fr} {m : Mem} {Rs : List Res} {f : Nat → Nat} {x : Operand} {t : TypeId} {b k : Nat} {E : TypeId} {Rs' : List Res} (hx : ev F x = some (.pointer (some ⟨b, k, none⟩))) (hp : Pick Rs (.blk b E ((tab f).map gi)) Rs') (ht : isAggB Tryd.prog t = some false) (hk : k < 16) :
    PR Tryd.prog n F (HW w0 m Rs) (.load t x) (.int .i64 ((f k : Nat) : Int)) := by
  have := pr_load_arr (n := n) (w0 := w0) (m := m) (P := Tryd.prog) (g := gi) hx hp ht (by rw [tab_len]; exact hk)
  rwa [tab_get f hk] at this
theorem dg_lt (S i : Nat) : dg S i < 256 := Nat.mod_lt _ (by decide)
theorem pow256 (i : Nat) : (2 : Int) ^ (8 * (i : Int)).toNat = ((256 ^ i : Nat) : Int) := by
  rw [show (8 * (i : Int)).toNat = 8 * i by omega, show (256 : Nat) ^ i = 2 ^ (8 * i) by rw [Nat.pow_mul], Int.natCast_pow]; rfl
theorem lo_div (x : Nat) {i : Nat} (hi : i < 8) : x % 18446744073709551616 / 256 ^ i % 256 = dg x i := by
  have e : (18446744073709551616 : Nat) = 256 ^ i * 256 ^ (8 - i) := by rw [← Nat.pow_add, show i + (8 - i) = 8 by omega]
  rw [e, Nat.mod_mul_right_div_self]
  have hd : (256 : Nat) ∣ 256 ^ (8 - i) := by
    rw [show 8 - i = (7 - i) + 1 by omega, Nat.pow_succ]; exact Nat.dvd_mul_left _ _
  rw [Nat.mod_mod_of_dvd _ hd]; rfl
theorem hi_div (x i : Nat) : x / 18446744073709551616 / 256 ^ i % 256 = dg x (8 + i) := by
  unfold dg
  rw [Nat.div_div_eq_div_mul, show (18446744073709551616 : Nat) = 256 ^ 8 from rfl, ← Nat.pow_add]
theorem and255 (y : Nat) (h : y < 18446744073709551616) : bits .and .u64 (y : Int) 255 = ((y % 256 : Nat) : Int) := by
  rw [u64_and _ _ (by omega) (by omega) (by decide) (by decide), Int.toNat_natCast, show ((255 : Int)).toNat = 255 from rfl, nat_mask8]
theorem lo_dig (x : Nat) {i : Nat} (hi : i < 8) : bits .and .u64 (((x % 18446744073709551616 : Nat) : Int) / 2 ^ (8 * (i : Int)).toNat) 255 = ((dg x i : Nat) : Int) := by
  rw [pow256, ← Int.natCast_ediv, and255 _ (Nat.lt_of_le_of_lt (Nat.div_le_self _ _) (Nat.mod_lt _ (by decide))), lo_div x hi]
theorem hi_dig (x i : Nat) (hx : x < 340282366920938463463374607431768211456) : bits .and .u64 (((x / 18446744073709551616 : Nat) : Int) / 2 ^ (8 * (i : Int)).toNat) 255 = ((dg x (8 + i) : Nat) : Int) := by
  rw [pow256, ← Int.natCast_ediv, and255 _ (Nat.lt_of_le_of_lt (Nat.div_le_self _ _) (by omega)), hi_div x i]

/-! ### the number that sixteen bytes stand for -/
theorem dig_succ (S i : Nat) : S % 256 ^ (i + 1) = S % 256 ^ i + 256 ^ i * dg S i := Nat.mod_pow_succ
theorem or_dig {q d i : Nat} (hq : q < 256 ^ i) (hd : d < 256) (hi : i < 8) : bits .or .u64 (q : Int) (((d : Int) * 2 ^ (8 * (i : Int)).toNat) % 18446744073709551616) = ((q + 256 ^ i * d : Nat) : Int) := by
  have e : (18446744073709551616 : Nat) = 256 ^ i * 256 ^ (8 - i) := by rw [← Nat.pow_add, show i + (8 - i) = 8 by omega]
  have h1 : d * 256 ^ i < 18446744073709551616 := by
    rw [e, Nat.mul_comm]
    refine Nat.mul_lt_mul_of_pos_left (Nat.lt_of_lt_of_le hd ?_) (Nat.pow_pos (by decide))
    rw [show (256 : Nat) = 256 ^ 1 from rfl, ← Nat.pow_mul, Nat.one_mul]
    exact Nat.pow_le_pow_right (by decide) (by omega)
  have h2 : q < 18446744073709551616 := by
    refine Nat.lt_of_lt_of_le hq ?_
    rw [show (18446744073709551616 : Nat) = 256 ^ 8 from rfl]
    exact Nat.pow_le_pow_right (by decide) (by omega)
  rw [pow256, ← Int.natCast_mul, Int.emod_eq_of_lt (by omega) (by omega), u64_or _ _ (by omega) (by omega) (by omega) (by omega), Int.toNat_natCast, Int.toNat_natCast]
  congr 1
  rw [show (256 : Nat) ^ i = 2 ^ (8 * i) by rw [Nat.pow_mul]] at hq ⊢
  rw [Nat.or_comm, Nat.mul_comm, ← Nat.two_pow_add_eq_or_of_lt hq, Nat.add_comm]
theorem hi_dg (x i : Nat) : dg (x / 18446744073709551616) i = dg x (8 + i) := by
  unfold dg; exact hi_div x i
structure OS where
  (i : Nat) (h : Nat) (l : Nat)
/-! ### the sum, digit by digit -/
theorem pr_load_tabv {n : Nat} {w0 : World} {F : Fr} {m : Mem} {Rs : List Res} {f : Nat → Nat} {x : Operand} {t : TypeId} {b k v : Nat} {E : TypeId} {Rs' : List Res} (hx : ev F x = some (.pointer (some ⟨b, k, none⟩))) (hp : Pick Rs (.blk b E ((tab f).map gi)) Rs') (ht : isAggB Tryd.prog t = some false) (hk : k < 16) (hv : f k = v) :
    PR Tryd.prog n F (HW w0 m Rs) (.load t x) (.int .i64 ((v : Nat) : Int)) := hv ▸ pr_load_tab hx hp ht hk
def cy (x y i : Nat) : Nat := (x % 256 ^ i + y % 256 ^ i) / 256 ^ i
theorem cy_lt (x y i : Nat) : cy x y i < 2 := by
  have h : 0 < 256 ^ i := Nat.pow_pos (by decide)
  unfold cy
  rw [Nat.div_lt_iff_lt_mul h]
  have h1 := Nat.mod_lt x h
  have h2 := Nat.mod_lt y h
  omega
theorem cy_succ (x y i : Nat) : (dg x i + dg y i + cy x y i) / 256 = cy x y (i + 1) := by
  have h : 0 < 256 ^ i := Nat.pow_pos (by decide)
  unfold cy
  rw [dig_succ, dig_succ, Nat.pow_succ, ← Nat.div_div_eq_div_mul]
  congr 1
  rw [show x % 256 ^ i + 256 ^ i * dg x i + (y % 256 ^ i + 256 ^ i * dg y i) = (x % 256 ^ i + y % 256 ^ i) + 256 ^ i * (dg x i + dg y i) by rw [Nat.mul_add]; omega, Nat.add_mul_div_left _ _ h]
  omega
theorem cy_dig (x y i : Nat) : (dg x i + dg y i + cy x y i) % 256 = dg (x + y) i := by
  have h : 0 < 256 ^ i := Nat.pow_pos (by decide)
  unfold dg cy
  have e : (x + y) / 256 ^ i = x / 256 ^ i + y / 256 ^ i + (x % 256 ^ i + y % 256 ^ i) / 256 ^ i := by
    conv => lhs; rw [← Nat.mod_add_div x (256 ^ i), ← Nat.mod_add_div y (256 ^ i)]
    rw [show x % 256 ^ i + 256 ^ i * (x / 256 ^ i) + (y % 256 ^ i + 256 ^ i * (y / 256 ^ i)) = (x % 256 ^ i + y % 256 ^ i) + 256 ^ i * (x / 256 ^ i + y / 256 ^ i) by rw [Nat.mul_add]; omega, Nat.add_mul_div_left _ _ h]
    omega
  rw [e]; omega
theorem cy_end (x y : Nat) (hx : x < 340282366920938463463374607431768211456) (hy : y < 340282366920938463463374607431768211456) : cy x y 16 = (x + y) / 340282366920938463463374607431768211456 := by
  unfold cy
  rw [show (256 : Nat) ^ 16 = 340282366920938463463374607431768211456 from rfl, Nat.mod_eq_of_lt hx, Nat.mod_eq_of_lt hy]
structure AS where
  (i : Nat) (c : Nat)
end Wide
end Go.Proofs.YtnpgnlphdkbfiaaDoor
/- The document's numbers: the sum of many, which is less, a number many times. -/
set_option linter.unusedSimpArgs false
set_option linter.unusedVariables false
set_option linter.unusedSectionVars false
set_option maxRecDepth 20000
set_option maxHeartbeats 4000000
namespace Go.Proofs.YtnpgnlphdkbfiaaDoor
open Go Go.J
attribute [local irreducible] At AtQ AtM AtM1 PR Ct Pu Rd Res.blk Res.own Res.ex RVs RV
namespace Wide
end Wide
end Go.Proofs.YtnpgnlphdkbfiaaDoor
/- How often a number goes into another one, and one number less another one, as both say it. -/
set_option linter.unusedSimpArgs false
set_option linter.unusedVariables false
set_option linter.unusedSectionVars false
set_option maxRecDepth 20000
set_option maxHeartbeats 4000000
namespace Go.Proofs.YtnpgnlphdkbfiaaDoor
open Go Go.J
attribute [local irreducible] At AtQ AtM AtM1 PR Ct Pu Rd Res.blk Res.own Res.ex RVs RV
namespace Wide
theorem dv_arith (x n : Nat) (hn : 0 < n) : x / n / 18446744073709551616 = x / 18446744073709551616 / n ∧ x / n % 18446744073709551616 = (x / 18446744073709551616 % n * 18446744073709551616 + x % 18446744073709551616) / n ∧ x % n = (x / 18446744073709551616 % n * 18446744073709551616 + x % 18446744073709551616) % n := by
  obtain ⟨H, hH⟩ : ∃ H, H = x / 18446744073709551616 := ⟨_, rfl⟩
  obtain ⟨L, hL⟩ : ∃ L, L = x % 18446744073709551616 := ⟨_, rfl⟩
  obtain ⟨V, hV⟩ : ∃ V, V = H % n * 18446744073709551616 + L := ⟨_, rfl⟩
  have hr := Nat.mod_lt H hn
  have hd := Nat.div_add_mod H n
  have e : x = n * (H / n * 18446744073709551616) + V := by rw [← Nat.mul_assoc]; omega
  have hVn : V / n < 18446744073709551616 := by rw [Nat.div_lt_iff_lt_mul hn, Nat.mul_comm]; omega
  have e1 : x / n = H / n * 18446744073709551616 + V / n := by rw [e, Nat.mul_add_div hn]
  have e2 : x % n = V % n := by rw [e, Nat.mul_add_mod]
  rw [← hH, ← hL, ← hV, e1, e2]
  generalize V / n = t at *
  generalize H / n = s at *
  exact ⟨by omega, by omega, rfl⟩
theorem div0 (x : Nat) : Pu Tryd.prog 11 #[wv x, .int .u64 0] (.tuple #[wv 0, .int .u64 0, .int .i64 1]) := Pu.intro fun m => by
  refine Ct.enterV (by rfl) Tryd.func11 rfl Tryd.ntmps11 rfl (fun w0 Rest => ?_)
  (repeat' (first | refine zss ?_ | ((first | (with_reducible first | apply At.val | apply AtQ.val)); (exact zprA); exact rfl) | refine zs0 ?_ | ((with_reducible apply At.box (d := 2)); exact rfl; exact rfl; exact rfl; intro b2) | ((with_reducible apply At.alloc (d := 4)); exact rfl; exact rfl; intro b4) | (refine zsp ?_ ?_ <;> (intro hc; (try simp only [zhcs, reduceCtorEq] at hc); (try (exfalso; first | omega | contradiction | omega | exact absurd rfl hc | exact absurd (by decide) hc))))))
  all_goals ((with_reducible apply At.retV (B := [])); exact rfl; (repeat' (first | exact RVs.nil | (with_reducible apply RVs.cons) | exact rv_tmp (by rfl) | exact rv_cellN (by rfl) (by repeat constructor) (by rfl) (by rfl) (by rfl) | exact rv_cell1 (by rfl) (by repeat constructor) (by rfl) (by rfl) | exact rv_cellA (by rfl) (by repeat constructor) (by rfl) (by rfl) zlq)); exact zml; exact zkp; exact ⟨rfl, rfl, rfl⟩)
theorem div (x n : Nat) (hx : x < 340282366920938463463374607431768211456) (hn : 0 < n) (hnb : n < 18446744073709551616) :
    Pu Tryd.prog 11 #[wv x, .int .u64 (n : Int)] (.tuple #[wv (x / n), .int .u64 ((x % n : Nat) : Int), .int .i64 0]) := Pu.intro fun m => by
  obtain ⟨d1, d2, d3⟩ := dv_arith x n hn
  have hr := Nat.mod_lt (x / 18446744073709551616) hn
  have k := div64 (x / 18446744073709551616 % n) (x % 18446744073709551616) n _ rfl hr hnb (by omega)
  rw [← d2, ← d3] at k
  have f1 := u_rem (x / 18446744073709551616) n
  have f2 := u_quo (a := x / 18446744073709551616) (b := n) (Nat.lt_of_le_of_lt (Nat.div_le_self _ _) (by omega))
  rw [← d1] at f2
  clear d1 d2 d3
  refine Ct.enterV (by rfl) Tryd.func11 rfl Tryd.ntmps11 rfl (fun w0 Rest => ?_)
  (repeat' (first | refine zss ?_ | ((first | (with_reducible first | apply At.val | apply AtQ.val)); (first | exact pr_rem (by rfl) (by rfl) (by omega) f1 | exact pr_quo (by rfl) (by rfl) (by omega) f2 | exact zprA); exact rfl) | refine zs0 ?_ | ((with_reducible first | apply AtM1.callp | apply AtQ.callp | apply At.callp); kernel_rfl; exact rfl; exact rfl; exact k) | fail | ((with_reducible apply At.box (d := 2)); exact rfl; exact rfl; exact rfl; intro b2) | ((with_reducible apply At.alloc (d := 4)); exact rfl; exact rfl; intro b4) | (refine zsp ?_ ?_ <;> (intro hc; (try simp only [zhcs, reduceCtorEq] at hc); (try (exfalso; first | omega | contradiction | omega | exact absurd rfl hc | exact absurd (by decide) hc))))))
  all_goals ((with_reducible apply At.retV (B := [])); exact rfl; (repeat' (first | exact RVs.nil | (with_reducible apply RVs.cons) | exact rv_tmp (by rfl) | exact rv_cellN (by rfl) (by repeat constructor) (by rfl) (by rfl) (by rfl) | exact rv_cell1 (by rfl) (by repeat constructor) (by rfl) (by rfl) | exact rv_cellA (by rfl) (by repeat constructor) (by rfl) (by rfl) zlq)); exact zml; exact zkp; exact ⟨rfl, rfl, rfl⟩)
/-! ### the document's -/
theorem bw_dig (z y s : Nat) : (dg (z + y) s : Int) - (dg y s : Int) - (cy z y s : Int) = (dg z s : Int) - 256 * (cy z y (s + 1) : Int) := by
  have h1 := cy_succ z y s
  have h2 := cy_dig z y s
  omega
end Wide
end Go.Proofs.YtnpgnlphdkbfiaaDoor
/- The document's division, bit by bit. -/
set_option linter.unusedSimpArgs false
set_option linter.unusedVariables false
set_option linter.unusedSectionVars false
set_option maxRecDepth 20000
set_option maxHeartbeats 4000000
namespace Go.Proofs.YtnpgnlphdkbfiaaDoor
open Go Go.J
attribute [local irreducible] At AtQ AtM AtM1 PR Ct Pu Rd Res.blk Res.own Res.ex RVs RV
namespace Wide
theorem i64_or8' : ∀ (a : Fin 256) (r : Fin 8), a.val % 2 ^ (r.val + 1) = 0 → bits .or .i64 (a.val : Int) ((2 ^ r.val : Nat) : Int) = ((a.val + 2 ^ r.val : Nat) : Int) := by decide +kernel
theorem i64_or8 {a r : Nat} (ha : a < 256) (hr : r < 8) (h : a % 2 ^ (r + 1) = 0) : bits .or .i64 (a : Int) ((2 ^ r : Nat) : Int) = ((a + 2 ^ r : Nat) : Int) := i64_or8' ⟨a, ha⟩ ⟨r, hr⟩ h
theorem i64_and1' : ∀ a : Fin 256, bits .and .i64 (a.val : Int) 1 = ((a.val % 2 : Nat) : Int) := by decide +kernel
theorem i64_and1 {a : Nat} (ha : a < 256) : bits .and .i64 (a : Int) 1 = ((a % 2 : Nat) : Int) := i64_and1' ⟨a, ha⟩
theorem pow_split (i : Nat) : (2 : Nat) ^ i = 256 ^ (i / 8) * 2 ^ (i % 8) := by
  rw [show (256 : Nat) = 2 ^ 8 from rfl, ← Nat.pow_mul, ← Nat.pow_add, Nat.div_add_mod]
theorem bit_of (x i : Nat) : dg x (i / 8) / 2 ^ (i % 8) % 2 = x / 2 ^ i % 2 := by
  have hr : i % 8 < 8 := Nat.mod_lt _ (by decide)
  unfold dg
  rw [pow_split i, ← Nat.div_div_eq_div_mul]
  generalize x / 256 ^ (i / 8) = a
  generalize i % 8 = r at *
  have e : (256 : Nat) = 2 ^ r * 2 ^ (8 - r) := by rw [← Nat.pow_add, show r + (8 - r) = 8 by omega]
  rw [e, Nat.mod_mul_right_div_self, Nat.mod_mod_of_dvd]
  rw [show 8 - r = (7 - r) + 1 by omega, Nat.pow_succ]
  exact Nat.dvd_mul_left _ _
theorem dg_zero (O i k : Nat) (hO : O % 2 ^ i = 0) (hk : k < i / 8) : dg O k = 0 := by
  unfold dg
  obtain ⟨q, rfl⟩ := Nat.dvd_of_mod_eq_zero hO
  have e : i = 8 * k + 8 + (i - (8 * k + 8)) := by omega
  rw [e, Nat.pow_add, Nat.pow_add, Nat.pow_mul, Nat.mul_assoc, Nat.mul_assoc, show (2 ^ 8 : Nat) = 256 from rfl, Nat.mul_div_cancel_left _ (Nat.pow_pos (by decide)), Nat.mul_mod_right]
theorem dg_or_mod (O i : Nat) (hO : O % 2 ^ (i + 1) = 0) : dg O (i / 8) % 2 ^ (i % 8 + 1) = 0 := by
  have hr : i % 8 < 8 := Nat.mod_lt _ (by decide)
  unfold dg
  obtain ⟨q, rfl⟩ := Nat.dvd_of_mod_eq_zero hO
  rw [Nat.pow_succ, pow_split i, Nat.mul_assoc, Nat.mul_assoc, Nat.mul_div_cancel_left _ (Nat.pow_pos (by decide)), ← Nat.mul_assoc, ← Nat.pow_succ]
  generalize i % 8 = r at *
  have e : (256 : Nat) = 2 ^ (r + 1) * 2 ^ (7 - r) := by rw [← Nat.pow_add, show r + 1 + (7 - r) = 8 by omega]
  rw [e, Nat.mod_mod_of_dvd _ (Nat.dvd_mul_right _ _), Nat.mul_mod_right]
theorem dg_add_bit (O i k : Nat) (hO : O % 2 ^ (i + 1) = 0) : dg (O + 2 ^ i) k = if k = i / 8 then dg O k + 2 ^ (i % 8) else dg O k := by
  have hr : i % 8 < 8 := Nat.mod_lt _ (by decide)
  by_cases h : k = i / 8
  · rw [if_pos h]
    subst h
    have hm := dg_or_mod O i hO
    have hl := dg_lt O (i / 8)
    have e : (O + 2 ^ i) / 256 ^ (i / 8) = O / 256 ^ (i / 8) + 2 ^ (i % 8) := by
      rw [pow_split i, Nat.add_mul_div_left _ _ (Nat.pow_pos (by decide))]
    unfold dg at *
    rw [e]
    generalize O / 256 ^ (i / 8) = a at *
    generalize i % 8 = r at *
    have hp : 2 ^ r < 256 := by
      have : (2 : Nat) ^ r ≤ 2 ^ 7 := Nat.pow_le_pow_right (by decide) (by omega)
      omega
    obtain ⟨q, hq⟩ := Nat.dvd_of_mod_eq_zero hm
    have h256 : (256 : Nat) = 2 ^ (r + 1) * 2 ^ (7 - r) := by rw [← Nat.pow_add, show r + 1 + (7 - r) = 8 by omega]
    have hq2 : q < 2 ^ (7 - r) := by
      apply Nat.lt_of_mul_lt_mul_left (a := 2 ^ (r + 1))
      rw [← hq, ← h256]; exact hl
    have hq3 : 2 ^ (r + 1) * (q + 1) ≤ 256 := by
      rw [h256]; exact Nat.mul_le_mul_left _ hq2
    rw [Nat.mul_add, ← hq, Nat.pow_succ] at hq3
    rw [Nat.add_mod, Nat.mod_eq_of_lt hp, Nat.mod_eq_of_lt (by omega)]
  · rw [if_neg h]
    by_cases h2 : k < i / 8
    · have hO' : O % 2 ^ i = 0 := by
        obtain ⟨q, rfl⟩ := Nat.dvd_of_mod_eq_zero hO
        rw [Nat.pow_succ, Nat.mul_assoc, Nat.mul_mod_right]
      rw [dg_zero O i k hO' h2, dg_zero _ i k (by rw [Nat.add_mod_right]; exact hO') h2]
    · unfold dg
      obtain ⟨q, rfl⟩ := Nat.dvd_of_mod_eq_zero hO
      have hk : i + 1 ≤ 8 * k := by omega
      have e : (256 : Nat) ^ k = 2 ^ (i + 1) * 2 ^ (8 * k - (i + 1)) := by rw [← Nat.pow_add, show i + 1 + (8 * k - (i + 1)) = 8 * k by omega, Nat.pow_mul]
      rw [e, ← Nat.div_div_eq_div_mul, ← Nat.div_div_eq_div_mul, Nat.mul_div_cancel_left _ (Nat.pow_pos (by decide)), Nat.mul_add_div (Nat.pow_pos (by decide)), Nat.div_eq_of_lt (show 2 ^ i < 2 ^ (i + 1) by rw [Nat.pow_succ]; have : 0 < 2 ^ i := Nat.pow_pos (by decide); omega), Nat.add_zero]
theorem tab_bit (O i : Nat) (hi : i < 128) (hO : O % 2 ^ (i + 1) = 0) : (tab (dg O)).set (i / 8) ((dg O (i / 8) + 2 ^ (i % 8) : Nat) : Int) = tab (dg (O + 2 ^ i)) := by
  rw [tab_set _ _ (by omega)]
  apply tab_congr
  intro j _
  rw [dg_add_bit O i j hO]
  by_cases h : j = i / 8
  · subst h; rw [if_pos rfl]
  · rw [if_neg h, if_neg h]
/-- one bit more -/
theorem div_bit (x n i : Nat) (hn : 0 < n) : x / 2 ^ i = 2 * (x / 2 ^ (i + 1)) + x / 2 ^ i % 2 ∧
    (2 * (x / 2 ^ (i + 1) % n) + x / 2 ^ i % 2 < n → x / 2 ^ i % n = 2 * (x / 2 ^ (i + 1) % n) + x / 2 ^ i % 2 ∧ x / 2 ^ i / n = 2 * (x / 2 ^ (i + 1) / n)) ∧
    (¬ 2 * (x / 2 ^ (i + 1) % n) + x / 2 ^ i % 2 < n → x / 2 ^ i % n = 2 * (x / 2 ^ (i + 1) % n) + x / 2 ^ i % 2 - n ∧ x / 2 ^ i / n = 2 * (x / 2 ^ (i + 1) / n) + 1) := by
  have e0 : x / 2 ^ (i + 1) = x / 2 ^ i / 2 := by rw [Nat.pow_succ, ← Nat.div_div_eq_div_mul]
  rw [e0]
  generalize x / 2 ^ i = a
  obtain ⟨c, hc⟩ : ∃ c, c = a / 2 := ⟨_, rfl⟩
  rw [← hc]
  have hd := Nat.div_add_mod c n
  have hm := Nat.mod_lt c hn
  have hq : n * (2 * (c / n)) = 2 * (n * (c / n)) := by rw [Nat.mul_left_comm]
  refine ⟨by omega, fun h => ?_, fun h => ?_⟩
  · have e : a = n * (2 * (c / n)) + (2 * (c % n) + a % 2) := by omega
    have e1 := Nat.mul_add_div hn (2 * (c / n)) (2 * (c % n) + a % 2)
    have e2 := Nat.mul_add_mod n (2 * (c / n)) (2 * (c % n) + a % 2)
    rw [← e, Nat.div_eq_of_lt h] at e1
    rw [← e, Nat.mod_eq_of_lt h] at e2
    exact ⟨e2, by omega⟩
  · have e : a = n * (2 * (c / n) + 1) + (2 * (c % n) + a % 2 - n) := by rw [Nat.mul_add, Nat.mul_one]; omega
    have hl : 2 * (c % n) + a % 2 - n < n := by omega
    have e1 := Nat.mul_add_div hn (2 * (c / n) + 1) (2 * (c % n) + a % 2 - n)
    have e2 := Nat.mul_add_mod n (2 * (c / n) + 1) (2 * (c % n) + a % 2 - n)
    rw [← e, Nat.div_eq_of_lt hl] at e1
    rw [← e, Nat.mod_eq_of_lt hl] at e2
    exact ⟨e2, by omega⟩
theorem wd_small {b : Nat} (h : b < 18446744073709551616) : Value.agg #[.int .u64 0, .int .u64 (b : Int)] = wv b := wd_mk (by omega) (by omega)
structure DS where
  (i : Nat) (O : Nat) (L : Nat)
end Wide
end Go.Proofs.YtnpgnlphdkbfiaaDoor
/- A number's digits, and the number of digits (no program). -/
set_option linter.unusedSimpArgs false
set_option linter.unusedVariables false
set_option linter.unusedSectionVars false
set_option maxRecDepth 20000
set_option maxHeartbeats 4000000
namespace Go.Proofs.YtnpgnlphdkbfiaaDoor
namespace Wide
abbrev dd := Lib.decDigits
theorem dd_small {u : Nat} (h : u < 10) : dd u = [UInt8.ofNat (48 + u)] := Lib.decDigits_one h
theorem dd_big {u : Nat} (h : ¬ u < 10) : dd u = dd (u / 10) ++ [UInt8.ofNat (48 + u % 10)] := by
  show Lib.decDigits u = _
  rw [Lib.decDigits, dif_neg h]
def pad : Nat → Nat → List UInt8
  | 0, _ => []
  | k + 1, r => pad k (r / 10) ++ [UInt8.ofNat (48 + r % 10)]
theorem pad_len : ∀ k r, (pad k r).length = k
  | 0, _ => rfl
  | k + 1, r => by simp [pad, pad_len k]
theorem dd_pad : ∀ (k q r : Nat), 0 < q → r < 10 ^ k → dd (q * 10 ^ k + r) = dd q ++ pad k r
  | 0, q, r, _, hr => by
    have : r = 0 := by simpa using hr
    subst this; simp [pad]
  | k + 1, q, r, hq, hr => by
    have hp : 0 < 10 ^ k := Nat.pow_pos (by decide)
    have e : q * 10 ^ (k + 1) = 10 * (q * 10 ^ k) := by rw [Nat.pow_succ, ← Nat.mul_assoc, Nat.mul_comm]
    have hqp : 10 ^ k ≤ q * 10 ^ k := Nat.le_mul_of_pos_left _ hq
    have ih := dd_pad k q (r / 10) hq (by rw [Nat.pow_succ] at hr; omega)
    rw [dd_big (by omega), e, show (10 * (q * 10 ^ k) + r) / 10 = q * 10 ^ k + r / 10 by omega, show (10 * (q * 10 ^ k) + r) % 10 = r % 10 by omega, ih, List.append_assoc]
    rfl
theorem dd_len_le : ∀ (k u : Nat), 0 < k → u < 10 ^ k → (dd u).length ≤ k
  | 0, _, h, _ => absurd h (Nat.lt_irrefl _)
  | k + 1, u, _, hu => by
    by_cases h : u < 10
    · rw [dd_small h]; simp
    · rw [dd_big h]
      rcases k with _ | k
      · simp at hu; omega
      · have := dd_len_le (k + 1) (u / 10) (by omega) (by rw [Nat.pow_succ] at hu; omega)
        simp only [List.length_append, List.length_singleton]; omega
theorem dd_ne (u : Nat) : dd u ≠ [] := by
  by_cases h : u < 10
  · rw [dd_small h]; simp
  · rw [dd_big h]; simp
theorem dd_pos (u : Nat) : 0 < (dd u).length := List.length_pos_iff.2 (dd_ne u)
/-- a text's digits -/
def dgt (c : UInt8) : Nat := (c.toNat + 208) % 256 % 10
def isd (c : UInt8) : Prop := 48 ≤ c.toNat ∧ c.toNat ≤ 57
instance (c : UInt8) : Decidable (isd c) := inferInstanceAs (Decidable (_ ∧ _))
def pv (s : List UInt8) : Nat := s.foldl (fun a c => a * 10 + dgt c) 0
theorem pv_snoc (t : List UInt8) (c : UInt8) : pv (t ++ [c]) = pv t * 10 + dgt c := by simp [pv, List.foldl_append]
theorem dgt_of {d : Nat} (h : d < 10) : dgt (UInt8.ofNat (48 + d)) = d := by
  unfold dgt
  rw [UInt8.toNat_ofNat', Nat.mod_eq_of_lt (show 48 + d < 2 ^ 8 by omega)]
  omega
theorem isd_of {d : Nat} (h : d < 10) : isd (UInt8.ofNat (48 + d)) := by
  unfold isd
  rw [UInt8.toNat_ofNat', Nat.mod_eq_of_lt (show 48 + d < 2 ^ 8 by omega)]
  omega
theorem of_dgt {c : UInt8} (h : isd c) : UInt8.ofNat (48 + dgt c) = c := by
  apply UInt8.toNat_inj.1
  have := UInt8.toNat_lt c
  unfold isd at h
  unfold dgt
  rw [UInt8.toNat_ofNat', show 48 + (c.toNat + 208) % 256 % 10 = c.toNat by omega, Nat.mod_eq_of_lt this]
theorem pv_dd (u : Nat) : pv (dd u) = u := by
  induction u using Nat.strongRecOn with
  | _ u ih =>
    by_cases h : u < 10
    · rw [dd_small h, show [UInt8.ofNat (48 + u)] = [] ++ [UInt8.ofNat (48 + u)] from rfl, pv_snoc, dgt_of h]
      show 0 * 10 + u = u
      omega
    · rw [dd_big h, pv_snoc, ih (u / 10) (by omega), dgt_of (Nat.mod_lt _ (by decide))]
      omega
theorem dd_isd (u : Nat) : ∀ c ∈ dd u, isd c := by
  induction u using Nat.strongRecOn with
  | _ u ih =>
    by_cases h : u < 10
    · rw [dd_small h]
      intro c hc
      rw [List.mem_singleton.1 hc]; exact isd_of h
    · rw [dd_big h]
      intro c hc
      rcases List.mem_append.1 hc with hc | hc
      · exact ih (u / 10) (by omega) c hc
      · rw [List.mem_singleton.1 hc]; exact isd_of (Nat.mod_lt _ (by decide))
/-- the first digit of what is not zero -/
theorem dd_lead (u : Nat) (hu : 0 < u) : (dd u).head? ≠ some 48 := by
  induction u using Nat.strongRecOn with
  | _ u ih =>
    by_cases h : u < 10
    · rw [dd_small h]
      intro e
      have e1 : UInt8.ofNat (48 + u) = 48 := Option.some.inj e
      have e2 := congrArg UInt8.toNat e1
      rw [UInt8.toNat_ofNat', Nat.mod_eq_of_lt (show 48 + u < 2 ^ 8 by omega)] at e2
      have : (48 : UInt8).toNat = 48 := rfl
      omega
    · rw [dd_big h, List.head?_append]
      have i := ih (u / 10) (by omega) (by omega)
      cases hd : (dd (u / 10)).head? with
      | none => exact absurd (List.head?_eq_none_iff.1 hd) (dd_ne _)
      | some c => rw [hd] at i; exact i
theorem dd_lead1 (u : Nat) (h : (dd u).head? = some 48) : (dd u).length = 1 := by
  by_cases h0 : u < 10
  · rw [dd_small h0]; rfl
  · exact absurd h (dd_lead u (by omega))
/-- a right text is that of its number -/
theorem dd_pv : ∀ (n : Nat) (s : List UInt8), s.length = n → s ≠ [] → (∀ c ∈ s, isd c) → (s.length = 1 ∨ s.head? ≠ some 48) → dd (pv s) = s := by
  intro n
  induction n with
  | zero => intro s hl hs; exact absurd (List.length_eq_zero_iff.1 hl) hs
  | succ n ih =>
    intro s hl hs hd h0
    obtain ⟨t, c, rfl⟩ : ∃ t c, s = t ++ [c] := ⟨s.dropLast, s.getLast hs, (List.dropLast_concat_getLast hs).symm⟩
    have hc := hd c (by simp)
    rw [pv_snoc]
    have hdl : dgt c < 10 := Nat.mod_lt _ (by decide)
    by_cases ht : t = []
    · subst ht
      show dd (0 * 10 + dgt c) = _
      rw [Nat.zero_mul, Nat.zero_add, dd_small hdl, of_dgt hc]; rfl
    · have hh : (t ++ [c]).head? = t.head? := by
        cases t with
        | nil => exact absurd rfl ht
        | cons a b => rfl
      have h1 : ¬ (t ++ [c]).length = 1 := by
        have := List.length_pos_iff.2 ht
        simp; omega
      have h2 : t.head? ≠ some 48 := by rw [← hh]; exact h0.resolve_left h1
      have i := ih t (by simpa using hl) ht (fun x hx => hd x (by simp [hx])) (.inr h2)
      have hp : 0 < pv t := by
        apply Nat.pos_of_ne_zero
        intro e
        rw [e] at i
        rw [← i] at h2
        exact h2 (by rw [dd_small (by decide)]; rfl)
      rw [dd_big (by omega), show (pv t * 10 + dgt c) / 10 = pv t by omega, show (pv t * 10 + dgt c) % 10 = dgt c by omega, i, of_dgt hc]
theorem pv_take {s : List UInt8} {i : Nat} (h : i < s.length) : pv (s.take (i + 1)) = pv (s.take i) * 10 + dgt (s[i]!) := by
  rw [List.take_add_one, List.getElem?_eq_getElem h, getElem!_pos s i h]
  exact pv_snoc _ _
theorem pv_mono {s : List UInt8} (i : Nat) : pv (s.take i) ≤ pv s := by
  have : ∀ (r : List UInt8) (a : Nat), a ≤ r.foldl (fun a c => a * 10 + dgt c) a := by
    intro r
    induction r with
    | nil => intro a; exact Nat.le_refl _
    | cons c r ih => intro a; exact Nat.le_trans (by omega) (ih (a * 10 + dgt c))
  conv => rhs; rw [← List.take_append_drop i s]
  unfold pv
  rw [List.foldl_append]
  exact this _ _
/-- what a text's number is, and whether it has one -/
def pok (s : List UInt8) : Prop := dd (pv s) = s ∧ pv s < 340282366920938463463374607431768211456
instance (s : List UInt8) : Decidable (pok s) := inferInstanceAs (Decidable (_ ∧ _))
def pV (s : List UInt8) : Nat := if pok s then pv s else 0
def pE (s : List UInt8) : Int := if pok s then 0 else 4
theorem pok_dd {u : Nat} (h : u < 340282366920938463463374607431768211456) : pok (dd u) := by
  unfold pok
  rw [pv_dd]
  exact ⟨rfl, h⟩
theorem pok_isd {s : List UInt8} (h : pok s) : ∀ c ∈ s, isd c := by
  rw [← h.1]; exact dd_isd _
theorem pok_len {s : List UInt8} (h : pok s) : s.length ≤ 39 := by
  rw [← h.1]
  exact dd_len_le 39 _ (by decide) (Nat.lt_trans h.2 (by decide))
theorem pok_take {s : List UInt8} (h : pok s) (i : Nat) : pv (s.take i) < 340282366920938463463374607431768211456 := Nat.lt_of_le_of_lt (pv_mono i) h.2
/-- a text of eighteen digits more -/
theorem dd_text (x : Nat) (h : 18446744073709551616 ≤ x) : dd x = dd (x / 1000000000000000000) ++ (dd (1000000000000000000 + x % 1000000000000000000)).drop ((dd (1000000000000000000 + x % 1000000000000000000)).length - 18) ∧ (dd (1000000000000000000 + x % 1000000000000000000)).length = 19 := by
  have p : (10 : Nat) ^ 18 = 1000000000000000000 := rfl
  have hr : x % 1000000000000000000 < 10 ^ 18 := by rw [p]; exact Nat.mod_lt _ (by decide)
  have e1 := dd_pad 18 (x / 1000000000000000000) (x % 1000000000000000000) (by omega) hr
  have e2 := dd_pad 18 1 (x % 1000000000000000000) (by decide) hr
  rw [p] at e1 e2
  have e3 : x / 1000000000000000000 * 1000000000000000000 + x % 1000000000000000000 = x := Nat.div_add_mod' x _
  rw [e3] at e1
  rw [Nat.one_mul, dd_small (show 1 < 10 by decide)] at e2
  have hl : (dd (1000000000000000000 + x % 1000000000000000000)).length = 19 := by rw [e2]; simp [pad_len]
  refine ⟨?_, hl⟩
  rw [hl, e1, e2, show 19 - 18 = 1 from rfl]
  exact congrArg (_ ++ ·) (List.drop_left (l₁ := [UInt8.ofNat (48 + 1)])).symm
end Wide
end Go.Proofs.YtnpgnlphdkbfiaaDoor
/- append where there is no room: to whatever can be read, into what is new. -/
set_option linter.unusedSimpArgs false
set_option linter.unusedVariables false
set_option linter.unusedSectionVars false
set_option maxRecDepth 20000
namespace Go.J
open Go
section
variable {P : Program} {n : Nat} {w0 : World} {F : Fr} {m : Mem} {Rs : List Res} {Q : Exit → Act → World → Prop} {α : Type} [Inhabited α] {f : α → List Value} {sz : Nat}
theorem At.appendF {ops : Array Oper} {rest : List Oper} {d : Nat} {x y : Operand} {t tx e2 : TypeId} {ty : TypeId} {pos : String} {aft : Array Edge} {E : TypeId} {p p2 : Option Addr} {c ln ln2 c2 : Nat} {l l2 : List α}
    (hx : ev F x = some (.slice p ln c)) (hy : ev F y = some (.slice p2 ln2 c2)) (h1 : Rdb (HW w0 m Rs) f sz p c l) (hln : ln = l.length) (h2 : Rdb (HW w0 m Rs) f sz p2 c2 l2) (hl2 : ln2 = l2.length)
    (ht : P.underlying t = some (.slice E)) (ht2 : P.underlying tx = some (.slice e2)) (he : elemB P E sz = true) (hc : c < l.length + l2.length)
    (hsm : l.length + l2.length ≤ 34359738368) (hd : Nat.blt d n = true)
    (h : ∀ p' c', At n w0 ((d, .slice p' (l ++ l2).length c') :: F) m (.own f sz E p' c' (l ++ l2) :: Rs) (wpList P ops Q rest)) :
    At n w0 F m Rs (wpList P ops Q (⟨some d, .call ⟨.builtin .append, #[x, y], #[t, tx]⟩, ty, pos, aft, none⟩ :: rest)) := fun a w ha hw =>
  wpList_plain rfl fun K hK => by
    subst hln hl2
    have hf := h1.fl
    obtain ⟨i, z, hi, hz, hsz, hbt, hzs⟩ := elemB_spec he
    have hby : (l.length + l2.length) * i.bytes ≤ 140737488355328 := Nat.le_trans (Nat.mul_le_mul hsm hbt) (by omega)
    have h63 : l.length + l2.length ≤ maxLen := by simp only [maxLen]; omega
    have hsmall : ((l.length + l2.length : Nat) : Int) ≤ 9223372036854775807 := by omega
    have s1 := rdb_src (P := P) h1 hw ht
    have s2 := rdb_src (P := P) h2 hw ht2
    have hl1 := flatMap_length hf.len l
    have hl2 := flatMap_length hf.len l2
    have hll : (l ++ l2).length = l.length + l2.length := by simp
    have hold : (Builtin.firstCells i.size l.length (.slice p l.length c)).run P w.drew = .ok (l.flatMap f).toArray w.drew := by rw [hsz]; exact s1.cellsD
    have hr := run_append_grow_src (P := P) (ty := ty) (w := w) t tx E i z ht hi hz p l.length c (l.flatMap f) hold (.slice p2 l2.length c2) l2.length (l2.flatMap f) (by rw [hsz]; exact s2) hc hsmall (growslice_fits hc hby)
    have hge := grownCap_ge w (l.length + l2.length) c E
    have hcm : grownCap w (l.length + l2.length) c E ≤ maxLen := grownCap_le_maxLen w (l.length + l2.length) c E h63
    rw [← hll] at hr hge hcm
    unfold Oper.wp
    have hrun : ∀ v w', (Builtin.append_ #[t, tx] ty #[.slice p l.length c, .slice p2 l2.length c2]).run P w = .ok v w' → (execOp a.eval ⟨some d, .call ⟨.builtin .append, #[x, y], #[t, tx]⟩, ty, pos, aft, none⟩).run P w = .ok (.value v) w' := fun v w' hr => by
      rw [BigFrame.execOp_builtin]
      simp [BigFrame.builtin_append, ha.ev hx, ha.ev hy, hr]
    rw [hrun _ _ hr]
    refine hK _ _ (h _ _ _ _ (ha.put hd) (hw.add rfl rfl rfl (by simp) (fun k hk => heap_alloc_old w.drew _ hk) ⟨fun k => k = w.heap.size, .inr ⟨w.heap.size, 0, _, rfl, heap_alloc_new w.drew _, hge, hcm, ?_, fun j hj => ?_, fun _ => Iff.rfl⟩, fun k hk => by omega⟩))
    · simp only [Array.size_append, List.size_toArray, size_zeroCells, hzs, List.length_append, hl1, hl2, ← Nat.add_mul]
      rw [List.length_append] at hge
      rw [Nat.add_sub_cancel' hge, Nat.zero_add]
      exact Nat.le_refl _
    · rw [Nat.zero_add, List.flatMap_append, Array.getElem?_append_left (by
        rw [hll, Nat.add_mul] at hj
        simp only [List.size_toArray, List.length_append, hl1, hl2]; omega)]
      simp
theorem addr_add0 (a : Addr) : a.add 0 = a := by cases a; simp [Addr.add]
theorem subp0 (p : Option Addr) (c sz : Nat) : subp p c 0 sz = p := by
  unfold subp
  split
  · rfl
  · rw [Nat.zero_mul]; cases p <;> simp [addr_add0]
theorem Rdb.cut {C : World → Prop} {p : Option Addr} {c : Nat} {l : List α} (h : Rdb C f sz p c l) (hi : Nat) (h1 : hi ≤ l.length) : Rdb C f sz p hi (l.take hi) := by
  have := Rdb.subh h hi h1
  rw [subp0] at this
  exact ⟨this.fl, this.some, fun w hw => by rw [List.length_take]; omega, this.cell⟩
/-- a part from the front, with no room behind it -/
theorem run_slice3 {t e : TypeId} (ht : P.underlying t = some (.slice e)) (hs : sizeB P e = some sz) (p : Option Addr) (l c hi : Nat) (h2 : hi ≤ c) (k k' : IntKind) (w : World) :
    (Instr.sliceAt t (.slice p l c) none (some (.int k (hi : Int))) (some (.int k' (hi : Int)))).run P w = .ok (.slice p hi hi) w := by
  have hr : ∀ w, (underlying t).run P w = .ok (.slice e) w := fun w => by simp only [underlying, program, bind, Sem.bind, Sem.run, ht]; rfl
  have a2 : (0 : Int) ≤ (hi : Int) ∧ (hi : Int) ≤ (c : Int) := ⟨by omega, by omega⟩
  unfold Instr.sliceAt
  simp only [Sem.run_bind, hr, Result.andThen]
  unfold Instr.slice
  simp only [Sem.run_bind, hr, Result.andThen]
  have hb : (Instr.sliceBounds true l c none (some (.int k (hi : Int))) (some (.int k' (hi : Int)))).run P w = .ok (0, hi, hi) w := by
    unfold Instr.sliceBounds Instr.sliceBound
    simp [asIntOf, pure, Sem.run, bind, Sem.bind, h2]
  rw [hb]
  simp only [run_sizeOf hs, pure, Sem.run]
  have := subp0 p hi sz
  unfold subp at this
  simp only [Nat.sub_zero, this]
theorem pr_slice3 {C : World → Prop} {x y z : Operand} {t e : TypeId} {p : Option Addr} {l c hi : Nat} {k k' : IntKind} (hx : ev F x = some (.slice p l c)) (hz : ev F z = some (.int k (hi : Int))) (hy : ev F y = some (.int k' (hi : Int))) (ht : P.underlying t = some (.slice e)) (hs : sizeB P e = some sz) (hle : LeSz C sz c l) (h2 : hi ≤ l) :
    PR P n F C (.slice t x none (some z) (some y)) (.slice p hi hi) := fun _ _ _ _ _ a w ha hC => by
  simp only [execOp, ha.ev hx, Sem.run_bind, Option.map_none, Option.map_some, ha.ev hz, ha.ev hy]
  rw [run_slice3 ht hs p l c hi (Nat.le_trans h2 (hle w hC))]
  rfl
end
end Go.J

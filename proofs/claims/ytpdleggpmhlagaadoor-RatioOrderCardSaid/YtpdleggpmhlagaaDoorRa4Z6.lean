/- Part 6 of what the law's proof needs: rules of the walk, contracts of functions, plain laws. No condition. -/
import Derived.Test.YtpdleggpmhlagaaDoorRa4Z5
import Derived.Lib.ItoaNum
/- Ratios: the greatest common divisor, by halving. -/
set_option linter.unusedSimpArgs false
set_option linter.unusedVariables false
set_option linter.unusedSectionVars false
set_option maxRecDepth 20000
set_option maxHeartbeats 4000000
namespace Go.Proofs.YtpdleggpmhlagaaDoor
open Go Go.J
attribute [local irreducible] At AtQ AtM AtM1 PR Ct Pu Rd Res.blk Res.own Res.ex RVs RV
namespace Ra
open Wide
theorem pr_minN {n : Nat} {F : Fr} {C : World → Prop} {x y : Operand} {k : IntKind} {p q : Nat} {ts : Array TypeId} (hx : ev F x = some (.int k (p : Int))) (hy : ev F y = some (.int k (q : Int))) : PR Tryd.prog n F C (.call ⟨.builtin .min, #[x, y], ts⟩) (.int k ((min p q : Nat) : Int)) := by
  rw [show ((min p q : Nat) : Int) = min (p : Int) (q : Int) by omega]
  exact pr_minI hx hy
theorem or_zero' (a : Nat) (h : a < 18446744073709551616) : bits .or .u64 (a : Int) 0 = (a : Int) := by
  have := bits_or_u64_nat a 0 h (by decide)
  rw [Nat.or_zero] at this
  exact this
theorem zero_or' (a : Nat) (h : a < 18446744073709551616) : bits .or .u64 0 (a : Int) = (a : Int) := by
  have := bits_or_u64_nat 0 a (by decide) h
  rw [Nat.zero_or] at this
  exact this
structure GS where
  (a b : Nat)
theorem gcd {m : Mem} (ht : TZ m) (x y : Nat) (hx : x < 340282366920938463463374607431768211456) (hy : y < 340282366920938463463374607431768211456) : Rd Tryd.prog 14 #[wv x, wv y] m [] (wv (Nat.gcd x y)) := by
  unfold Rd
  have hxh : x / 18446744073709551616 < 18446744073709551616 := by omega
  have hyh : y / 18446744073709551616 < 18446744073709551616 := by omega
  have n1 := none_ x
  have n2 := none_ y
  by_cases h0 : x = 0
  · rw [decide_eq_true h0] at n1
    subst h0
    rw [Nat.gcd_zero_left]
    have e1 := zero_or' _ hyh
    have e2 := zero_or' _ (show y % 18446744073709551616 < 18446744073709551616 by omega)
    refine Ct.enterV (by rfl) Tryd.func14 rfl Tryd.ntmps14 rfl (fun w0 Rest => ?_)
    (repeat' (first | refine zss ?_ | ((first | (with_reducible first | apply At.val | apply AtQ.val)); (first | exact pr_or (by rfl) (by rfl) e1 | exact pr_or (by rfl) (by rfl) e2); exact rfl) | refine zs0 ?_ | ((with_reducible first | apply AtM1.callp | apply AtQ.callp | apply At.callp); kernel_rfl; exact rfl; exact rfl; exact n1) | ((with_reducible first | apply AtM1.callp | apply AtQ.callp | apply At.callp); kernel_rfl; exact rfl; exact rfl; exact n2) | ((with_reducible apply At.box (d := 2)); exact rfl; exact rfl; exact rfl; intro b2) | ((with_reducible apply At.box (d := 3)); exact rfl; exact rfl; exact rfl; intro b3) | ((with_reducible apply At.alloc (d := 4)); exact rfl; exact rfl; intro b4) | (refine zsp ?_ ?_ <;> (intro hc; (try simp only [zhcs, reduceCtorEq] at hc); (try (exfalso; first | contradiction | omega | exact absurd rfl hc | exact absurd (by decide) hc))))))
    all_goals ((with_reducible apply At.retV (B := [])); exact rfl; (repeat' (first | exact RVs.nil | (with_reducible apply RVs.cons) | exact rv_tmp (by rfl) | exact rv_cellN (by rfl) (by repeat constructor) (by rfl) (by rfl) (by rfl) | exact rv_cell1 (by rfl) (by repeat constructor) (by rfl) (by rfl))); exact zml; exact zkp; exact ⟨rfl, rfl, rfl⟩)
  rw [decide_eq_false h0] at n1
  by_cases h1 : y = 0
  · rw [decide_eq_true h1] at n2
    subst h1
    rw [Nat.gcd_zero_right]
    have e1 := or_zero' _ hxh
    have e2 := or_zero' _ (show x % 18446744073709551616 < 18446744073709551616 by omega)
    refine Ct.enterV (by rfl) Tryd.func14 rfl Tryd.ntmps14 rfl (fun w0 Rest => ?_)
    (repeat' (first | refine zss ?_ | ((first | (with_reducible first | apply At.val | apply AtQ.val)); (first | exact pr_or (by rfl) (by rfl) e1 | exact pr_or (by rfl) (by rfl) e2); exact rfl) | refine zs0 ?_ | ((with_reducible first | apply AtM1.callp | apply AtQ.callp | apply At.callp); kernel_rfl; exact rfl; exact rfl; exact n1) | ((with_reducible first | apply AtM1.callp | apply AtQ.callp | apply At.callp); kernel_rfl; exact rfl; exact rfl; exact n2) | ((with_reducible apply At.box (d := 2)); exact rfl; exact rfl; exact rfl; intro b2) | ((with_reducible apply At.box (d := 3)); exact rfl; exact rfl; exact rfl; intro b3) | ((with_reducible apply At.alloc (d := 4)); exact rfl; exact rfl; intro b4) | (refine zsp ?_ ?_ <;> (intro hc; (try simp only [zhcs, reduceCtorEq] at hc); (try (exfalso; first | contradiction | omega | exact absurd rfl hc | exact absurd (by decide) hc))))))
    all_goals ((with_reducible apply At.retV (B := [])); exact rfl; (repeat' (first | exact RVs.nil | (with_reducible apply RVs.cons) | exact rv_tmp (by rfl) | exact rv_cellN (by rfl) (by repeat constructor) (by rfl) (by rfl) (by rfl) | exact rv_cell1 (by rfl) (by repeat constructor) (by rfl) (by rfl))); exact zml; exact zkp; exact ⟨rfl, rfl, rfl⟩)
  rw [decide_eq_false h1] at n2
  have k1 := fun (m' : Mem) (hm' : m.le m') => noughts (m := m') (ht.mono hm') x hx
  have k2 := fun (m' : Mem) (hm' : m.le m') => noughts (m := m') (ht.mono hm') y hy
  obtain ⟨_, _, q1⟩ := nt_spec h0 hx
  obtain ⟨_, _, q2⟩ := nt_spec h1 hy
  have kd := down x (nt x) hx q1
  have hend := gcd_end h0 hx h1 hy
  obtain ⟨o1, o2⟩ := od_spec h0 hx
  have hox : od x < 340282366920938463463374607431768211456 := Nat.lt_of_le_of_lt (Nat.div_le_self _ _) hx
  have hG : Nat.gcd x y < 340282366920938463463374607431768211456 := Nat.lt_of_le_of_lt (Nat.gcd_le_left y (by omega)) hx
  generalize Nat.gcd x y = G at hend hG ⊢
  have kd' : Pu Tryd.prog 29 #[wv x, .int .i64 ((nt x : Nat) : Int)] (wv (od x)) := kd
  clear kd
  generalize od x = u at kd' hend o2 hox
  refine Ct.enterV (by rfl) Tryd.func14 rfl Tryd.ntmps14 rfl (fun w0 Rest => ?_)
  (repeat' (first | ((with_reducible apply At.mixed (id := 4) 5 (.q 0 (.q 1 (.q 2 (.q 3 (.x 4 .done)))))); exact rfl; kernel_rfl; kernel_rfl; kernel_rfl) | ((with_reducible apply At.mixed (id := 6) 5 (.q 0 (.q 1 (.q 2 (.q 3 (.x 4 .done)))))); exact rfl; kernel_rfl; kernel_rfl; kernel_rfl) | refine zsx ?_ | refine zss ?_ | ((with_reducible apply AtM.bo); exact rfl; exact rfl; exact rfl) | ((first | (with_reducible first | apply At.val | apply AtQ.val) | ((with_reducible first | apply AtM1.valz | apply AtM1.val); exact rfl) | ((with_reducible apply AtM1.val); exact rfl)); (exact pr_minN (by rfl) (by rfl)); exact rfl) | refine zs0 ?_ | refine zx0 ?_ | ((with_reducible first | apply AtM1.callp | apply AtQ.callp | apply At.callp); kernel_rfl; exact rfl; exact rfl; exact n1) | ((with_reducible first | apply AtM1.callp | apply AtQ.callp | apply At.callp); kernel_rfl; exact rfl; exact rfl; exact n2) | ((with_reducible first | apply AtM1.cr | apply AtQ.cr | apply At.cr); exact rfl; exact rfl; exact fun _ hmm => k1 _ hmm; exact ztk; kernel_rfl) | ((with_reducible first | apply AtM1.cr | apply AtQ.cr | apply At.cr); exact rfl; exact rfl; exact fun _ hmm => k2 _ hmm; exact ztk; kernel_rfl) | ((with_reducible first | apply AtM1.callp | apply AtQ.callp | apply At.callp); kernel_rfl; exact rfl; exact rfl; exact kd') | ((with_reducible apply At.box (d := 2)); exact rfl; exact rfl; exact rfl; intro b2) | ((with_reducible apply At.box (d := 3)); exact rfl; exact rfl; exact rfl; intro b3) | ((with_reducible apply At.alloc (d := 4)); exact rfl; exact rfl; intro b4) | (refine zsp ?_ ?_ <;> (intro hc; (try simp only [zhcs, reduceCtorEq] at hc); (try (exfalso; first | contradiction | omega | exact absurd rfl hc | exact absurd (by decide) hc))))))
  clear k1 k2 n1 n2 kd' hx hxh hyh
  (refine At.loopk (σ := GS) [2, 3, 4, 5] (fun s F0 => F0) (fun s => m) (fun s => .blk b2 24 (wd s.a) :: .blk b3 24 (wd s.b) :: .blk b4 24 (wd 0) :: Rest) (fun s => s.a % 2 = 1 ∧ s.a < 340282366920938463463374607431768211456 ∧ s.b < 340282366920938463463374607431768211456 ∧ Nat.gcd s.a s.b = Nat.gcd u y) (fun s => s.a + s.b) ⟨u, y⟩ (by rfl) ?_ zsubs zml zente ?_)
  · exact ⟨o2, hox, hy, rfl⟩
  rintro ⟨a, b⟩ ⟨g1, g2, g3, g4⟩
  dsimp only at g1 g2 g3 g4 ⊢
  have n3 := none_ b
  by_cases hb : b = 0
  · rw [decide_eq_true hb] at n3
    subst hb
    rw [Nat.gcd_zero_right] at g4
    rw [← g4, Nat.mul_comm] at hend
    have ku := up a (min (nt x) (nt y)) (by rw [hend]; exact hG) g2 (by omega)
    rw [hend] at ku
    (repeat' (first | refine zss ?_ | refine zs0 ?_ | ((with_reducible first | apply AtM1.callp | apply AtQ.callp | apply At.callp); kernel_rfl; exact rfl; exact rfl; exact n3) | ((with_reducible first | apply AtM1.callp | apply AtQ.callp | apply At.callp); kernel_rfl; exact rfl; exact rfl; exact ku) | ((with_reducible apply At.box (d := 2)); exact rfl; exact rfl; exact rfl; intro b2) | ((with_reducible apply At.box (d := 3)); exact rfl; exact rfl; exact rfl; intro b3) | ((with_reducible apply At.alloc (d := 4)); exact rfl; exact rfl; intro b4) | (refine zsp ?_ ?_ <;> (intro hc; (try simp only [zhcs, reduceCtorEq] at hc); (try (exfalso; first | contradiction | omega | exact absurd rfl hc | exact absurd (by decide) hc))))))
    all_goals ((with_reducible apply At.retV (B := [])); exact rfl; (repeat' (first | exact RVs.nil | (with_reducible apply RVs.cons) | exact rv_tmp (by rfl) | exact rv_cellN (by rfl) (by repeat constructor) (by rfl) (by rfl) (by rfl) | exact rv_cell1 (by rfl) (by repeat constructor) (by rfl) (by rfl))); exact zml; exact zkp; exact ⟨rfl, rfl, rfl⟩)
  · rw [decide_eq_false hb] at n3
    obtain ⟨s1, s2, s3⟩ := gcd_step g1 hb g3
    obtain ⟨_, _, q3⟩ := nt_spec hb g3
    have k3 := fun (m' : Mem) (hm' : m.le m') => noughts (m := m') (ht.mono hm') b g3
    have kd : Pu Tryd.prog 29 #[wv b, .int .i64 ((nt b : Nat) : Int)] (wv (od b)) := down b (nt b) g3 q3
    have hob : od b < 340282366920938463463374607431768211456 := Nat.lt_of_le_of_lt (Nat.div_le_self _ _) g3
    generalize od b = c at s1 s2 s3 kd hob
    have kl := less c a
    clear q3
    by_cases hc2 : c < a
    · rw [decide_eq_true hc2] at kl
      rw [Nat.min_eq_right (Nat.le_of_lt hc2), Nat.max_eq_left (Nat.le_of_lt hc2)] at s1 s3
      rw [Nat.min_eq_right (Nat.le_of_lt hc2)] at s2
      have km := lessR a c g2 hob
      (repeat' (first | ((with_reducible apply At.mixed (id := 4) 5 (.q 0 (.q 1 (.q 2 (.q 3 (.x 4 .done)))))); exact rfl; kernel_rfl; kernel_rfl; kernel_rfl) | ((with_reducible apply At.mixed (id := 6) 5 (.q 0 (.q 1 (.q 2 (.q 3 (.x 4 .done)))))); exact rfl; kernel_rfl; kernel_rfl; kernel_rfl) | refine zsx ?_ | refine zss ?_ | ((with_reducible apply AtM.bo); exact rfl; exact rfl; exact rfl) | refine zs0 ?_ | refine zx0 ?_ | ((with_reducible first | apply AtM1.callp | apply AtQ.callp | apply At.callp); kernel_rfl; exact rfl; exact rfl; exact n3) | ((with_reducible first | apply AtM1.cr | apply AtQ.cr | apply At.cr); exact rfl; exact rfl; exact fun _ hmm => k3 _ hmm; exact ztk; kernel_rfl) | ((with_reducible first | apply AtM1.callp | apply AtQ.callp | apply At.callp); kernel_rfl; exact rfl; exact rfl; exact kd) | ((with_reducible first | apply AtM1.callp | apply AtQ.callp | apply At.callp); kernel_rfl; exact rfl; exact rfl; exact kl) | ((with_reducible first | apply AtM1.callp | apply AtQ.callp | apply At.callp); kernel_rfl; exact rfl; exact rfl; exact km) | ((with_reducible apply At.box (d := 2)); exact rfl; exact rfl; exact rfl; intro b2) | ((with_reducible apply At.box (d := 3)); exact rfl; exact rfl; exact rfl; intro b3) | ((with_reducible apply At.alloc (d := 4)); exact rfl; exact rfl; intro b4) | (refine zsp ?_ ?_ <;> (intro hc; (try simp only [zhcs, reduceCtorEq] at hc); (try (exfalso; first | contradiction | omega | exact absurd rfl hc | exact absurd (by decide) hc))))))
      all_goals ((with_reducible refine At.reachk ((⟨c, a - c⟩ : GS)) ?_ ?_ ?_ ?_); exact zsubs; exact zml; exact zente; exact ⟨⟨s2, hob, Nat.lt_of_le_of_lt (Nat.sub_le _ _) g2, s1.trans g4⟩, s3⟩)
    · rw [decide_eq_false hc2] at kl
      have hle := Nat.le_of_not_lt hc2
      rw [Nat.min_eq_left hle, Nat.max_eq_right hle] at s1 s3
      have km := lessR c a hob g2
      (repeat' (first | ((with_reducible apply At.mixed (id := 4) 5 (.q 0 (.q 1 (.q 2 (.q 3 (.x 4 .done)))))); exact rfl; kernel_rfl; kernel_rfl; kernel_rfl) | ((with_reducible apply At.mixed (id := 6) 5 (.q 0 (.q 1 (.q 2 (.q 3 (.x 4 .done)))))); exact rfl; kernel_rfl; kernel_rfl; kernel_rfl) | refine zsx ?_ | refine zss ?_ | ((with_reducible apply AtM.bo); exact rfl; exact rfl; exact rfl) | refine zs0 ?_ | refine zx0 ?_ | ((with_reducible first | apply AtM1.callp | apply AtQ.callp | apply At.callp); kernel_rfl; exact rfl; exact rfl; exact n3) | ((with_reducible first | apply AtM1.cr | apply AtQ.cr | apply At.cr); exact rfl; exact rfl; exact fun _ hmm => k3 _ hmm; exact ztk; kernel_rfl) | ((with_reducible first | apply AtM1.callp | apply AtQ.callp | apply At.callp); kernel_rfl; exact rfl; exact rfl; exact kd) | ((with_reducible first | apply AtM1.callp | apply AtQ.callp | apply At.callp); kernel_rfl; exact rfl; exact rfl; exact kl) | ((with_reducible first | apply AtM1.callp | apply AtQ.callp | apply At.callp); kernel_rfl; exact rfl; exact rfl; exact km) | ((with_reducible apply At.box (d := 2)); exact rfl; exact rfl; exact rfl; intro b2) | ((with_reducible apply At.box (d := 3)); exact rfl; exact rfl; exact rfl; intro b3) | ((with_reducible apply At.alloc (d := 4)); exact rfl; exact rfl; intro b4) | (refine zsp ?_ ?_ <;> (intro hc; (try simp only [zhcs, reduceCtorEq] at hc); (try (exfalso; first | contradiction | omega | exact absurd rfl hc | exact absurd (by decide) hc))))))
      all_goals ((with_reducible refine At.reachk ((⟨a, c - a⟩ : GS)) ?_ ?_ ?_ ?_); exact zsubs; exact zml; exact zente; exact ⟨⟨g1, g2, Nat.lt_of_le_of_lt (Nat.sub_le _ _) hob, s1.trans g4⟩, s3⟩)
end Ra
end Go.Proofs.YtpdleggpmhlagaaDoor
/- Ratios: one number by another, and the check. -/
set_option linter.unusedSimpArgs false
set_option linter.unusedVariables false
set_option linter.unusedSectionVars false
set_option maxRecDepth 20000
set_option maxHeartbeats 4000000
namespace Go.Proofs.YtpdleggpmhlagaaDoor
open Go Go.J
attribute [local irreducible] At AtQ AtM AtM1 PR Ct Pu Rd Res.blk Res.own Res.ex RVs RV
namespace Ra
open Wide
theorem times_ (x y : Nat) (hx : x < 340282366920938463463374607431768211456) (hy : y < 340282366920938463463374607431768211456) : Pu Tryd.prog 35 #[wv x, wv y] (.tuple #[wv (sV (x * y)), .int .i64 (sE (x * y))]) := Pu.intro fun m => by
  by_cases h1 : x < 18446744073709551616
  · have z1 : x / 18446744073709551616 = 0 := by omega
    have z2 : x % 18446744073709551616 = x := by omega
    have k1 := times y x hy h1
    rw [Nat.mul_comm] at k1
    rw [show wv x = .agg #[.int .u64 0, .int .u64 (x : Int)] from (wd_mk (by rw [z1]; rfl) (by rw [z2])).symm]
    refine Ct.enterV (by rfl) Tryd.func35 rfl Tryd.ntmps35 rfl (fun w0 Rest => ?_)
    (repeat' (first | refine zss ?_ | refine zs0 ?_ | ((with_reducible first | apply AtM1.callp | apply AtQ.callp | apply At.callp); kernel_rfl; exact rfl; exact rfl; exact k1) | ((with_reducible apply At.box (d := 2)); exact rfl; exact rfl; exact rfl; intro b2) | ((with_reducible apply At.box (d := 3)); exact rfl; exact rfl; exact rfl; intro b3) | ((with_reducible apply At.alloc (d := 4)); exact rfl; exact rfl; intro b4) | (refine zsp ?_ ?_ <;> (intro hc; (try simp only [zhcs, reduceCtorEq] at hc); (try (exfalso; first | contradiction | omega | exact absurd rfl hc | exact absurd (by decide) hc))))))
    all_goals ((with_reducible apply At.retV (B := [])); exact rfl; (repeat' (first | exact RVs.nil | (with_reducible apply RVs.cons) | exact rv_tmp (by rfl) | exact rv_cellN (by rfl) (by repeat constructor) (by rfl) (by rfl) (by rfl) | exact rv_cell1 (by rfl) (by repeat constructor) (by rfl) (by rfl))); exact zml; exact zkp; exact ⟨rfl, rfl, rfl⟩)
  · have n1 : ¬ ((x / 18446744073709551616 : Nat) : Int) = 0 := by omega
    by_cases h2 : y < 18446744073709551616
    · have z1 : y / 18446744073709551616 = 0 := by omega
      have z2 : y % 18446744073709551616 = y := by omega
      have k1 := times x y hx h2
      rw [show wv y = .agg #[.int .u64 0, .int .u64 (y : Int)] from (wd_mk (by rw [z1]; rfl) (by rw [z2])).symm]
      refine Ct.enterV (by rfl) Tryd.func35 rfl Tryd.ntmps35 rfl (fun w0 Rest => ?_)
      (repeat' (first | refine zss ?_ | refine zs0 ?_ | ((with_reducible first | apply AtM1.callp | apply AtQ.callp | apply At.callp); kernel_rfl; exact rfl; exact rfl; exact k1) | ((with_reducible apply At.box (d := 2)); exact rfl; exact rfl; exact rfl; intro b2) | ((with_reducible apply At.box (d := 3)); exact rfl; exact rfl; exact rfl; intro b3) | ((with_reducible apply At.alloc (d := 4)); exact rfl; exact rfl; intro b4) | (refine zsp ?_ ?_ <;> (intro hc; (try simp only [zhcs, reduceCtorEq] at hc); (try (exfalso; first | (first | omega | exact absurd hc n1) | contradiction | omega | exact absurd rfl hc | exact absurd (by decide) hc))))))
      all_goals ((with_reducible apply At.retV (B := [])); exact rfl; (repeat' (first | exact RVs.nil | (with_reducible apply RVs.cons) | exact rv_tmp (by rfl) | exact rv_cellN (by rfl) (by repeat constructor) (by rfl) (by rfl) (by rfl) | exact rv_cell1 (by rfl) (by repeat constructor) (by rfl) (by rfl))); exact zml; exact zkp; exact ⟨rfl, rfl, rfl⟩)
    · have n2 : ¬ ((y / 18446744073709551616 : Nat) : Int) = 0 := by omega
      have hb : 340282366920938463463374607431768211456 ≤ x * y := Nat.le_trans (by decide : 340282366920938463463374607431768211456 ≤ 18446744073709551616 * 18446744073709551616) (Nat.mul_le_mul (by omega) (by omega))
      rw [show sV (x * y) = 0 from if_neg (Nat.not_lt.2 hb), show sE (x * y) = 1 from if_neg (Nat.not_lt.2 hb)]
      refine Ct.enterV (by rfl) Tryd.func35 rfl Tryd.ntmps35 rfl (fun w0 Rest => ?_)
      (repeat' (first | refine zss ?_ | refine zs0 ?_ | ((with_reducible apply At.box (d := 2)); exact rfl; exact rfl; exact rfl; intro b2) | ((with_reducible apply At.box (d := 3)); exact rfl; exact rfl; exact rfl; intro b3) | ((with_reducible apply At.alloc (d := 4)); exact rfl; exact rfl; intro b4) | (refine zsp ?_ ?_ <;> (intro hc; (try simp only [zhcs, reduceCtorEq] at hc); (try (exfalso; first | (first | omega | exact absurd hc n1 | exact absurd hc n2) | contradiction | omega | exact absurd rfl hc | exact absurd (by decide) hc))))))
      all_goals ((with_reducible apply At.retV (B := [])); exact rfl; (repeat' (first | exact RVs.nil | (with_reducible apply RVs.cons) | exact rv_tmp (by rfl) | exact rv_cellN (by rfl) (by repeat constructor) (by rfl) (by rfl) (by rfl) | exact rv_cell1 (by rfl) (by repeat constructor) (by rfl) (by rfl))); exact zml; exact zkp; exact ⟨rfl, rfl, rfl⟩)
/-- a ratio's value -/
abbrev rv (n d : Nat) : Value := .agg (wd n ++ wd d).toArray
def chk (n d : Nat) : Int := if d = 0 ∨ Nat.gcd n d ≠ 1 then 2 else 0
theorem check {m : Mem} (ht : TZ m) (n d : Nat) (hn : n < 340282366920938463463374607431768211456) (hd : d < 340282366920938463463374607431768211456) : Rd Tryd.prog 16 #[rv n d] m [] (.int .i64 (chk n d)) := by
  unfold Rd
  have k1 := none_ d
  have k2 := fun (m' : Mem) (hm' : m.le m') => gcd (m := m') (ht.mono hm') n d hn hd
  have k3 := of_ 1 (by decide)
  unfold chk
  by_cases h0 : d = 0
  · rw [decide_eq_true h0] at k1
    rw [if_pos (.inl h0)]
    refine Ct.enterV (by rfl) Tryd.func16 rfl Tryd.ntmps16 rfl (fun w0 Rest => ?_)
    (repeat' (first | refine zss ?_ | refine zs0 ?_ | ((with_reducible first | apply AtM1.callp | apply AtQ.callp | apply At.callp); kernel_rfl; exact rfl; exact rfl; exact k1) | ((with_reducible apply At.box (d := 1)); exact rfl; exact rfl; exact rfl; intro b1) | (refine zsp ?_ ?_ <;> (intro hc; (try simp only [zhcs, reduceCtorEq] at hc); (try (exfalso; first | contradiction | omega | exact absurd rfl hc | exact absurd (by decide) hc))))))
    all_goals ((with_reducible apply At.retB1 (B := [])); exact rfl; exact rfl; exact zml; exact zkp; exact ⟨rfl, rfl, rfl⟩)
  · rw [decide_eq_false h0] at k1
    obtain ⟨g, hg⟩ : ∃ g, Nat.gcd n d = g := ⟨_, rfl⟩
    rw [hg] at k2
    by_cases h1 : g = 1
    · rw [if_neg (by rw [hg]; rintro (h | h); exact h0 h; exact h h1)]
      clear hg
      subst h1
      refine Ct.enterV (by rfl) Tryd.func16 rfl Tryd.ntmps16 rfl (fun w0 Rest => ?_)
      (repeat' (first | refine zss ?_ | ((first | (with_reducible first | apply At.val | apply AtQ.val)); (exact pr_wne (a := 1) (b := 1) (by rfl) (by rfl)); exact rfl) | refine zs0 ?_ | ((with_reducible first | apply AtM1.callp | apply AtQ.callp | apply At.callp); kernel_rfl; exact rfl; exact rfl; exact k1) | ((with_reducible first | apply AtM1.cr | apply AtQ.cr | apply At.cr); exact rfl; exact rfl; exact fun _ hmm => k2 _ hmm; exact ztk; kernel_rfl) | ((with_reducible first | apply AtM1.callp | apply AtQ.callp | apply At.callp); kernel_rfl; exact rfl; exact rfl; exact k3) | ((with_reducible apply At.box (d := 1)); exact rfl; exact rfl; exact rfl; intro b1) | (refine zsp ?_ ?_ <;> (intro hc; (try simp only [zhcs, reduceCtorEq] at hc); (try (exfalso; first | contradiction | omega | exact absurd rfl hc | exact absurd (by decide) hc))))))
      all_goals ((with_reducible apply At.retB1 (B := [])); exact rfl; exact rfl; exact zml; exact zkp; exact ⟨rfl, rfl, rfl⟩)
    · rw [if_pos (by rw [hg]; exact .inr h1)]
      have e : (!decide (g = 1)) = true := by rw [decide_eq_false h1]; rfl
      have pw : ∀ {n' : Nat} {F : Fr} {C : World → Prop} {x y : Operand} {u : TypeId}, ev F x = some (wv g) → ev F y = some (wv 1) → PR Tryd.prog n' F C (.binOp .neq 24 x y u) (.bool true) := fun hx hy => by rw [← e]; exact pr_wne hx hy
      refine Ct.enterV (by rfl) Tryd.func16 rfl Tryd.ntmps16 rfl (fun w0 Rest => ?_)
      (repeat' (first | refine zss ?_ | ((first | (with_reducible first | apply At.val | apply AtQ.val)); (exact pw (by rfl) (by rfl)); exact rfl) | refine zs0 ?_ | ((with_reducible first | apply AtM1.callp | apply AtQ.callp | apply At.callp); kernel_rfl; exact rfl; exact rfl; exact k1) | ((with_reducible first | apply AtM1.cr | apply AtQ.cr | apply At.cr); exact rfl; exact rfl; exact fun _ hmm => k2 _ hmm; exact ztk; kernel_rfl) | ((with_reducible first | apply AtM1.callp | apply AtQ.callp | apply At.callp); kernel_rfl; exact rfl; exact rfl; exact k3) | ((with_reducible apply At.box (d := 1)); exact rfl; exact rfl; exact rfl; intro b1) | (refine zsp ?_ ?_ <;> (intro hc; (try simp only [zhcs, reduceCtorEq] at hc); (try (exfalso; first | contradiction | omega | exact absurd rfl hc | exact absurd (by decide) hc))))))
      all_goals ((with_reducible apply At.retB1 (B := [])); exact rfl; exact rfl; exact zml; exact zkp; exact ⟨rfl, rfl, rfl⟩)
end Ra
end Go.Proofs.YtpdleggpmhlagaaDoor
/- Ratios: which is less. -/
set_option linter.unusedSimpArgs false
set_option linter.unusedVariables false
set_option linter.unusedSectionVars false
set_option maxRecDepth 20000
set_option maxHeartbeats 4000000
namespace Go.Proofs.YtpdleggpmhlagaaDoor
open Go Go.J
attribute [local irreducible] At AtQ AtM AtM1 PR Ct Pu Rd Res.blk Res.own Res.ex RVs RV
namespace Ra
open Wide
def les (a b c d : Nat) : Bool × Int := if chk a b ≠ 0 ∨ chk c d ≠ 0 then (false, 2) else if sE (a * d) ≠ 0 ∨ sE (c * b) ≠ 0 then (false, 1) else (decide (a * d < c * b), 0)
theorem sE_zero {x : Nat} (h : sE x = 0) : sV x = x := by
  unfold sE at h
  unfold sV
  by_cases k : x < 340282366920938463463374607431768211456
  · rw [if_pos k]
  · rw [if_neg k] at h; exact absurd h (by decide)
theorem lessT {m : Mem} (ht : TZ m) (a b c d : Nat) (ha : a < 340282366920938463463374607431768211456) (hb : b < 340282366920938463463374607431768211456) (hc' : c < 340282366920938463463374607431768211456) (hd : d < 340282366920938463463374607431768211456) :
    Rd Tryd.prog 20 #[rv a b, rv c d] m [] (.tuple #[.bool (les a b c d).1, .int .i64 (les a b c d).2]) := by
  unfold Rd
  have k1 := fun (m' : Mem) (hm' : m.le m') => check (m := m') (ht.mono hm') a b ha hb
  have k2 := fun (m' : Mem) (hm' : m.le m') => check (m := m') (ht.mono hm') c d hc' hd
  have k3 := times_ a d ha hd
  have k4 := times_ c b hc' hb
  have k5 := less (sV (a * d)) (sV (c * b))
  unfold les
  by_cases h1 : chk a b = 0
  rotate_left
  · rw [if_pos (.inl h1)]
    generalize chk a b = e1 at k1 h1
    refine Ct.enterV (by rfl) Tryd.func20 rfl Tryd.ntmps20 rfl (fun w0 Rest => ?_)
    (repeat' (first | refine zss ?_ | refine zs0 ?_ | ((with_reducible first | apply AtM1.cr | apply AtQ.cr | apply At.cr); exact rfl; exact rfl; exact fun _ hmm => k1 _ hmm; exact ztk; kernel_rfl) | ((with_reducible apply At.box (d := 2)); exact rfl; exact rfl; exact rfl; intro b2) | ((with_reducible apply At.box (d := 3)); exact rfl; exact rfl; exact rfl; intro b3) | ((with_reducible apply At.alloc (d := 6)); exact rfl; exact rfl; intro b6) | ((with_reducible apply At.alloc (d := 8)); exact rfl; exact rfl; intro b8) | (refine zsp ?_ ?_ <;> (intro hc; (try simp only [zhcs, reduceCtorEq] at hc); (try (exfalso; first | (first | omega | exact absurd hc h1) | contradiction | omega | exact absurd rfl hc | exact absurd (by decide) hc))))))
    all_goals ((with_reducible apply At.retV (B := [])); exact rfl; (repeat' (first | exact RVs.nil | (with_reducible apply RVs.cons) | exact rv_tmp (by rfl) | exact rv_cellN (by rfl) (by repeat constructor) (by rfl) (by rfl) (by rfl) | exact rv_cell1 (by rfl) (by repeat constructor) (by rfl) (by rfl))); exact zml; exact zkp; exact ⟨rfl, rfl, rfl⟩)
  by_cases h2 : chk c d = 0
  rotate_left
  · rw [if_pos (.inr h2)]
    rw [h1] at k1
    generalize chk c d = e2 at k2 h2
    refine Ct.enterV (by rfl) Tryd.func20 rfl Tryd.ntmps20 rfl (fun w0 Rest => ?_)
    (repeat' (first | refine zss ?_ | refine zs0 ?_ | ((with_reducible first | apply AtM1.cr | apply AtQ.cr | apply At.cr); exact rfl; exact rfl; exact fun _ hmm => k1 _ hmm; exact ztk; kernel_rfl) | ((with_reducible first | apply AtM1.cr | apply AtQ.cr | apply At.cr); exact rfl; exact rfl; exact fun _ hmm => k2 _ hmm; exact ztk; kernel_rfl) | ((with_reducible apply At.box (d := 2)); exact rfl; exact rfl; exact rfl; intro b2) | ((with_reducible apply At.box (d := 3)); exact rfl; exact rfl; exact rfl; intro b3) | ((with_reducible apply At.alloc (d := 6)); exact rfl; exact rfl; intro b6) | ((with_reducible apply At.alloc (d := 8)); exact rfl; exact rfl; intro b8) | (refine zsp ?_ ?_ <;> (intro hc; (try simp only [zhcs, reduceCtorEq] at hc); (try (exfalso; first | (first | omega | exact absurd hc h2) | contradiction | omega | exact absurd rfl hc | exact absurd (by decide) hc))))))
    all_goals ((with_reducible apply At.retV (B := [])); exact rfl; (repeat' (first | exact RVs.nil | (with_reducible apply RVs.cons) | exact rv_tmp (by rfl) | exact rv_cellN (by rfl) (by repeat constructor) (by rfl) (by rfl) (by rfl) | exact rv_cell1 (by rfl) (by repeat constructor) (by rfl) (by rfl))); exact zml; exact zkp; exact ⟨rfl, rfl, rfl⟩)
  rw [if_neg (by rintro (h | h); exact h h1; exact h h2)]
  rw [h1] at k1
  rw [h2] at k2
  by_cases h3 : sE (a * d) = 0
  rotate_left
  · rw [if_pos (.inl h3)]
    generalize sE (a * d) = e3 at k3 h3
    refine Ct.enterV (by rfl) Tryd.func20 rfl Tryd.ntmps20 rfl (fun w0 Rest => ?_)
    (repeat' (first | refine zss ?_ | refine zs0 ?_ | ((with_reducible first | apply AtM1.cr | apply AtQ.cr | apply At.cr); exact rfl; exact rfl; exact fun _ hmm => k1 _ hmm; exact ztk; kernel_rfl) | ((with_reducible first | apply AtM1.cr | apply AtQ.cr | apply At.cr); exact rfl; exact rfl; exact fun _ hmm => k2 _ hmm; exact ztk; kernel_rfl) | ((with_reducible first | apply AtM1.callp | apply AtQ.callp | apply At.callp); kernel_rfl; exact rfl; exact rfl; exact k3) | ((with_reducible first | apply AtM1.callp | apply AtQ.callp | apply At.callp); kernel_rfl; exact rfl; exact rfl; exact k4) | ((with_reducible apply At.box (d := 2)); exact rfl; exact rfl; exact rfl; intro b2) | ((with_reducible apply At.box (d := 3)); exact rfl; exact rfl; exact rfl; intro b3) | ((with_reducible apply At.alloc (d := 6)); exact rfl; exact rfl; intro b6) | ((with_reducible apply At.alloc (d := 8)); exact rfl; exact rfl; intro b8) | (refine zsp ?_ ?_ <;> (intro hc; (try simp only [zhcs, reduceCtorEq] at hc); (try (exfalso; first | (first | omega | exact absurd hc h3) | contradiction | omega | exact absurd rfl hc | exact absurd (by decide) hc))))))
    all_goals ((with_reducible apply At.retV (B := [])); exact rfl; (repeat' (first | exact RVs.nil | (with_reducible apply RVs.cons) | exact rv_tmp (by rfl) | exact rv_cellN (by rfl) (by repeat constructor) (by rfl) (by rfl) (by rfl) | exact rv_cell1 (by rfl) (by repeat constructor) (by rfl) (by rfl))); exact zml; exact zkp; exact ⟨rfl, rfl, rfl⟩)
  by_cases h4 : sE (c * b) = 0
  rotate_left
  · rw [if_pos (.inr h4)]
    rw [h3] at k3
    generalize sE (c * b) = e4 at k4 h4
    refine Ct.enterV (by rfl) Tryd.func20 rfl Tryd.ntmps20 rfl (fun w0 Rest => ?_)
    (repeat' (first | refine zss ?_ | refine zs0 ?_ | ((with_reducible first | apply AtM1.cr | apply AtQ.cr | apply At.cr); exact rfl; exact rfl; exact fun _ hmm => k1 _ hmm; exact ztk; kernel_rfl) | ((with_reducible first | apply AtM1.cr | apply AtQ.cr | apply At.cr); exact rfl; exact rfl; exact fun _ hmm => k2 _ hmm; exact ztk; kernel_rfl) | ((with_reducible first | apply AtM1.callp | apply AtQ.callp | apply At.callp); kernel_rfl; exact rfl; exact rfl; exact k3) | ((with_reducible first | apply AtM1.callp | apply AtQ.callp | apply At.callp); kernel_rfl; exact rfl; exact rfl; exact k4) | ((with_reducible apply At.box (d := 2)); exact rfl; exact rfl; exact rfl; intro b2) | ((with_reducible apply At.box (d := 3)); exact rfl; exact rfl; exact rfl; intro b3) | ((with_reducible apply At.alloc (d := 6)); exact rfl; exact rfl; intro b6) | ((with_reducible apply At.alloc (d := 8)); exact rfl; exact rfl; intro b8) | (refine zsp ?_ ?_ <;> (intro hc; (try simp only [zhcs, reduceCtorEq] at hc); (try (exfalso; first | (first | omega | exact absurd hc h4) | contradiction | omega | exact absurd rfl hc | exact absurd (by decide) hc))))))
    all_goals ((with_reducible apply At.retV (B := [])); exact rfl; (repeat' (first | exact RVs.nil | (with_reducible apply RVs.cons) | exact rv_tmp (by rfl) | exact rv_cellN (by rfl) (by repeat constructor) (by rfl) (by rfl) (by rfl) | exact rv_cell1 (by rfl) (by repeat constructor) (by rfl) (by rfl))); exact zml; exact zkp; exact ⟨rfl, rfl, rfl⟩)
  rw [if_neg (by rintro (h | h); exact h h3; exact h h4)]
  rw [sE_zero h3, sE_zero h4] at k5
  rw [sE_zero h3, h3] at k3
  rw [sE_zero h4, h4] at k4
  refine Ct.enterV (by rfl) Tryd.func20 rfl Tryd.ntmps20 rfl (fun w0 Rest => ?_)
  (repeat' (first | refine zss ?_ | refine zs0 ?_ | ((with_reducible first | apply AtM1.cr | apply AtQ.cr | apply At.cr); exact rfl; exact rfl; exact fun _ hmm => k1 _ hmm; exact ztk; kernel_rfl) | ((with_reducible first | apply AtM1.cr | apply AtQ.cr | apply At.cr); exact rfl; exact rfl; exact fun _ hmm => k2 _ hmm; exact ztk; kernel_rfl) | ((with_reducible first | apply AtM1.callp | apply AtQ.callp | apply At.callp); kernel_rfl; exact rfl; exact rfl; exact k3) | ((with_reducible first | apply AtM1.callp | apply AtQ.callp | apply At.callp); kernel_rfl; exact rfl; exact rfl; exact k4) | ((with_reducible first | apply AtM1.callp | apply AtQ.callp | apply At.callp); kernel_rfl; exact rfl; exact rfl; exact k5) | ((with_reducible apply At.box (d := 2)); exact rfl; exact rfl; exact rfl; intro b2) | ((with_reducible apply At.box (d := 3)); exact rfl; exact rfl; exact rfl; intro b3) | ((with_reducible apply At.alloc (d := 6)); exact rfl; exact rfl; intro b6) | ((with_reducible apply At.alloc (d := 8)); exact rfl; exact rfl; intro b8) | (refine zsp ?_ ?_ <;> (intro hc; (try simp only [zhcs, reduceCtorEq] at hc); (try (exfalso; first | contradiction | omega | exact absurd rfl hc | exact absurd (by decide) hc))))))
  all_goals ((with_reducible apply At.retV (B := [])); exact rfl; (repeat' (first | exact RVs.nil | (with_reducible apply RVs.cons) | exact rv_tmp (by rfl) | exact rv_cellN (by rfl) (by repeat constructor) (by rfl) (by rfl) (by rfl) | exact rv_cell1 (by rfl) (by repeat constructor) (by rfl) (by rfl))); exact zml; exact zkp; exact ⟨rfl, rfl, rfl⟩)
end Ra
end Go.Proofs.YtpdleggpmhlagaaDoor
/- Ratios: how long a number is. -/
set_option linter.unusedSimpArgs false
set_option linter.unusedVariables false
set_option linter.unusedSectionVars false
set_option maxRecDepth 20000
set_option maxHeartbeats 4000000
namespace Go.Proofs.YtpdleggpmhlagaaDoor
open Go Go.J
attribute [local irreducible] At AtQ AtM AtM1 PR Ct Pu Rd Res.blk Res.own Res.ex RVs RV
namespace Ra
open Wide
theorem len64 (y : Nat) (h : y < 18446744073709551616) : Pu Tryd.prog 52 #[.int .u64 (y : Int)] (.int .i64 (Lib.bitLen y : Int)) := by
  have := Pu.of_same fun w => Any.bits_Len64 { laysn134 with } (y : Int) w (by omega) (by omega)
  rw [Int.toNat_natCast] at this
  exact this
/-- how many digits of base two -/
def ln (x : Nat) : Nat := if x / 18446744073709551616 = 0 then Lib.bitLen (x % 18446744073709551616) else 64 + Lib.bitLen (x / 18446744073709551616)
theorem long (x : Nat) (hx : x < 340282366920938463463374607431768211456) : Pu Tryd.prog 41 #[wv x] (.int .i64 (ln x : Int)) := Pu.intro fun m => by
  have hh : x / 18446744073709551616 < 18446744073709551616 := by omega
  unfold ln
  by_cases h : x / 18446744073709551616 = 0
  · rw [if_pos h]
    have k1 := len64 (x % 18446744073709551616) (Nat.mod_lt _ (by decide))
    refine Ct.enterV (by rfl) Tryd.func41 rfl Tryd.ntmps41 rfl (fun w0 Rest => ?_)
    (repeat' (first | refine zss ?_ | refine zs0 ?_ | ((with_reducible first | apply AtM1.callp | apply AtQ.callp | apply At.callp); kernel_rfl; exact rfl; exact rfl; exact k1) | ((with_reducible apply At.box (d := 1)); exact rfl; exact rfl; exact rfl; intro b1) | (refine zsp ?_ ?_ <;> (intro hc; (try simp only [zhcs, reduceCtorEq] at hc); (try (exfalso; first | omega | contradiction | omega | exact absurd rfl hc | exact absurd (by decide) hc))))))
    all_goals ((with_reducible apply At.retB1 (B := [])); exact rfl; exact rfl; exact zml; exact zkp; exact ⟨rfl, rfl, rfl⟩)
  · rw [if_neg h]
    have k1 := len64 (x / 18446744073709551616) hh
    have e1 : Lib.bitLen (x / 18446744073709551616) ≤ 64 := Lib.bitLen_le _ 64 (by omega) (by omega)
    generalize Lib.bitLen (x / 18446744073709551616) = c at k1 e1
    have e2 : IntKind.wrap .i64 (64 + (c : Int)) = ((64 + c : Nat) : Int) := by rw [show 64 + (c : Int) = ((64 + c : Nat) : Int) by omega]; exact IntWalk.i64_in _ (by omega)
    have n1 : ¬ ((x / 18446744073709551616 : Nat) : Int) = 0 := by omega
    refine Ct.enterV (by rfl) Tryd.func41 rfl Tryd.ntmps41 rfl (fun w0 Rest => ?_)
    (repeat' (first | refine zss ?_ | ((first | (with_reducible first | apply At.val | apply AtQ.val)); (exact pr_add (by rfl) (by rfl) e2); exact rfl) | refine zs0 ?_ | ((with_reducible first | apply AtM1.callp | apply AtQ.callp | apply At.callp); kernel_rfl; exact rfl; exact rfl; exact k1) | ((with_reducible apply At.box (d := 1)); exact rfl; exact rfl; exact rfl; intro b1) | (refine zsp ?_ ?_ <;> (intro hc; (try simp only [zhcs, reduceCtorEq] at hc); (try (exfalso; first | (first | omega | exact absurd hc n1) | contradiction | omega | exact absurd rfl hc | exact absurd (by decide) hc))))))
    all_goals ((with_reducible apply At.retB1 (B := [])); exact rfl; exact rfl; exact zml; exact zkp; exact ⟨rfl, rfl, rfl⟩)
end Ra
end Go.Proofs.YtpdleggpmhlagaaDoor
/- Ratios (plain): how often, by shifting and taking away. -/
set_option linter.unusedSimpArgs false
set_option linter.unusedVariables false
set_option linter.unusedSectionVars false
set_option maxRecDepth 20000
set_option maxHeartbeats 4000000
namespace Go.Proofs.YtpdleggpmhlagaaDoor
open Go Go.J
namespace Ra
theorem len_bounds {y : Nat} (h0 : y ≠ 0) (h : y < 18446744073709551616) : 1 ≤ Lib.bitLen y ∧ 2 ^ (Lib.bitLen y - 1) ≤ y ∧ y < 2 ^ Lib.bitLen y ∧ Lib.bitLen y ≤ 64 := by
  obtain ⟨h1, h2, h3⟩ := Lib.bitLenAux_bounds 64 y h h0
  exact ⟨h1, h2, h3, Lib.bitLen_le y 64 (Nat.le_refl _) h⟩
theorem ln_bounds {x : Nat} (h0 : x ≠ 0) (hx : x < 340282366920938463463374607431768211456) : 1 ≤ ln x ∧ 2 ^ (ln x - 1) ≤ x ∧ x < 2 ^ ln x ∧ ln x ≤ 128 := by
  unfold ln
  have hd := Nat.div_add_mod x 18446744073709551616
  have hm : x % 18446744073709551616 < 18446744073709551616 := Nat.mod_lt _ (by decide)
  by_cases h : x / 18446744073709551616 = 0
  · rw [if_pos h]
    rw [h, Nat.mul_zero, Nat.zero_add] at hd
    rw [hd] at hm ⊢
    obtain ⟨h1, h2, h3, h4⟩ := len_bounds h0 hm
    exact ⟨h1, h2, h3, by omega⟩
  · rw [if_neg h]
    obtain ⟨h1, h2, h3, h4⟩ := len_bounds h (by omega)
    generalize x / 18446744073709551616 = q at h h1 h2 h3 h4 hd ⊢
    generalize Lib.bitLen q = c at h1 h2 h3 h4 ⊢
    refine ⟨by omega, ?_, ?_, by omega⟩
    · rw [show 64 + c - 1 = 64 + (c - 1) by omega, Nat.pow_add]
      have := Nat.mul_le_mul_left (2 ^ 64) h2
      rw [show (2 : Nat) ^ 64 = 18446744073709551616 from rfl] at this ⊢
      omega
    · rw [Nat.pow_add]
      have := Nat.mul_le_mul_left (2 ^ 64) (Nat.succ_le_of_lt h3)
      rw [show (2 : Nat) ^ 64 = 18446744073709551616 from rfl] at this ⊢
      omega
/-- the longest shift -/
theorem sh_fits {a d k : Nat} (ha0 : a ≠ 0) (ha : a < 340282366920938463463374607431768211456) (hd0 : d ≠ 0) (hd : d < 340282366920938463463374607431768211456) (hk : k + ln d ≤ ln a) : d * 2 ^ k < 340282366920938463463374607431768211456 ∧ k < 128 := by
  obtain ⟨_, _, _, a4⟩ := ln_bounds ha0 ha
  obtain ⟨d1, _, d3, _⟩ := ln_bounds hd0 hd
  refine ⟨?_, by omega⟩
  have h1 : d * 2 ^ k < 2 ^ ln d * 2 ^ k := Nat.mul_lt_mul_of_pos_right d3 (Nat.two_pow_pos k)
  rw [← Nat.pow_add] at h1
  have h2 : 2 ^ (ln d + k) ≤ 2 ^ 128 := Nat.pow_le_pow_right (by decide) (by omega)
  rw [show (2 : Nat) ^ 128 = 340282366920938463463374607431768211456 from rfl] at h2
  omega
theorem sh_start {a d k : Nat} (ha0 : a ≠ 0) (ha : a < 340282366920938463463374607431768211456) (hd0 : d ≠ 0) (hd : d < 340282366920938463463374607431768211456) (hk : ln a + 1 ≤ k + ln d) : a < d * 2 ^ k := by
  obtain ⟨_, _, a3, _⟩ := ln_bounds ha0 ha
  obtain ⟨d1, d2, _, _⟩ := ln_bounds hd0 hd
  have h1 : 2 ^ (ln d - 1) * 2 ^ k ≤ d * 2 ^ k := Nat.mul_le_mul_right _ d2
  rw [← Nat.pow_add] at h1
  have h2 : 2 ^ ln a ≤ 2 ^ (ln d - 1 + k) := Nat.pow_le_pow_right (by decide) (by omega)
  omega
/-- what is true ahead of the shift by s - 1 -/
def Wi (a d s q r : Nat) : Prop := a = q * 2 ^ s * d + r ∧ r < d * 2 ^ s
theorem wi_no {a d k q r : Nat} (h : Wi a d (k + 1) q r) (hr : r < d * 2 ^ k) : Wi a d k (q * 2) r := by
  obtain ⟨h1, _⟩ := h
  refine ⟨?_, hr⟩
  rw [Nat.mul_assoc q 2, ← Nat.pow_succ']
  exact h1
theorem wi_yes {a d k q r : Nat} (h : Wi a d (k + 1) q r) (hr : ¬ r < d * 2 ^ k) : Wi a d k (q * 2 + 1) (r - d * 2 ^ k) := by
  obtain ⟨h1, h2⟩ := h
  have e1 : d * 2 ^ (k + 1) = 2 * (d * 2 ^ k) := by rw [Nat.pow_succ', Nat.mul_left_comm]
  have e2 : (q * 2 + 1) * 2 ^ k * d = q * 2 ^ (k + 1) * d + d * 2 ^ k := by
    rw [Nat.add_mul, Nat.one_mul, Nat.add_mul, Nat.mul_assoc q 2, ← Nat.pow_succ', Nat.mul_comm (2 ^ k) d]
  refine ⟨?_, by omega⟩
  rw [e2]
  omega
theorem wi_end {a d q r : Nat} (h : Wi a d 0 q r) : q = a / d := by
  obtain ⟨h1, h2⟩ := h
  rw [Nat.pow_zero, Nat.mul_one] at h1 h2
  rw [h1, Nat.mul_comm q d, Nat.mul_add_div (by omega), Nat.div_eq_of_lt h2, Nat.add_zero]
/-- the bit k set, in the words -/
theorem or_bit (q k : Nat) : (q * 2 ^ (k + 1) + 2 ^ k) / 18446744073709551616 = q * 2 ^ (k + 1) / 18446744073709551616 ||| 2 ^ k / 18446744073709551616 ∧ (q * 2 ^ (k + 1) + 2 ^ k) % 18446744073709551616 = q * 2 ^ (k + 1) % 18446744073709551616 ||| 2 ^ k % 18446744073709551616 := by
  have e : q * 2 ^ (k + 1) + 2 ^ k = q * 2 ^ (k + 1) ||| 2 ^ k := by
    rw [← Nat.shiftLeft_eq, Nat.shiftLeft_add_eq_or_of_lt (Nat.pow_lt_pow_right (by decide) (Nat.lt_succ_self k))]
  rw [e]
  exact ⟨Nat.or_div_two_pow (n := 64), Nat.or_mod_two_pow (n := 64)⟩
end Ra
end Go.Proofs.YtpdleggpmhlagaaDoor
/- Ratios: how often one number goes into another. -/
set_option linter.unusedSimpArgs false
set_option linter.unusedVariables false
set_option linter.unusedSectionVars false
set_option maxRecDepth 20000
set_option maxHeartbeats 4000000
namespace Go.Proofs.YtpdleggpmhlagaaDoor
open Go Go.J
attribute [local irreducible] At AtQ AtM AtM1 PR Ct Pu Rd Res.blk Res.own Res.ex RVs RV
namespace Ra
open Wide
structure WS where
  (t : Int) (Q q r : Nat)
theorem whole (a d : Nat) (ha : a < 340282366920938463463374607431768211456) (hd : d < 340282366920938463463374607431768211456) (hd0 : d ≠ 0) : Pu Tryd.prog 25 #[wv a, wv d] (wv (a / d)) := Pu.intro fun m => by
  have l1 := long a ha
  have l2 := long d hd
  have hla : ln a ≤ 128 ∧ (a = 0 → ln a = 0) := by
    by_cases h : a = 0
    · subst h; exact ⟨by decide, fun _ => by decide⟩
    · exact ⟨(ln_bounds h ha).2.2.2, fun k => absurd k h⟩
  have hld := ln_bounds hd0 hd
  have hld1 : 1 ≤ ln d := hld.1
  have hld4 : ln d ≤ 128 := hld.2.2.2
  clear hld
  have hst : Wi a d (((ln a : Int) - (ln d : Int)) + 1).toNat 0 a := by
    refine ⟨by simp, ?_⟩
    by_cases h : a = 0
    · have := Nat.mul_le_mul_left d (Nat.two_pow_pos (((ln a : Int) - (ln d : Int)) + 1).toNat)
      omega
    · exact sh_start h ha hd0 hd (by omega)
  have hfit := fun k => @sh_fits a d k
  obtain ⟨la, hlae⟩ : ∃ la, ln a = la := ⟨_, rfl⟩
  obtain ⟨ld, hlde⟩ : ∃ ld, ln d = ld := ⟨_, rfl⟩
  rw [hlae] at hla l1
  rw [hlde] at hld1 hld4 l2
  rw [hlae, hlde] at hst
  have e0 : IntKind.wrap .i64 ((la : Int) - (ld : Int)) = (la : Int) - (ld : Int) := IntWalk.i64_in _ (by omega)
  refine Ct.enterV (by rfl) Tryd.func25 rfl Tryd.ntmps25 rfl (fun w0 Rest => ?_)
  (repeat' (first | refine zss ?_ | ((first | (with_reducible first | apply At.val | apply AtQ.val)); (exact pr_sub (by rfl) (by rfl) e0); exact rfl) | refine zs0 ?_ | ((with_reducible first | apply AtM1.callp | apply AtQ.callp | apply At.callp); kernel_rfl; exact rfl; exact rfl; exact l1) | ((with_reducible first | apply AtM1.callp | apply AtQ.callp | apply At.callp); kernel_rfl; exact rfl; exact rfl; exact l2) | fail | ((with_reducible apply At.box (d := 2)); exact rfl; exact rfl; exact rfl; intro b2) | ((with_reducible apply At.box (d := 3)); exact rfl; exact rfl; exact rfl; intro b3) | ((with_reducible apply At.alloc (d := 4)); exact rfl; exact rfl; intro b4) | ((with_reducible apply At.alloc (d := 5)); exact rfl; exact rfl; intro b5) | ((with_reducible apply At.alloc (d := 7)); exact rfl; exact rfl; intro b7) | ((with_reducible apply At.alloc (d := 8)); exact rfl; exact rfl; intro b8) | (refine zsp ?_ ?_ <;> (intro hc; (try simp only [zhcs, reduceCtorEq] at hc); (try (exfalso; first | contradiction | omega | exact absurd rfl hc | exact absurd (by decide) hc))))))
  clear l1 l2 e0
  rw [show ([.int .u64 0, .int .u64 0] : List Value) = wd 0 from rfl]
  (refine At.loopk (σ := WS) [2, 3, 4, 5] (fun s F0 => (6, .int .i64 s.t) :: F0) (fun s => m) (fun s => .blk b2 24 (wd s.r) :: .blk b3 24 (wd d) :: .blk b4 24 (wd 0) :: .blk b5 24 (wd s.Q) :: Rest) (fun s => -200 ≤ s.t ∧ s.t + ld ≤ la ∧ s.r ≤ a ∧ s.Q = s.q * 2 ^ (s.t + 1).toNat ∧ Wi a d (s.t + 1).toNat s.q s.r) (fun s => (s.t + 1).toNat) ⟨(la : Int) - (ld : Int), 0, 0, a⟩ (by rfl) ?_ zsubs zml zente ?_)
  · exact ⟨by dsimp only; omega, by dsimp only; omega, Nat.le_refl _, by simp, hst⟩
  rintro ⟨t, Q, q, r⟩ ⟨g1, g2, g3, g4, g5⟩
  dsimp only at g1 g2 g3 g4 g5 ⊢
  by_cases h : 0 ≤ t
  · obtain ⟨k, rfl⟩ : ∃ k : Nat, t = (k : Int) := ⟨t.toNat, by omega⟩
    rw [show ((k : Int) + 1).toNat = k + 1 by omega] at g4 g5
    have a0 : a ≠ 0 := fun e => by have := hla.2 e; omega
    obtain ⟨f1, f2⟩ := hfit k a0 ha hd0 hd (by omega)
    have ku := up d k f1 hd f2
    have kl := less r (d * 2 ^ k)
    have em : IntKind.wrap .i64 ((k : Int) - 1) = (k : Int) - 1 := IntWalk.i64_in _ (by omega)
    by_cases hr : r < d * 2 ^ k
    · rw [decide_eq_true hr] at kl
      have hn := wi_no g5 hr
      clear hfit hst
      generalize d * 2 ^ k = X at ku kl f1 hr
      (repeat' (first | refine zss ?_ | ((first | (with_reducible first | apply At.val | apply AtQ.val)); (exact pr_sub (by rfl) (by rfl) em); exact rfl) | refine zs0 ?_ | ((with_reducible first | apply AtM1.callp | apply AtQ.callp | apply At.callp); kernel_rfl; exact rfl; exact rfl; exact ku) | ((with_reducible first | apply AtM1.callp | apply AtQ.callp | apply At.callp); kernel_rfl; exact rfl; exact rfl; exact kl) | ((with_reducible apply At.box (d := 2)); exact rfl; exact rfl; exact rfl; intro b2) | ((with_reducible apply At.box (d := 3)); exact rfl; exact rfl; exact rfl; intro b3) | ((with_reducible apply At.alloc (d := 4)); exact rfl; exact rfl; intro b4) | ((with_reducible apply At.alloc (d := 5)); exact rfl; exact rfl; intro b5) | ((with_reducible apply At.alloc (d := 7)); exact rfl; exact rfl; intro b7) | ((with_reducible apply At.alloc (d := 8)); exact rfl; exact rfl; intro b8) | (refine zsp ?_ ?_ <;> (intro hc; (try simp only [zhcs, reduceCtorEq] at hc); (try (exfalso; first | omega | contradiction | omega | exact absurd rfl hc | exact absurd (by decide) hc))))))
      all_goals ((with_reducible refine At.reachk ((⟨(k : Int) - 1, Q, q * 2, r⟩ : WS)) ?_ ?_ ?_ ?_); exact zsubs; exact zml; exact zente; exact ⟨⟨by dsimp only; omega, by dsimp only; omega, g3, by dsimp only; rw [show ((k : Int) - 1 + 1).toNat = k by omega, g4, Nat.pow_succ', Nat.mul_assoc], by dsimp only; rw [show ((k : Int) - 1 + 1).toNat = k by omega]; exact hn⟩, by dsimp only; omega⟩)
    · rw [decide_eq_false hr] at kl
      have hy := wi_yes g5 hr
      have h1p : 2 ^ k < 340282366920938463463374607431768211456 := by
        have := Nat.le_mul_of_pos_left (2 ^ k) (Nat.pos_of_ne_zero hd0)
        omega
      have k1 := of_ 1 (by decide)
      have kv := up 1 k (by rw [Nat.one_mul]; exact h1p) (by decide) f2
      rw [Nat.one_mul] at kv
      have km := lessR r (d * 2 ^ k) (Nat.lt_of_le_of_lt g3 ha) f1
      have ob := or_bit q k
      rw [← g4] at ob
      have hQ : Q < 340282366920938463463374607431768211456 := by
        have h1 := g5.1
        rw [← g4] at h1
        have := Nat.le_mul_of_pos_right Q (Nat.pos_of_ne_zero hd0)
        omega
      have p1 : bits .or .u64 ((Q / 18446744073709551616 : Nat) : Int) ((2 ^ k / 18446744073709551616 : Nat) : Int) = (((Q + 2 ^ k) / 18446744073709551616 : Nat) : Int) := by rw [bits_or_u64_nat _ _ (by omega) (by omega), ob.1]
      have p2 : bits .or .u64 ((Q % 18446744073709551616 : Nat) : Int) ((2 ^ k % 18446744073709551616 : Nat) : Int) = (((Q + 2 ^ k) % 18446744073709551616 : Nat) : Int) := by rw [bits_or_u64_nat _ _ (by omega) (by omega), ob.2]
      have hq : Q + 2 ^ k = (q * 2 + 1) * 2 ^ k := by rw [g4, Nat.add_mul, Nat.one_mul, Nat.pow_succ', Nat.mul_assoc]
      clear hfit hst ob
      generalize d * 2 ^ k = X at ku kl f1 hr hy km
      generalize Q + 2 ^ k = Q2 at p1 p2 hq
      obtain ⟨Z, hZ⟩ : ∃ Z, 2 ^ k = Z := ⟨_, rfl⟩
      rw [hZ] at kv p1 p2 hq h1p
      (repeat' (first | refine zss ?_ | ((first | (with_reducible first | apply At.val | apply AtQ.val)); (first | exact pr_sub (by rfl) (by rfl) em | exact pr_or (by rfl) (by rfl) p1 | exact pr_or (by rfl) (by rfl) p2); exact rfl) | refine zs0 ?_ | ((with_reducible first | apply AtM1.callp | apply AtQ.callp | apply At.callp); kernel_rfl; exact rfl; exact rfl; exact ku) | ((with_reducible first | apply AtM1.callp | apply AtQ.callp | apply At.callp); kernel_rfl; exact rfl; exact rfl; exact kl) | ((with_reducible first | apply AtM1.callp | apply AtQ.callp | apply At.callp); kernel_rfl; exact rfl; exact rfl; exact km) | ((with_reducible first | apply AtM1.callp | apply AtQ.callp | apply At.callp); kernel_rfl; exact rfl; exact rfl; exact k1) | ((with_reducible first | apply AtM1.callp | apply AtQ.callp | apply At.callp); kernel_rfl; exact rfl; exact rfl; exact kv) | ((with_reducible apply At.box (d := 2)); exact rfl; exact rfl; exact rfl; intro b2) | ((with_reducible apply At.box (d := 3)); exact rfl; exact rfl; exact rfl; intro b3) | ((with_reducible apply At.alloc (d := 4)); exact rfl; exact rfl; intro b4) | ((with_reducible apply At.alloc (d := 5)); exact rfl; exact rfl; intro b5) | ((with_reducible apply At.alloc (d := 7)); exact rfl; exact rfl; intro b7) | ((with_reducible apply At.alloc (d := 8)); exact rfl; exact rfl; intro b8) | (refine zsp ?_ ?_ <;> (intro hc; (try simp only [zhcs, reduceCtorEq] at hc); (try (exfalso; first | omega | contradiction | omega | exact absurd rfl hc | exact absurd (by decide) hc))))))
      all_goals ((with_reducible refine At.reachk ((⟨(k : Int) - 1, Q2, q * 2 + 1, r - X⟩ : WS)) ?_ ?_ ?_ ?_); exact zsubs; exact zml; exact zente; exact ⟨⟨by dsimp only; omega, by dsimp only; omega, by dsimp only; omega, by dsimp only; rw [show ((k : Int) - 1 + 1).toNat = k by omega, hZ]; exact hq, by dsimp only; rw [show ((k : Int) - 1 + 1).toNat = k by omega]; exact hy⟩, by dsimp only; omega⟩)
  · rw [show (t + 1).toNat = 0 by omega] at g4 g5
    rw [Nat.pow_zero, Nat.mul_one, wi_end g5] at g4
    subst g4
    (repeat' (first | refine zss ?_ | refine zs0 ?_ | ((with_reducible apply At.box (d := 2)); exact rfl; exact rfl; exact rfl; intro b2) | ((with_reducible apply At.box (d := 3)); exact rfl; exact rfl; exact rfl; intro b3) | ((with_reducible apply At.alloc (d := 4)); exact rfl; exact rfl; intro b4) | ((with_reducible apply At.alloc (d := 5)); exact rfl; exact rfl; intro b5) | ((with_reducible apply At.alloc (d := 7)); exact rfl; exact rfl; intro b7) | ((with_reducible apply At.alloc (d := 8)); exact rfl; exact rfl; intro b8) | (refine zsp ?_ ?_ <;> (intro hc; (try simp only [zhcs, reduceCtorEq] at hc); (try (exfalso; first | omega | contradiction | omega | exact absurd rfl hc | exact absurd (by decide) hc))))))
    all_goals ((with_reducible apply At.retV (B := [])); exact rfl; (repeat' (first | exact RVs.nil | (with_reducible apply RVs.cons) | exact rv_tmp (by rfl) | exact rv_cellN (by rfl) (by repeat constructor) (by rfl) (by rfl) (by rfl) | exact rv_cell1 (by rfl) (by repeat constructor) (by rfl) (by rfl))); exact zml; exact zkp; exact ⟨rfl, rfl, rfl⟩)
end Ra
end Go.Proofs.YtpdleggpmhlagaaDoor
/- Ratios: Floor, Reduce. -/
set_option linter.unusedSimpArgs false
set_option linter.unusedVariables false
set_option linter.unusedSectionVars false
set_option maxRecDepth 20000
set_option maxHeartbeats 4000000
namespace Go.Proofs.YtpdleggpmhlagaaDoor
open Go Go.J
attribute [local irreducible] At AtQ AtM AtM1 PR Ct Pu Rd Res.blk Res.own Res.ex RVs RV
namespace Ra
open Wide
def flo (n d : Nat) : Nat × Int := if d = 0 then (0, 2) else (n / d, 0)
theorem floor (n d : Nat) (hn : n < 340282366920938463463374607431768211456) (hd : d < 340282366920938463463374607431768211456) : Pu Tryd.prog 11 #[rv n d] (.tuple #[wv (flo n d).1, .int .i64 (flo n d).2]) := Pu.intro fun m => by
  have k1 := none_ d
  unfold flo
  by_cases h : d = 0
  · rw [decide_eq_true h] at k1
    rw [if_pos h]
    refine Ct.enterV (by rfl) Tryd.func11 rfl Tryd.ntmps11 rfl (fun w0 Rest => ?_)
    (repeat' (first | refine zss ?_ | refine zs0 ?_ | ((with_reducible first | apply AtM1.callp | apply AtQ.callp | apply At.callp); kernel_rfl; exact rfl; exact rfl; exact k1) | ((with_reducible apply At.box (d := 1)); exact rfl; exact rfl; exact rfl; intro b1) | ((with_reducible apply At.alloc (d := 2)); exact rfl; exact rfl; intro b2) | (refine zsp ?_ ?_ <;> (intro hc; (try simp only [zhcs, reduceCtorEq] at hc); (try (exfalso; first | contradiction | omega | exact absurd rfl hc | exact absurd (by decide) hc))))))
    all_goals ((with_reducible apply At.retV (B := [])); exact rfl; (repeat' (first | exact RVs.nil | (with_reducible apply RVs.cons) | exact rv_tmp (by rfl) | exact rv_cellN (by rfl) (by repeat constructor) (by rfl) (by rfl) (by rfl) | exact rv_cell1 (by rfl) (by repeat constructor) (by rfl) (by rfl))); exact zml; exact zkp; exact ⟨rfl, rfl, rfl⟩)
  · rw [decide_eq_false h] at k1
    rw [if_neg h]
    have k2 := whole n d hn hd h
    refine Ct.enterV (by rfl) Tryd.func11 rfl Tryd.ntmps11 rfl (fun w0 Rest => ?_)
    (repeat' (first | refine zss ?_ | refine zs0 ?_ | ((with_reducible first | apply AtM1.callp | apply AtQ.callp | apply At.callp); kernel_rfl; exact rfl; exact rfl; exact k1) | ((with_reducible first | apply AtM1.callp | apply AtQ.callp | apply At.callp); kernel_rfl; exact rfl; exact rfl; exact k2) | ((with_reducible apply At.box (d := 1)); exact rfl; exact rfl; exact rfl; intro b1) | ((with_reducible apply At.alloc (d := 2)); exact rfl; exact rfl; intro b2) | (refine zsp ?_ ?_ <;> (intro hc; (try simp only [zhcs, reduceCtorEq] at hc); (try (exfalso; first | contradiction | omega | exact absurd rfl hc | exact absurd (by decide) hc))))))
    all_goals ((with_reducible apply At.retV (B := [])); exact rfl; (repeat' (first | exact RVs.nil | (with_reducible apply RVs.cons) | exact rv_tmp (by rfl) | exact rv_cellN (by rfl) (by repeat constructor) (by rfl) (by rfl) (by rfl) | exact rv_cell1 (by rfl) (by repeat constructor) (by rfl) (by rfl))); exact zml; exact zkp; exact ⟨rfl, rfl, rfl⟩)
def red (n d : Nat) : (Nat × Nat) × Int := if d = 0 then ((0, 0), 1) else ((n / Nat.gcd n d, d / Nat.gcd n d), 0)
theorem reduce {m : Mem} (ht : TZ m) (n d : Nat) (hn : n < 340282366920938463463374607431768211456) (hd : d < 340282366920938463463374607431768211456) : Rd Tryd.prog 7 #[wv n, wv d] m [] (.tuple #[rv (red n d).1.1 (red n d).1.2, .int .i64 (red n d).2]) := by
  unfold Rd
  have k1 := none_ d
  unfold red
  by_cases h : d = 0
  · rw [decide_eq_true h] at k1
    rw [if_pos h]
    refine Ct.enterV (by rfl) Tryd.func7 rfl Tryd.ntmps7 rfl (fun w0 Rest => ?_)
    (repeat' (first | refine zss ?_ | refine zs0 ?_ | ((with_reducible first | apply AtM1.callp | apply AtQ.callp | apply At.callp); kernel_rfl; exact rfl; exact rfl; exact k1) | ((with_reducible apply At.box (d := 2)); exact rfl; exact rfl; exact rfl; intro b2) | ((with_reducible apply At.box (d := 3)); exact rfl; exact rfl; exact rfl; intro b3) | ((with_reducible apply At.alloc (d := 4)); exact rfl; exact rfl; intro b4) | ((with_reducible apply At.alloc (d := 6)); exact rfl; exact rfl; intro b6) | (refine zsp ?_ ?_ <;> (intro hc; (try simp only [zhcs, reduceCtorEq] at hc); (try (exfalso; first | contradiction | omega | exact absurd rfl hc | exact absurd (by decide) hc))))))
    all_goals ((with_reducible apply At.retV (B := [])); exact rfl; (repeat' (first | exact RVs.nil | (with_reducible apply RVs.cons) | exact rv_tmp (by rfl) | exact rv_cellN (by rfl) (by repeat constructor) (by rfl) (by rfl) (by rfl) | exact rv_cell1 (by rfl) (by repeat constructor) (by rfl) (by rfl))); exact zml; exact zkp; exact ⟨rfl, rfl, rfl⟩)
  · rw [decide_eq_false h] at k1
    rw [if_neg h]
    have k2 := fun (m' : Mem) (hm' : m.le m') => gcd (m := m') (ht.mono hm') n d hn hd
    have hg0 : Nat.gcd n d ≠ 0 := fun e => h (Nat.eq_zero_of_gcd_eq_zero_right e)
    have hg : Nat.gcd n d < 340282366920938463463374607431768211456 := Nat.lt_of_le_of_lt (Nat.gcd_le_right n (Nat.pos_of_ne_zero h) : Nat.gcd n d ≤ d) hd
    generalize Nat.gcd n d = g at k2 hg0 hg ⊢
    have k3 := whole n g hn hg hg0
    have k4 := whole d g hd hg hg0
    refine Ct.enterV (by rfl) Tryd.func7 rfl Tryd.ntmps7 rfl (fun w0 Rest => ?_)
    (repeat' (first | ((with_reducible apply At.mixed (id := 4) 9 (.q 0 (.q 1 (.q 2 (.q 3 (.q 4 (.q 5 (.q 6 (.x 7 (.q 8 .done)))))))))); exact rfl; kernel_rfl; kernel_rfl; kernel_rfl) | refine zsx ?_ | refine zss ?_ | ((with_reducible apply AtM.bo); exact rfl; exact rfl; exact rfl) | refine zs0 ?_ | refine zx0 ?_ | ((with_reducible first | apply AtM1.callp | apply AtQ.callp | apply At.callp); kernel_rfl; exact rfl; exact rfl; exact k1) | ((with_reducible first | apply AtM1.cr | apply AtQ.cr | apply At.cr); exact rfl; exact rfl; exact fun _ hmm => k2 _ hmm; exact ztk; kernel_rfl) | ((with_reducible first | apply AtM1.callp | apply AtQ.callp | apply At.callp); kernel_rfl; exact rfl; exact rfl; exact k3) | ((with_reducible first | apply AtM1.callp | apply AtQ.callp | apply At.callp); kernel_rfl; exact rfl; exact rfl; exact k4) | ((with_reducible apply At.box (d := 2)); exact rfl; exact rfl; exact rfl; intro b2) | ((with_reducible apply At.box (d := 3)); exact rfl; exact rfl; exact rfl; intro b3) | ((with_reducible apply At.alloc (d := 4)); exact rfl; exact rfl; intro b4) | ((with_reducible apply At.alloc (d := 6)); exact rfl; exact rfl; intro b6) | (refine zsp ?_ ?_ <;> (intro hc; (try simp only [zhcs, reduceCtorEq] at hc); (try (exfalso; first | contradiction | omega | exact absurd rfl hc | exact absurd (by decide) hc))))))
    all_goals ((with_reducible apply At.retV (B := [])); exact rfl; (repeat' (first | exact RVs.nil | (with_reducible apply RVs.cons) | exact rv_tmp (by rfl) | exact rv_cellN (by rfl) (by repeat constructor) (by rfl) (by rfl) (by rfl) | exact rv_cell1 (by rfl) (by repeat constructor) (by rfl) (by rfl))); exact zml; exact zkp; exact ⟨rfl, rfl, rfl⟩)
end Ra
end Go.Proofs.YtpdleggpmhlagaaDoor
/- Ratios: Rate. -/
set_option linter.unusedSimpArgs false
set_option linter.unusedVariables false
set_option linter.unusedSectionVars false
set_option maxRecDepth 20000
set_option maxHeartbeats 4000000
namespace Go.Proofs.YtpdleggpmhlagaaDoor
open Go Go.J
attribute [local irreducible] At AtQ AtM AtM1 PR Ct Pu Rd Res.blk Res.own Res.ex RVs RV
namespace Ra
open Wide
def rat (x k : Nat) : (Nat × Nat) × Int := if k = 0 then ((0, 0), 12) else if sE (x * 1000) ≠ 0 then ((0, 0), sE (x * 1000)) else red (x * 1000) k
theorem sE_cases (x : Nat) : sE x = 0 ∨ sE x = 1 := by
  unfold sE
  by_cases h : x < 340282366920938463463374607431768211456
  · rw [if_pos h]; exact .inl rfl
  · rw [if_neg h]; exact .inr rfl
theorem rate {m : Mem} (ht : TZ m) (x k : Nat) (hx : x < 340282366920938463463374607431768211456) (hk : k < 18446744073709551616) : Rd Tryd.prog 9 #[wv x, .int .u64 (k : Int)] m [] (.tuple #[rv (rat x k).1.1 (rat x k).1.2, .int .i64 (rat x k).2]) := by
  unfold Rd
  unfold rat
  by_cases h : k = 0
  · rw [if_pos h]
    subst h
    refine Ct.enterV (by rfl) Tryd.func9 rfl Tryd.ntmps9 rfl (fun w0 Rest => ?_)
    (repeat' (first | refine zss ?_ | refine zs0 ?_ | ((with_reducible apply At.box (d := 2)); exact rfl; exact rfl; exact rfl; intro b2) | ((with_reducible apply At.alloc (d := 4)); exact rfl; exact rfl; intro b4) | ((with_reducible apply At.alloc (d := 6)); exact rfl; exact rfl; intro b6) | (refine zsp ?_ ?_ <;> (intro hc; (try simp only [zhcs, reduceCtorEq] at hc); (try (exfalso; first | omega | contradiction | omega | exact absurd rfl hc | exact absurd (by decide) hc))))))
    all_goals ((with_reducible apply At.retV (B := [])); exact rfl; (repeat' (first | exact RVs.nil | (with_reducible apply RVs.cons) | exact rv_tmp (by rfl) | exact rv_cellN (by rfl) (by repeat constructor) (by rfl) (by rfl) (by rfl) | exact rv_cell1 (by rfl) (by repeat constructor) (by rfl) (by rfl))); exact zml; exact zkp; exact ⟨rfl, rfl, rfl⟩)
  rw [if_neg h]
  have n1 : ¬ (k : Int) = 0 := by omega
  have k1 : Pu Tryd.prog 22 #[wv x, .int .u64 1000] (.tuple #[wv (sV (x * 1000)), .int .i64 (sE (x * 1000))]) := times x 1000 hx (by decide)
  rcases sE_cases (x * 1000) with e | e
  · rw [if_neg (not_not_intro e)]
    have h1 := sE_zero e
    have hb := sV_lt (x * 1000)
    rw [e, h1] at k1
    rw [h1] at hb
    generalize x * 1000 = y at k1 hb ⊢
    have k2 := of_ k hk
    have k3 := fun (m' : Mem) (hm' : m.le m') => reduce (m := m') (ht.mono hm') y k hb (Nat.lt_trans hk (by decide))
    generalize red y k = w at k3 ⊢
    refine Ct.enterV (by rfl) Tryd.func9 rfl Tryd.ntmps9 rfl (fun w0 Rest => ?_)
    (repeat' (first | ((with_reducible apply At.mixed (id := 6) 8 (.q 0 (.q 1 (.q 2 (.q 3 (.q 4 (.q 5 (.x 6 (.q 7 .done))))))))); exact rfl; kernel_rfl; kernel_rfl; kernel_rfl) | refine zsx ?_ | refine zss ?_ | ((with_reducible apply AtM.bo); exact rfl; exact rfl; exact rfl) | refine zs0 ?_ | refine zx0 ?_ | ((with_reducible first | apply AtM1.callp | apply AtQ.callp | apply At.callp); kernel_rfl; exact rfl; exact rfl; exact k1) | ((with_reducible first | apply AtM1.callp | apply AtQ.callp | apply At.callp); kernel_rfl; exact rfl; exact rfl; exact k2) | ((with_reducible first | apply AtM1.cr | apply AtQ.cr | apply At.cr); exact rfl; exact rfl; exact fun _ hmm => k3 _ hmm; exact ztk; kernel_rfl) | ((with_reducible apply At.box (d := 2)); exact rfl; exact rfl; exact rfl; intro b2) | ((with_reducible apply At.alloc (d := 4)); exact rfl; exact rfl; intro b4) | ((with_reducible apply At.alloc (d := 6)); exact rfl; exact rfl; intro b6) | (refine zsp ?_ ?_ <;> (intro hc; (try simp only [zhcs, reduceCtorEq] at hc); (try (exfalso; first | (first | omega | exact absurd hc n1) | contradiction | omega | exact absurd rfl hc | exact absurd (by decide) hc))))))
    all_goals ((with_reducible apply At.retV (B := [])); exact rfl; (repeat' (first | exact RVs.nil | (with_reducible apply RVs.cons) | exact rv_tmp (by rfl) | exact rv_cellN (by rfl) (by repeat constructor) (by rfl) (by rfl) (by rfl) | exact rv_cell1 (by rfl) (by repeat constructor) (by rfl) (by rfl))); exact zml; exact zkp; exact ⟨rfl, rfl, rfl⟩)
  · rw [e] at k1
    rw [if_pos (by rw [e]; decide), e]
    generalize sV (x * 1000) = y at k1
    refine Ct.enterV (by rfl) Tryd.func9 rfl Tryd.ntmps9 rfl (fun w0 Rest => ?_)
    (repeat' (first | refine zss ?_ | refine zs0 ?_ | ((with_reducible first | apply AtM1.callp | apply AtQ.callp | apply At.callp); kernel_rfl; exact rfl; exact rfl; exact k1) | ((with_reducible apply At.box (d := 2)); exact rfl; exact rfl; exact rfl; intro b2) | ((with_reducible apply At.alloc (d := 4)); exact rfl; exact rfl; intro b4) | ((with_reducible apply At.alloc (d := 6)); exact rfl; exact rfl; intro b6) | (refine zsp ?_ ?_ <;> (intro hc; (try simp only [zhcs, reduceCtorEq] at hc); (try (exfalso; first | (first | omega | exact absurd hc n1) | contradiction | omega | exact absurd rfl hc | exact absurd (by decide) hc))))))
    all_goals ((with_reducible apply At.retV (B := [])); exact rfl; (repeat' (first | exact RVs.nil | (with_reducible apply RVs.cons) | exact rv_tmp (by rfl) | exact rv_cellN (by rfl) (by repeat constructor) (by rfl) (by rfl) (by rfl) | exact rv_cell1 (by rfl) (by repeat constructor) (by rfl) (by rfl))); exact zml; exact zkp; exact ⟨rfl, rfl, rfl⟩)
end Ra
end Go.Proofs.YtpdleggpmhlagaaDoor
/- The document's numbers, as sixteen bytes. -/
set_option linter.unusedSimpArgs false
set_option linter.unusedVariables false
set_option linter.unusedSectionVars false
set_option maxRecDepth 20000
set_option maxHeartbeats 4000000
namespace Go.Proofs.YtpdleggpmhlagaaDoor
open Go Go.J
attribute [local irreducible] At AtQ AtM AtM1 PR Ct Pu Rd Res.blk Res.own Res.ex RVs RV
namespace Wide
def tab (f : Nat → Nat) : List Int := (List.range 16).map (fun i => ((f i : Nat) : Int))
def dg (S i : Nat) : Nat := S / 256 ^ i % 256
abbrev gi : Int → Value := fun x => .int .i64 x
abbrev av (f : Nat → Nat) : Value := .agg ((tab f).map gi).toArray
theorem tab_len (f : Nat → Nat) : (tab f).length = 16 := by simp [tab]
theorem tabm_len (f : Nat → Nat) : ((tab f).map gi).length = 16 := by simp [tab]
theorem all_gi (l : List Int) : (l.map gi).all oneCell = true := by
  rw [List.all_eq_true]; intro x hx; obtain ⟨y, -, rfl⟩ := List.mem_map.1 hx; rfl
theorem tab_get (f : Nat → Nat) {i : Nat} (h : i < 16) : (tab f)[i]! = (f i : Int) := by
  rw [getElem!_pos _ i (by rw [tab_len]; exact h)]; simp [tab]
theorem tab_congr {f g : Nat → Nat} (h : ∀ j, j < 16 → f j = g j) : tab f = tab g := by
  unfold tab
  apply List.map_congr_left
  intro j hj
  rw [h j (List.mem_range.1 hj)]
theorem tab_set (f : Nat → Nat) {k : Nat} (v : Nat) (h : k < 16) : (tab f).set k (v : Int) = tab (fun j => if j = k then v else f j) := by
  apply List.ext_getElem (by simp [tab])
  intro j h1 h2
  rw [List.getElem_set]
  simp only [tab, List.getElem_map, List.getElem_range]
  by_cases e : k = j
  · subst e; simp
  · rw [if_neg e, if_neg (Ne.symm e)]
theorem pr_load_tab {n : Nat} {w0 : World} {F : Fr} {m : Mem} {Rs : List Res} {f : Nat → Nat} {x : Operand} {t : TypeId} {b k : Nat} {E : TypeId} {Rs' : List Res} (hx : ev F x = some (.pointer (some ⟨b, k, none⟩))) (hp : Pick Rs (.blk b E ((tab f).map gi)) Rs') (ht : isAggB Tryd.prog t = some false) (hk : k < 16) :
    PR Tryd.prog n F (HW w0 m Rs) (.load t x) (.int .i64 ((f k : Nat) : Int)) := by
  have := pr_load_arr (n := n) (w0 := w0) (m := m) (P := Tryd.prog) (g := gi) hx hp ht (by rw [tab_len]; exact hk)
  rwa [tab_get f hk] at this
theorem dg_lt (S i : Nat) : dg S i < 256 := Nat.mod_lt _ (by decide)
theorem pow256 (i : Nat) : (2 : Int) ^ (8 * (i : Int)).toNat = ((256 ^ i : Nat) : Int) := by
  rw [show (8 * (i : Int)).toNat = 8 * i by omega, show (256 : Nat) ^ i = 2 ^ (8 * i) by rw [Nat.pow_mul], Int.natCast_pow]; rfl
theorem lo_div (x : Nat) {i : Nat} (hi : i < 8) : x % 18446744073709551616 / 256 ^ i % 256 = dg x i := by
  have e : (18446744073709551616 : Nat) = 256 ^ i * 256 ^ (8 - i) := by rw [← Nat.pow_add, show i + (8 - i) = 8 by omega]
  rw [e, Nat.mod_mul_right_div_self]
  have hd : (256 : Nat) ∣ 256 ^ (8 - i) := by
    rw [show 8 - i = (7 - i) + 1 by omega, Nat.pow_succ]; exact Nat.dvd_mul_left _ _
  rw [Nat.mod_mod_of_dvd _ hd]; rfl
theorem hi_div (x i : Nat) : x / 18446744073709551616 / 256 ^ i % 256 = dg x (8 + i) := by
  unfold dg
  rw [Nat.div_div_eq_div_mul, show (18446744073709551616 : Nat) = 256 ^ 8 from rfl, ← Nat.pow_add]
theorem and255 (y : Nat) (h : y < 18446744073709551616) : bits .and .u64 (y : Int) 255 = ((y % 256 : Nat) : Int) := by
  rw [u64_and _ _ (by omega) (by omega) (by decide) (by decide), Int.toNat_natCast, show ((255 : Int)).toNat = 255 from rfl, nat_mask8]
theorem lo_dig (x : Nat) {i : Nat} (hi : i < 8) : bits .and .u64 (((x % 18446744073709551616 : Nat) : Int) / 2 ^ (8 * (i : Int)).toNat) 255 = ((dg x i : Nat) : Int) := by
  rw [pow256, ← Int.natCast_ediv, and255 _ (Nat.lt_of_le_of_lt (Nat.div_le_self _ _) (Nat.mod_lt _ (by decide))), lo_div x hi]
theorem hi_dig (x i : Nat) (hx : x < 340282366920938463463374607431768211456) : bits .and .u64 (((x / 18446744073709551616 : Nat) : Int) / 2 ^ (8 * (i : Int)).toNat) 255 = ((dg x (8 + i) : Nat) : Int) := by
  rw [pow256, ← Int.natCast_ediv, and255 _ (Nat.lt_of_le_of_lt (Nat.div_le_self _ _) (by omega)), hi_div x i]

theorem bytes (x : Nat) (hx : x < 340282366920938463463374607431768211456) : Pu Tryd.prog 42 #[wv x] (av (dg x)) := Pu.intro fun m => by
  refine Ct.enterV (by rfl) Tryd.func42 rfl Tryd.ntmps42 rfl (fun w0 Rest => ?_)
  (repeat' (first | refine zss ?_ | ((first | (with_reducible first | apply At.val | apply AtQ.val)); (exact zprA); exact rfl) | refine zs0 ?_ | ((with_reducible apply At.box (d := 1)); exact rfl; exact rfl; exact rfl; intro b1) | ((with_reducible apply At.alloc (d := 2)); exact rfl; exact rfl; intro b2) | ((with_reducible apply At.alloc (d := 3)); exact rfl; exact rfl; intro b3) | (refine zsp ?_ ?_ <;> (intro hc; (try simp only [zhcs, reduceCtorEq] at hc); (try (exfalso; first | contradiction | omega | exact absurd rfl hc | exact absurd (by decide) hc))))))
  (refine At.loopk (σ := Nat) [1, 2, 3] (fun s F0 => (4, .int .i64 (s : Int)) :: F0) (fun s => m) (fun s => .blk b3 58 ((tab (fun j => if j < s ∨ (8 ≤ j ∧ j < 8 + s) then dg x j else 0)).map gi) :: .blk b2 58 ((tab (fun _ => 0)).map gi) :: .blk b1 24 (wd x) :: Rest) (fun s => s ≤ 8) (fun s => 8 - s) 0 (by rfl) ?_ zsubs zml zente ?_)
  · exact Nat.zero_le _
  intro s hs
  by_cases h : s < 8
  · have h1 := dg_lt x s
    have h2 := dg_lt x (8 + s)
    have hl := tab_len (fun j => if j < s ∨ (8 ≤ j ∧ j < 8 + s) then dg x j else 0)
    (repeat' (first | refine zss ?_ | ((first | (with_reducible first | apply At.val | apply AtQ.val)); (first | exact pr_and (by rfl) (by rfl) (lo_dig x h) | exact pr_and (by rfl) (by rfl) (hi_dig x s hx) | exact zprA); exact rfl) | refine zs0 ?_ | ((with_reducible apply At.storeArr (g := gi) (((dg x s : Nat) : Int))); exact rfl; exact rfl; exact rfl; exact rfl; exact rfl; exact rfl; exact (by repeat constructor); (first | omega | (simp only [lns] <;> omega))) | ((with_reducible apply At.storeArr (g := gi) (((dg x (8 + s) : Nat) : Int))); exact rfl; exact rfl; exact rfl; exact rfl; exact rfl; exact rfl; exact (by repeat constructor); (first | omega | (simp only [lns] <;> omega))) | ((with_reducible apply At.box (d := 1)); exact rfl; exact rfl; exact rfl; intro b1) | ((with_reducible apply At.alloc (d := 2)); exact rfl; exact rfl; intro b2) | ((with_reducible apply At.alloc (d := 3)); exact rfl; exact rfl; intro b3) | (refine zsp ?_ ?_ <;> (intro hc; (try simp only [zhcs, reduceCtorEq] at hc); (try (exfalso; first | omega | contradiction | omega | exact absurd rfl hc | exact absurd (by decide) hc))))))
    have e : ((tab (fun j => if j < s ∨ (8 ≤ j ∧ j < 8 + s) then dg x j else 0)).set s ((dg x s : Nat) : Int)).set (8 + s) ((dg x (8 + s) : Nat) : Int) = tab (fun j => if j < s + 1 ∨ (8 ≤ j ∧ j < 8 + (s + 1)) then dg x j else 0) := by
      rw [tab_set _ _ (by omega), tab_set _ _ (by omega)]
      apply tab_congr
      intro j hj
      by_cases e1 : j = 8 + s
      · subst e1; rw [if_pos rfl, if_pos (by omega)]
      · rw [if_neg e1]
        by_cases e2 : j = s
        · subst e2; rw [if_pos rfl, if_pos (by omega)]
        · rw [if_neg e2]
          by_cases e3 : j < s ∨ (8 ≤ j ∧ j < 8 + s)
          · rw [if_pos e3, if_pos (by omega)]
          · rw [if_neg e3, if_neg (by omega)]
    all_goals (rw [e])
    all_goals ((with_reducible refine At.reachk ((s + 1)) ?_ ?_ ?_ ?_); exact zsubs; exact zml; exact zente; exact ⟨by omega, by omega⟩)
  · have e : tab (fun j => if j < s ∨ (8 ≤ j ∧ j < 8 + s) then dg x j else 0) = tab (dg x) := tab_congr fun j hj => by rw [if_pos (by omega)]
    rw [e]
    have hl := tabm_len (dg x)
    have hl0 := tabm_len (fun _ => 0)
    (repeat' (first | refine zss ?_ | ((first | (with_reducible first | apply At.val | apply AtQ.val)); (exact zprA); exact rfl) | refine zs0 ?_ | ((with_reducible apply At.storeA); exact rfl; exact rfl; exact rfl; exact all_gi _; exact (by repeat constructor); (first | exact rfl | (first | omega | (simp only [lns] <;> omega))); (first | exact rfl | (first | omega | (simp only [lns] <;> omega)))) | ((with_reducible apply At.box (d := 1)); exact rfl; exact rfl; exact rfl; intro b1) | ((with_reducible apply At.alloc (d := 2)); exact rfl; exact rfl; intro b2) | ((with_reducible apply At.alloc (d := 3)); exact rfl; exact rfl; intro b3) | (refine zsp ?_ ?_ <;> (intro hc; (try simp only [zhcs, reduceCtorEq] at hc); (try (exfalso; first | omega | contradiction | omega | exact absurd rfl hc | exact absurd (by decide) hc))))))
    all_goals ((with_reducible apply At.retV (B := [])); exact rfl; (repeat' (first | exact RVs.nil | (with_reducible apply RVs.cons) | exact rv_tmp (by rfl) | exact rv_cellN (by rfl) (by repeat constructor) (by rfl) (by rfl) (by rfl) | exact rv_cell1 (by rfl) (by repeat constructor) (by rfl) (by rfl) | exact rv_cellA (by rfl) (by repeat constructor) (by rfl) (by rfl) zlq)); exact zml; exact zkp; exact ⟨rfl, rfl, rfl⟩)

/-! ### the number that sixteen bytes stand for -/
theorem dig_succ (S i : Nat) : S % 256 ^ (i + 1) = S % 256 ^ i + 256 ^ i * dg S i := Nat.mod_pow_succ
theorem or_dig {q d i : Nat} (hq : q < 256 ^ i) (hd : d < 256) (hi : i < 8) : bits .or .u64 (q : Int) (((d : Int) * 2 ^ (8 * (i : Int)).toNat) % 18446744073709551616) = ((q + 256 ^ i * d : Nat) : Int) := by
  have e : (18446744073709551616 : Nat) = 256 ^ i * 256 ^ (8 - i) := by rw [← Nat.pow_add, show i + (8 - i) = 8 by omega]
  have h1 : d * 256 ^ i < 18446744073709551616 := by
    rw [e, Nat.mul_comm]
    refine Nat.mul_lt_mul_of_pos_left (Nat.lt_of_lt_of_le hd ?_) (Nat.pow_pos (by decide))
    rw [show (256 : Nat) = 256 ^ 1 from rfl, ← Nat.pow_mul, Nat.one_mul]
    exact Nat.pow_le_pow_right (by decide) (by omega)
  have h2 : q < 18446744073709551616 := by
    refine Nat.lt_of_lt_of_le hq ?_
    rw [show (18446744073709551616 : Nat) = 256 ^ 8 from rfl]
    exact Nat.pow_le_pow_right (by decide) (by omega)
  rw [pow256, ← Int.natCast_mul, Int.emod_eq_of_lt (by omega) (by omega), u64_or _ _ (by omega) (by omega) (by omega) (by omega), Int.toNat_natCast, Int.toNat_natCast]
  congr 1
  rw [show (256 : Nat) ^ i = 2 ^ (8 * i) by rw [Nat.pow_mul]] at hq ⊢
  rw [Nat.or_comm, Nat.mul_comm, ← Nat.two_pow_add_eq_or_of_lt hq, Nat.add_comm]
theorem hi_dg (x i : Nat) : dg (x / 18446744073709551616) i = dg x (8 + i) := by
  unfold dg; exact hi_div x i
structure OS where
  (i : Nat) (h : Nat) (l : Nat)
theorem of_r (x : Nat) (hx : x < 340282366920938463463374607431768211456) : Pu Tryd.prog 46 #[av (dg x)] (wv x) := Pu.intro fun m => by
  refine Ct.enterV (by rfl) Tryd.func46 rfl Tryd.ntmps46 rfl (fun w0 Rest => ?_)
  have hl := tabm_len (dg x)
  have hl1 := tab_len (dg x)
  (repeat' (first | refine zss ?_ | ((first | (with_reducible first | apply At.val | apply AtQ.val)); (exact zprA); exact rfl) | refine zs0 ?_ | ((with_reducible apply At.boxA (d := 1)); exact rfl; exact rfl; intro b1) | ((with_reducible apply At.box (d := 1)); exact rfl; exact rfl; exact rfl; intro b1) | ((with_reducible apply At.alloc (d := 2)); exact rfl; exact rfl; intro b2) | ((with_reducible apply At.alloc (d := 3)); exact rfl; exact rfl; intro b3) | (refine zsp ?_ ?_ <;> (intro hc; (try simp only [zhcs, reduceCtorEq] at hc); (try (exfalso; first | contradiction | omega | exact absurd rfl hc | exact absurd (by decide) hc))))))
  (refine At.loopk (σ := OS) [1, 2, 3] (fun s F0 => (4, .int .i64 (s.i : Int)) :: F0) (fun s => m) (fun s => .blk b3 24 [.int .u64 (s.h : Int), .int .u64 (s.l : Int)] :: .blk b2 24 (wd 0) :: .blk b1 58 ((tab (dg x)).map gi) :: Rest) (fun s => s.i ≤ 8 ∧ s.h = x / 18446744073709551616 % 256 ^ s.i ∧ s.l = x % 256 ^ s.i) (fun s => 8 - s.i) ⟨0, 0, 0⟩ (by rfl) ?_ zsubs zml zente ?_)
  · exact ⟨Nat.zero_le _, by rw [Nat.pow_zero, Nat.mod_one], by rw [Nat.pow_zero, Nat.mod_one]⟩
  rintro ⟨s, p, q⟩ ⟨hs, hp, hq⟩
  dsimp only at hs hp hq ⊢
  by_cases h : s < 8
  · have h1 := dg_lt x s
    have h2 := dg_lt x (8 + s)
    have hp0 : p < 256 ^ s := hp ▸ Nat.mod_lt _ (Nat.pow_pos (by decide))
    have hq0 : q < 256 ^ s := hq ▸ Nat.mod_lt _ (Nat.pow_pos (by decide))
    (repeat' (first | ((with_reducible apply At.mixed (id := 5) 12 (.q 0 (.q 1 (.q 2 (.q 3 (.q 4 (.q 5 (.q 6 (.q 7 (.q 8 (.q 9 (.q 10 (.x 11 .done))))))))))))); exact rfl; kernel_rfl; kernel_rfl; kernel_rfl) | ((with_reducible apply At.mixed (id := 6) 13 (.q 0 (.q 1 (.q 2 (.q 3 (.q 4 (.q 5 (.q 6 (.q 7 (.q 8 (.q 9 (.q 10 (.q 11 (.x 12 .done)))))))))))))); exact rfl; kernel_rfl; kernel_rfl; kernel_rfl) | refine zsx ?_ | refine zss ?_ | ((with_reducible apply AtM.bo); exact rfl; exact rfl; exact rfl) | ((first | (with_reducible first | apply At.val | apply AtQ.val) | ((with_reducible first | apply AtM1.valz | apply AtM1.val); exact rfl) | ((with_reducible apply AtM1.val); exact rfl)); (first | exact pr_indexArr1 (k := 8 + s) (by rfl) (by rfl) (by rfl) (by rfl) (by omega) | exact pr_load_tab (k := s) (by rfl) (by first | exact pk0 | exact pk1 | exact pk2 | exact pk3) (by rfl) (by omega) | exact pr_load_tab (k := 8 + s) (by rfl) (by first | exact pk0 | exact pk1 | exact pk2 | exact pk3) (by rfl) (by omega) | exact pr_or (by rfl) (by rfl) (or_dig hq0 h1 h) | exact pr_or (by rfl) (by rfl) (or_dig hp0 h2 h) | exact zprA); exact rfl) | refine zs0 ?_ | refine zx0 ?_ | ((with_reducible apply At.box (d := 1)); exact rfl; exact rfl; exact rfl; intro b1) | ((with_reducible apply At.alloc (d := 2)); exact rfl; exact rfl; intro b2) | ((with_reducible apply At.alloc (d := 3)); exact rfl; exact rfl; intro b3) | (refine zsp ?_ ?_ <;> (intro hc; (try simp only [zhcs, reduceCtorEq] at hc); (try (exfalso; first | omega | contradiction | omega | exact absurd rfl hc | exact absurd (by decide) hc))))))
    all_goals ((with_reducible refine At.reachk (⟨s + 1, p + 256 ^ s * dg x (8 + s), q + 256 ^ s * dg x s⟩) ?_ ?_ ?_ ?_); exact zsubs; exact zml; exact zente; exact ⟨⟨Nat.succ_le_of_lt h, by show p + _ = _; rw [dig_succ, hp, hi_dg], by show q + _ = _; rw [dig_succ, hq]⟩, by show 8 - (s + 1) < 8 - s; omega⟩)
  · have e8 : s = 8 := by omega
    subst e8
    have e : (256 : Nat) ^ 8 = 18446744073709551616 := rfl
    rw [e] at hp hq
    rw [Nat.mod_eq_of_lt (by omega)] at hp
    subst hp hq
    (repeat' (first | refine zss ?_ | ((first | (with_reducible first | apply At.val | apply AtQ.val)); (exact zprA); exact rfl) | refine zs0 ?_ | ((with_reducible apply At.box (d := 1)); exact rfl; exact rfl; exact rfl; intro b1) | ((with_reducible apply At.alloc (d := 2)); exact rfl; exact rfl; intro b2) | ((with_reducible apply At.alloc (d := 3)); exact rfl; exact rfl; intro b3) | (refine zsp ?_ ?_ <;> (intro hc; (try simp only [zhcs, reduceCtorEq] at hc); (try (exfalso; first | omega | contradiction | omega | exact absurd rfl hc | exact absurd (by decide) hc))))))
    all_goals ((with_reducible apply At.retV (B := [])); exact rfl; (repeat' (first | exact RVs.nil | (with_reducible apply RVs.cons) | exact rv_tmp (by rfl) | exact rv_cellN (by rfl) (by repeat constructor) (by rfl) (by rfl) (by rfl) | exact rv_cell1 (by rfl) (by repeat constructor) (by rfl) (by rfl) | exact rv_cellA (by rfl) (by repeat constructor) (by rfl) (by rfl) zlq)); exact zml; exact zkp; exact ⟨rfl, rfl, rfl⟩)

/-! ### the sum, digit by digit -/
theorem pr_load_tabv {n : Nat} {w0 : World} {F : Fr} {m : Mem} {Rs : List Res} {f : Nat → Nat} {x : Operand} {t : TypeId} {b k v : Nat} {E : TypeId} {Rs' : List Res} (hx : ev F x = some (.pointer (some ⟨b, k, none⟩))) (hp : Pick Rs (.blk b E ((tab f).map gi)) Rs') (ht : isAggB Tryd.prog t = some false) (hk : k < 16) (hv : f k = v) :
    PR Tryd.prog n F (HW w0 m Rs) (.load t x) (.int .i64 ((v : Nat) : Int)) := hv ▸ pr_load_tab hx hp ht hk
def cy (x y i : Nat) : Nat := (x % 256 ^ i + y % 256 ^ i) / 256 ^ i
theorem cy_lt (x y i : Nat) : cy x y i < 2 := by
  have h : 0 < 256 ^ i := Nat.pow_pos (by decide)
  unfold cy
  rw [Nat.div_lt_iff_lt_mul h]
  have h1 := Nat.mod_lt x h
  have h2 := Nat.mod_lt y h
  omega
theorem cy_succ (x y i : Nat) : (dg x i + dg y i + cy x y i) / 256 = cy x y (i + 1) := by
  have h : 0 < 256 ^ i := Nat.pow_pos (by decide)
  unfold cy
  rw [dig_succ, dig_succ, Nat.pow_succ, ← Nat.div_div_eq_div_mul]
  congr 1
  rw [show x % 256 ^ i + 256 ^ i * dg x i + (y % 256 ^ i + 256 ^ i * dg y i) = (x % 256 ^ i + y % 256 ^ i) + 256 ^ i * (dg x i + dg y i) by rw [Nat.mul_add]; omega, Nat.add_mul_div_left _ _ h]
  omega
theorem cy_dig (x y i : Nat) : (dg x i + dg y i + cy x y i) % 256 = dg (x + y) i := by
  have h : 0 < 256 ^ i := Nat.pow_pos (by decide)
  unfold dg cy
  have e : (x + y) / 256 ^ i = x / 256 ^ i + y / 256 ^ i + (x % 256 ^ i + y % 256 ^ i) / 256 ^ i := by
    conv => lhs; rw [← Nat.mod_add_div x (256 ^ i), ← Nat.mod_add_div y (256 ^ i)]
    rw [show x % 256 ^ i + 256 ^ i * (x / 256 ^ i) + (y % 256 ^ i + 256 ^ i * (y / 256 ^ i)) = (x % 256 ^ i + y % 256 ^ i) + 256 ^ i * (x / 256 ^ i + y / 256 ^ i) by rw [Nat.mul_add]; omega, Nat.add_mul_div_left _ _ h]
    omega
  rw [e]; omega
theorem cy_end (x y : Nat) (hx : x < 340282366920938463463374607431768211456) (hy : y < 340282366920938463463374607431768211456) : cy x y 16 = (x + y) / 340282366920938463463374607431768211456 := by
  unfold cy
  rw [show (256 : Nat) ^ 16 = 340282366920938463463374607431768211456 from rfl, Nat.mod_eq_of_lt hx, Nat.mod_eq_of_lt hy]
structure AS where
  (i : Nat) (c : Nat)
theorem add_r (x y : Nat) (hx : x < 340282366920938463463374607431768211456) (hy : y < 340282366920938463463374607431768211456) : Pu Tryd.prog 43 #[wv x, wv y] (.tuple #[wv (sV (x + y)), .int .i64 (sE (x + y))]) := Pu.intro fun m => by
  have hlx := tab_len (dg x)
  have hly := tab_len (dg y)
  have hmx := tabm_len (dg x)
  have hmy := tabm_len (dg y)
  refine Ct.enterV (by rfl) Tryd.func43 rfl Tryd.ntmps43 rfl (fun w0 Rest => ?_)
  (repeat' (first | ((with_reducible apply At.mixed (id := 1) 8 (.q 0 (.q 1 (.q 2 (.q 3 (.b 4 5 (.l 5 (.x 6 (.x 7 .done))) (.l 4 (.x 6 (.x 7 .done))))))))); exact rfl; kernel_rfl; kernel_rfl; kernel_rfl) | refine zsx ?_ | refine zss ?_ | ((with_reducible apply AtM.bo); exact rfl; exact rfl; exact rfl) | ((first | (with_reducible first | apply At.val | apply AtQ.val) | ((with_reducible first | apply AtM1.valz | apply AtM1.val); exact rfl) | ((with_reducible apply AtM1.val); exact rfl)); (exact zprA); exact rfl) | refine zs0 ?_ | refine zx0 ?_ | ((with_reducible first | apply AtM1.callp | apply AtQ.callp | apply At.callp); kernel_rfl; exact rfl; exact rfl; exact bytes x hx) | ((with_reducible first | apply AtM1.callp | apply AtQ.callp | apply At.callp); kernel_rfl; exact rfl; exact rfl; exact bytes y hy) | ((with_reducible apply At.storeA); exact rfl; exact rfl; exact rfl; exact all_gi _; exact (by repeat constructor); (first | exact rfl | (first | omega | (simp only [lns] <;> omega))); (first | exact rfl | (first | omega | (simp only [lns] <;> omega)))) | ((with_reducible apply At.box (d := 2)); exact rfl; exact rfl; exact rfl; intro b2) | ((with_reducible apply At.box (d := 3)); exact rfl; exact rfl; exact rfl; intro b3) | ((with_reducible apply At.alloc (d := 4)); exact rfl; exact rfl; intro b4) | ((with_reducible apply At.alloc (d := 6)); exact rfl; exact rfl; intro b6) | ((with_reducible apply At.alloc (d := 7)); exact rfl; exact rfl; intro b7) | (refine zsp ?_ ?_ <;> (intro hc; (try simp only [zhcs, reduceCtorEq] at hc); (try (exfalso; first | contradiction | omega | exact absurd rfl hc | exact absurd (by decide) hc))))))
  all_goals (refine At.loopk (σ := AS) [4, 6, 7] (fun s F0 => (15, .int .i64 (s.i : Int)) :: (8, .int .i64 (s.c : Int)) :: F0) (fun s => m) (fun s => .blk b7 58 ((tab (dg y)).map gi) :: .blk b6 58 ((tab (fun j => if j < s.i then dg (x + y) j else dg x j)).map gi) :: .blk b4 24 (wd 0) :: Rest) (fun s => s.i ≤ 16 ∧ s.c = cy x y s.i) (fun s => 16 - s.i) ⟨0, 0⟩ (by rfl) ?_ zsubs zml zente ?_)
  all_goals try exact ⟨Nat.zero_le _, by simp [cy, Nat.mod_one]⟩
  all_goals
    rintro ⟨s, c⟩ ⟨hs, hc0⟩
    dsimp only at hs hc0 ⊢
    have hc2 := cy_lt x y s
    rw [← hc0] at hc2
    by_cases h : s < 16
    · have h1 := dg_lt x s
      have h2 := dg_lt y s
      have hl := tab_len (fun j => if j < s then dg (x + y) j else dg x j)
      (repeat' (first | refine zss ?_ | ((first | (with_reducible first | apply At.val | apply AtQ.val)); (first | exact pr_load_tabv (k := s) (v := dg x s) (by rfl) (by first | exact pk0 | exact pk1 | exact pk2 | exact pk3) (by rfl) (by omega) (if_neg (Nat.lt_irrefl s)) | exact pr_load_tab (k := s) (by rfl) (by first | exact pk0 | exact pk1 | exact pk2 | exact pk3) (by rfl) (by omega) | exact zprA); exact rfl) | refine zs0 ?_ | ((with_reducible apply At.storeArr (g := gi) (((((dg x s : Nat) : Int) + ((dg y s : Nat) : Int) + (c : Int)) % 256))); exact rfl; exact rfl; exact rfl; exact rfl; exact rfl; exact rfl; exact (by repeat constructor); (first | omega | (simp only [lns] <;> omega))) | ((with_reducible apply At.box (d := 2)); exact rfl; exact rfl; exact rfl; intro b2) | ((with_reducible apply At.box (d := 3)); exact rfl; exact rfl; exact rfl; intro b3) | ((with_reducible apply At.alloc (d := 4)); exact rfl; exact rfl; intro b4) | ((with_reducible apply At.alloc (d := 6)); exact rfl; exact rfl; intro b6) | ((with_reducible apply At.alloc (d := 7)); exact rfl; exact rfl; intro b7) | (refine zsp ?_ ?_ <;> (intro hc; (try simp only [zhcs, reduceCtorEq] at hc); (try (exfalso; first | omega | contradiction | omega | exact absurd rfl hc | exact absurd (by decide) hc))))))
      have e : (tab (fun j => if j < s then dg (x + y) j else dg x j)).set s ((((dg x s : Nat) : Int) + ((dg y s : Nat) : Int) + (c : Int)) % 256) = tab (fun j => if j < s + 1 then dg (x + y) j else dg x j) := by
        rw [show (((dg x s : Nat) : Int) + ((dg y s : Nat) : Int) + (c : Int)) % 256 = ((dg (x + y) s : Nat) : Int) by rw [← cy_dig, ← hc0]; omega, tab_set _ _ h]
        apply tab_congr
        intro j hj
        by_cases e1 : j = s
        · subst e1; rw [if_pos rfl, if_pos (by omega)]
        · rw [if_neg e1]
          by_cases e2 : j < s
          · rw [if_pos e2, if_pos (by omega)]
          · rw [if_neg e2, if_neg (by omega)]
      all_goals (rw [e])
      all_goals ((with_reducible refine At.reachk (⟨s + 1, (dg x s + dg y s + c) / 256⟩) ?_ ?_ ?_ ?_); exact zsubs; exact zml; exact zente; exact ⟨⟨Nat.succ_le_of_lt h, by show _ / 256 = _; rw [hc0, cy_succ]⟩, by show 16 - (s + 1) < 16 - s; omega⟩)
    · have e16 : s = 16 := by omega
      subst e16
      rw [cy_end x y hx hy] at hc0
      have e : tab (fun j => if j < 16 then dg (x + y) j else dg x j) = tab (dg (x + y)) := tab_congr fun j hj => if_pos hj
      rw [e]
      by_cases ho : x + y < 340282366920938463463374607431768211456
      · have e1 : sV (x + y) = x + y := if_pos ho
        have e2 : sE (x + y) = 0 := if_pos ho
        rw [e1, e2]
        have hlz := tabm_len (dg (x + y))
        (repeat' (first | refine zss ?_ | ((first | (with_reducible first | apply At.val | apply AtQ.val)); (exact zprA); exact rfl) | refine zs0 ?_ | ((with_reducible first | apply AtM1.callp | apply AtQ.callp | apply At.callp); kernel_rfl; exact rfl; exact rfl; exact of_r (x + y) ho) | ((with_reducible apply At.box (d := 2)); exact rfl; exact rfl; exact rfl; intro b2) | ((with_reducible apply At.box (d := 3)); exact rfl; exact rfl; exact rfl; intro b3) | ((with_reducible apply At.alloc (d := 4)); exact rfl; exact rfl; intro b4) | ((with_reducible apply At.alloc (d := 6)); exact rfl; exact rfl; intro b6) | ((with_reducible apply At.alloc (d := 7)); exact rfl; exact rfl; intro b7) | (refine zsp ?_ ?_ <;> (intro hc; (try simp only [zhcs, reduceCtorEq] at hc); (try (exfalso; first | omega | contradiction | omega | exact absurd rfl hc | exact absurd (by decide) hc))))))
        all_goals ((with_reducible apply At.retV (B := [])); exact rfl; (repeat' (first | exact RVs.nil | (with_reducible apply RVs.cons) | exact rv_tmp (by rfl) | exact rv_cellN (by rfl) (by repeat constructor) (by rfl) (by rfl) (by rfl) | exact rv_cell1 (by rfl) (by repeat constructor) (by rfl) (by rfl) | exact rv_cellA (by rfl) (by repeat constructor) (by rfl) (by rfl) zlq)); exact zml; exact zkp; exact ⟨rfl, rfl, rfl⟩)
      · have e1 : sV (x + y) = 0 := if_neg ho
        have e2 : sE (x + y) = 1 := if_neg ho
        rw [e1, e2]
        (repeat' (first | refine zss ?_ | ((first | (with_reducible first | apply At.val | apply AtQ.val)); (exact zprA); exact rfl) | refine zs0 ?_ | ((with_reducible apply At.box (d := 2)); exact rfl; exact rfl; exact rfl; intro b2) | ((with_reducible apply At.box (d := 3)); exact rfl; exact rfl; exact rfl; intro b3) | ((with_reducible apply At.alloc (d := 4)); exact rfl; exact rfl; intro b4) | ((with_reducible apply At.alloc (d := 6)); exact rfl; exact rfl; intro b6) | ((with_reducible apply At.alloc (d := 7)); exact rfl; exact rfl; intro b7) | (refine zsp ?_ ?_ <;> (intro hc; (try simp only [zhcs, reduceCtorEq] at hc); (try (exfalso; first | omega | contradiction | omega | exact absurd rfl hc | exact absurd (by decide) hc))))))
        all_goals ((with_reducible apply At.retV (B := [])); exact rfl; (repeat' (first | exact RVs.nil | (with_reducible apply RVs.cons) | exact rv_tmp (by rfl) | exact rv_cellN (by rfl) (by repeat constructor) (by rfl) (by rfl) (by rfl) | exact rv_cell1 (by rfl) (by repeat constructor) (by rfl) (by rfl) | exact rv_cellA (by rfl) (by repeat constructor) (by rfl) (by rfl) zlq)); exact zml; exact zkp; exact ⟨rfl, rfl, rfl⟩)
end Wide
end Go.Proofs.YtpdleggpmhlagaaDoor

/- Two rows of labels put together: of many. -/
import Derived.Test.YtjncahmbllmllaaLbM
import Derived.Test.YtjncahmbllmllaaJP
import Derived.Test.YtjncahmbllmllaaJT
set_option linter.unusedSimpArgs false
set_option linter.unusedVariables false
set_option linter.unusedSectionVars false
set_option maxRecDepth 20000
set_option maxHeartbeats 4000000
namespace Go.Proofs.Ytjncahmbllmllaa
open Go Go.J
attribute [local irreducible] At AtQ AtM AtM1 PR Ct Pu Rd Res.blk Res.own Res.ex RVs RV Lb.N
namespace Lb
set_option maxHeartbeats 8000000 in
theorem symG {m : Mem} (p : Option Addr) (c n d a k b : Nat) (l : List Lab) (hl : n ≤ 1000000) (hd : b - a ≤ d + 1) (hn : l.length = n) (h1 : a < k) (h2 : k < b) (hb : b ≤ n) (c1 : ¬ k - a = 1) (c2 : ¬ b - k = 1)
    (wi : IntKind.wrap .i64 ((k : Int) - (a : Int)) = ((k - a : Nat) : Int)) (wj : IntKind.wrap .i64 ((b : Int) - (k : Int)) = ((b - k : Nat) : Int))
    (ih : ∀ {m : Mem} (a k b : Nat) (l : List Lab), b - a ≤ d → l.length = n → a < k → k < b → b ≤ n →
      Ct Try.prog 61 #[.slice p n c, .int .i64 (a : Int), .int .i64 (k : Int), .int .i64 (b : Int), fnS] m [oL p c l] (fun v m' B => PostN p c n v m m' B)) :
    Ct Try.prog 61 #[.slice p n c, .int .i64 (a : Int), .int .i64 (k : Int), .int .i64 (b : Int), fnS] m [oL p c l] (fun v m' B => PostN p c n v m m' B) := by
  obtain ⟨x, hx⟩ : ∃ x, (a + b) / 2 = x := ⟨_, rfl⟩
  obtain ⟨u1, u2, u3, u4, u5, u6⟩ := half a b x hx (by omega)
  have v1 : IntKind.wrap .i64 ((x : Int) + (k : Int)) = ((x + k : Nat) : Int) := by rw [← Int.natCast_add]; exact IntWalk.i64_in _ (by omega)
  have v3 : IntKind.wrap .i64 (((x + k : Nat) : Int) - 1) = ((x + k - 1 : Nat) : Int) := by rw [show ((x + k : Nat) : Int) - 1 = ((x + k - 1 : Nat) : Int) by omega]; exact IntWalk.i64_in _ (by omega)
  have hst : x < k → b ≤ x + k := by omega
  have v2 : x < k → IntKind.wrap .i64 (((x + k : Nat) : Int) - (b : Int)) = ((x + k - b : Nat) : Int) := fun hh => by rw [show ((x + k : Nat) : Int) - (b : Int) = ((x + k - b : Nat) : Int) by have := hst hh; omega]; exact IntWalk.i64_in _ (by omega)
  have r1 := fun {m : Mem} (i e : Nat) (g1 : i < k) (g2 : k < e) (g3 : e ≤ n) => toN (m := m) fun l hl' => rotR p c i k e n l hl' g1 g2 g3 hl
  have r2 := fun {m : Mem} (a' k' b' : Nat) (g0 : b' - a' ≤ d) (g1 : a' < k') (g2 : k' < b') (g3 : b' ≤ n) => toN (m := m) fun l hl' => ih a' k' b' l g0 hl' g1 g2 g3
  refine Ct.enterV (by rfl) Try.func61 rfl Try.ntmps61 rfl (fun w0 Rest => ?_)
  (repeat' (first | ((refine At.cutk (t := 140) (σ := BSt) [0, 1, 2, 3, 4, 18, 19] (fun s F0 => (20, .int .i64 (s.i : Int)) :: (21, .int .i64 (s.j : Int)) :: F0) (fun s => m) (fun s => oL p c l :: Rest) (fun s => a ≤ s.i ∧ s.i ≤ s.j ∧ x + k ≤ b + s.i ∧ s.j ≤ k ∧ s.j ≤ x) (by rfl) (by rfl) ?_ ?_); (refine ⟨?_, ?_⟩ <;> (intro hc; (try simp only [zhcs, reduceCtorEq] at hc); (try (exfalso; first | contradiction | omega | exact absurd rfl hc | exact absurd (by decide) hc))))) | refine zss ?_ | ((first | (with_reducible first | apply At.val | apply AtQ.val)); (first | exact pr_sub (by rfl) (by rfl) wi | exact pr_sub (by rfl) (by rfl) wj | exact pr_add (by rfl) (by rfl) u1 | exact pr_conv ⟨_, rfl⟩ (by rfl) (by rfl) u2 | exact pr_shrv (by rfl) (by rfl) (by omega) (by decide) u3 | exact pr_conv ⟨_, rfl⟩ (by rfl) (by rfl) u4 | exact pr_add (by rfl) (by rfl) v1); exact rfl) | refine zsO ?_ | (refine zsp ?_ ?_ <;> (intro hc; (try simp only [zhcs, reduceCtorEq] at hc); (try (exfalso; first | omega | contradiction | omega | exact absurd rfl hc | exact absurd (by decide) hc))))))
  · rename_i hc
    have v2 := v2 (by omega)
    (repeat' (first | refine zss ?_ | ((first | (with_reducible first | apply At.val | apply AtQ.val)); (exact pr_sub (by rfl) (by rfl) v2); exact rfl) | refine zs0 ?_ | (refine zsp ?_ ?_ <;> (intro hc; (try simp only [zhcs, reduceCtorEq] at hc); (try (exfalso; first | contradiction | omega | exact absurd rfl hc | exact absurd (by decide) hc))))))
    ((with_reducible refine At.reachk ((⟨x + k - b, x⟩ : BSt)) ?_ ?_ ?_ ?_); exact zsubs; exact zml; exact zente; exact ⟨by dsimp only; omega, by dsimp only; omega, by dsimp only; omega, by dsimp only; omega, Nat.le_refl _⟩)
  · rename_i hc
    (repeat' (first | refine zss ?_ | refine zsO ?_ | (refine zsp ?_ ?_ <;> (intro hc; (try simp only [zhcs, reduceCtorEq] at hc); (try (exfalso; first | contradiction | omega | exact absurd rfl hc | exact absurd (by decide) hc))))))
    ((with_reducible refine At.reachk ((⟨a, k⟩ : BSt)) ?_ ?_ ?_ ?_); exact zsubs; exact zml; exact zente; exact ⟨Nat.le_refl _, by dsimp only; omega, by dsimp only; omega, Nat.le_refl _, by dsimp only; omega⟩)
  have hxa : a < x ∧ x < b := by omega
  clear u1 u2 u3 u4 u5 u6 v1 v2 wi wj ih hst hx
  rintro ⟨A, R⟩ ⟨g1, g2, g3, g4, g5⟩
  dsimp only at g1 g2 g3 g4 g5 ⊢
  have w3 : IntKind.wrap .i64 (((x + k : Nat) : Int) - 1) = ((x + k - 1 : Nat) : Int) := v3
  clear v3
  refine At.ent (N.close hn _) ?_
  (repeat' (first | refine zss ?_ | ((first | (with_reducible first | apply At.val | apply AtQ.val)); (exact pr_sub (by rfl) (by rfl) w3); exact rfl) | refine zsO ?_ | (refine zsp ?_ ?_ <;> (intro hc; (try simp only [zhcs, reduceCtorEq] at hc); (try (exfalso; first | contradiction | omega | exact absurd rfl hc | exact absurd (by decide) hc))))))
  (refine At.loopk (σ := BSt) [0, 1, 2, 3, 4, 18, 19, 22] (fun s F0 => (20, .int .i64 (s.i : Int)) :: (21, .int .i64 (s.j : Int)) :: F0) (fun s => m) (fun s => N p c n :: Rest) (fun s => A ≤ s.i ∧ s.i ≤ s.j ∧ s.j ≤ R) (fun s => s.j - s.i) ⟨A, R⟩ (by rfl) ?_ zsubs zml zente ?_)
  · exact ⟨Nat.le_refl _, g2, Nat.le_refl _⟩
  rintro ⟨i, j⟩ ⟨f1, f2, f3⟩
  dsimp only at f1 f2 f3 ⊢
  by_cases e : i < j
  · obtain ⟨y, hy⟩ : ∃ y, (i + j) / 2 = y := ⟨_, rfl⟩
    obtain ⟨t1, t2, t3, t4, t5, t6⟩ := half i j y hy (by omega)
    have t7 : IntKind.wrap .i64 (((x + k - 1 : Nat) : Int) - (y : Int)) = ((x + k - 1 - y : Nat) : Int) := by rw [show ((x + k - 1 : Nat) : Int) - (y : Int) = ((x + k - 1 - y : Nat) : Int) by omega]; exact IntWalk.i64_in _ (by omega)
    obtain ⟨z, hz⟩ : ∃ z, x + k - 1 - y = z := ⟨_, rfl⟩
    rw [hz] at t7
    have hz' : z < n := by omega
    have hy' : y < n := by omega
    have q1 : (A ≤ i ∧ i ≤ y ∧ y ≤ R) ∧ y - i < j - i := by omega
    have q2 : (A ≤ y + 1 ∧ y + 1 ≤ j ∧ j ≤ R) ∧ j - (y + 1) < j - i := by omega
    refine N.open (p := p) (c := c) (n := n) (by repeat constructor) fun L hL => ?_
    clear hy g1 g2 g3 g4 g5 f1 f2 f3 w3 r1 r2 hz h1 h2 hb c1 c2 hd hn hl
    have hcm := fun (m : Mem) => sortA (m := m) (L[z]!) (L[y]!)
    by_cases e2 : Nm.cmpS L[z]!.n L[y]!.n < 0
    · generalize Nm.cmpS L[z]!.n L[y]!.n = r at hcm e2
      (repeat' (first | ((with_reducible apply At.mixed (id := 5) 11 (.q 0 (.q 1 (.q 2 (.q 3 (.q 4 (.q 5 (.q 6 (.q 7 (.q 8 (.x 9 (.q 10 .done)))))))))))); exact rfl; kernel_rfl; kernel_rfl; kernel_rfl) | ((with_reducible apply At.mixed (id := 11) 18 (.q 0 (.q 1 (.q 2 (.q 3 (.q 4 (.q 5 (.q 6 (.q 7 (.q 8 (.q 9 (.q 10 (.q 11 (.q 12 (.q 13 (.q 14 (.x 15 (.q 16 (.x 17 .done))))))))))))))))))); exact rfl; kernel_rfl; kernel_rfl; kernel_rfl) | ((with_reducible apply At.mixed (id := 17) 12 (.q 0 (.q 1 (.q 2 (.q 3 (.q 4 (.q 5 (.q 6 (.q 7 (.q 8 (.x 9 (.q 10 (.q 11 .done))))))))))))); exact rfl; kernel_rfl; kernel_rfl; kernel_rfl) | ((with_reducible apply At.mixed (id := 23) 18 (.q 0 (.q 1 (.q 2 (.q 3 (.q 4 (.q 5 (.q 6 (.q 7 (.q 8 (.q 9 (.q 10 (.q 11 (.q 12 (.q 13 (.q 14 (.x 15 (.q 16 (.x 17 .done))))))))))))))))))); exact rfl; kernel_rfl; kernel_rfl; kernel_rfl) | ((with_reducible apply At.mixed (id := 35) 14 (.q 0 (.q 1 (.q 2 (.q 3 (.q 4 (.q 5 (.q 6 (.q 7 (.q 8 (.q 9 (.q 10 (.x 11 (.q 12 (.q 13 .done))))))))))))))); exact rfl; kernel_rfl; kernel_rfl; kernel_rfl) | refine zsx ?_ | refine zss ?_ | ((with_reducible apply AtM.bo); exact rfl; exact rfl; exact rfl) | ((first | (with_reducible first | apply At.val | apply AtQ.val) | ((with_reducible first | apply AtM1.valz | apply AtM1.val); exact rfl) | ((with_reducible apply AtM1.val); exact rfl)); (first | exact pr_add (by rfl) (by rfl) t1 | exact pr_add (by rfl) (by rfl) t5 | exact pr_conv ⟨_, rfl⟩ (by rfl) (by rfl) t2 | exact pr_shrv (by rfl) (by rfl) (by omega) (by decide) t3 | exact pr_conv ⟨_, rfl⟩ (by rfl) (by rfl) t4 | exact pr_sub (by rfl) (by rfl) t7); exact rfl) | refine zsO ?_ | refine zxO ?_ | ((with_reducible apply At.callf); exact rfl; kernel_rfl; exact rfl; exact rfl; exact hcm _; exact ztk; rintro v' m' B' hm' ⟨rfl, rfl, rfl⟩; skip) | (refine zsp ?_ ?_ <;> (intro hc; (try simp only [zhcs, reduceCtorEq] at hc); (try (exfalso; first | omega | contradiction | omega | exact absurd rfl hc | exact absurd (by decide) hc))))))
      all_goals refine At.ent (N.close hL _) ?_
      all_goals ((with_reducible refine At.reachk ((⟨i, y⟩ : BSt)) ?_ ?_ ?_ ?_); exact zsubs; exact zml; exact zente; exact q1)
    · generalize Nm.cmpS L[z]!.n L[y]!.n = r at hcm e2
      (repeat' (first | ((with_reducible apply At.mixed (id := 5) 11 (.q 0 (.q 1 (.q 2 (.q 3 (.q 4 (.q 5 (.q 6 (.q 7 (.q 8 (.x 9 (.q 10 .done)))))))))))); exact rfl; kernel_rfl; kernel_rfl; kernel_rfl) | ((with_reducible apply At.mixed (id := 11) 18 (.q 0 (.q 1 (.q 2 (.q 3 (.q 4 (.q 5 (.q 6 (.q 7 (.q 8 (.q 9 (.q 10 (.q 11 (.q 12 (.q 13 (.q 14 (.x 15 (.q 16 (.x 17 .done))))))))))))))))))); exact rfl; kernel_rfl; kernel_rfl; kernel_rfl) | ((with_reducible apply At.mixed (id := 17) 12 (.q 0 (.q 1 (.q 2 (.q 3 (.q 4 (.q 5 (.q 6 (.q 7 (.q 8 (.x 9 (.q 10 (.q 11 .done))))))))))))); exact rfl; kernel_rfl; kernel_rfl; kernel_rfl) | ((with_reducible apply At.mixed (id := 23) 18 (.q 0 (.q 1 (.q 2 (.q 3 (.q 4 (.q 5 (.q 6 (.q 7 (.q 8 (.q 9 (.q 10 (.q 11 (.q 12 (.q 13 (.q 14 (.x 15 (.q 16 (.x 17 .done))))))))))))))))))); exact rfl; kernel_rfl; kernel_rfl; kernel_rfl) | ((with_reducible apply At.mixed (id := 35) 14 (.q 0 (.q 1 (.q 2 (.q 3 (.q 4 (.q 5 (.q 6 (.q 7 (.q 8 (.q 9 (.q 10 (.x 11 (.q 12 (.q 13 .done))))))))))))))); exact rfl; kernel_rfl; kernel_rfl; kernel_rfl) | refine zsx ?_ | refine zss ?_ | ((with_reducible apply AtM.bo); exact rfl; exact rfl; exact rfl) | ((first | (with_reducible first | apply At.val | apply AtQ.val) | ((with_reducible first | apply AtM1.valz | apply AtM1.val); exact rfl) | ((with_reducible apply AtM1.val); exact rfl)); (first | exact pr_add (by rfl) (by rfl) t1 | exact pr_add (by rfl) (by rfl) t5 | exact pr_conv ⟨_, rfl⟩ (by rfl) (by rfl) t2 | exact pr_shrv (by rfl) (by rfl) (by omega) (by decide) t3 | exact pr_conv ⟨_, rfl⟩ (by rfl) (by rfl) t4 | exact pr_sub (by rfl) (by rfl) t7); exact rfl) | refine zsO ?_ | refine zxO ?_ | ((with_reducible apply At.callf); exact rfl; kernel_rfl; exact rfl; exact rfl; exact hcm _; exact ztk; rintro v' m' B' hm' ⟨rfl, rfl, rfl⟩; skip) | (refine zsp ?_ ?_ <;> (intro hc; (try simp only [zhcs, reduceCtorEq] at hc); (try (exfalso; first | omega | contradiction | omega | exact absurd rfl hc | exact absurd (by decide) hc))))))
      all_goals refine At.ent (N.close hL _) ?_
      all_goals ((with_reducible refine At.reachk ((⟨y + 1, j⟩ : BSt)) ?_ ?_ ?_ ?_); exact zsubs; exact zml; exact zente; exact q2)
  · have w9 : IntKind.wrap .i64 (((x + k : Nat) : Int) - (i : Int)) = ((x + k - i : Nat) : Int) := by rw [show ((x + k : Nat) : Int) - (i : Int) = ((x + k - i : Nat) : Int) by omega]; exact IntWalk.i64_in _ (by omega)
    obtain ⟨E, hE⟩ : ∃ E, x + k - i = E := ⟨_, rfl⟩
    rw [hE] at w9
    have k1 := fun {m : Mem} (q1 : i < k) (q2 : k < E) => r1 (m := m) i E q1 q2 (by omega)
    have k2 := fun {m : Mem} (q1 : a < i) (q2 : i < x) => r2 (m := m) a i x (by omega) q1 q2 (by omega)
    have k3 := fun {m : Mem} (q1 : x < E) (q2 : E < b) => r2 (m := m) x E b (by omega) q1 q2 hb
    clear r1 r2 g1 g2 g3 g4 g5 f1 f2 f3 w3 hE h1 h2 hb c1 c2 hd hn hl
    (repeat' (first | (refine At.cutp (id := 39) (i < k ∧ k < E) 185 [0, 1, 2, 3, 4, 18, 20, 24] (by rfl) ?_ ?_) | ((refine At.cutk (t := 185) (σ := Unit) [0, 1, 3, 4, 18, 20, 24] (fun s F0 => F0) (fun s => m) (fun s => N p c n :: Rest) (fun s => True) (by rfl) (by rfl) ?_ ?_); (refine ⟨?_, ?_⟩ <;> (intro hc; (try simp only [zhcs, reduceCtorEq] at hc); (try (exfalso; first | contradiction | omega | exact absurd rfl hc | exact absurd (by decide) hc))))) | refine zss ?_ | ((first | (with_reducible first | apply At.val | apply AtQ.val)); (exact pr_sub (by rfl) (by rfl) w9); exact rfl) | refine zs0 ?_ | ((with_reducible apply At.endp); exact rfl; exact zsubs; exact zml; exact zente; (simp only [decide_eq_true_eq, decide_eq_false_iff_not, Bool.not_eq_true', Bool.not_eq_false', Bool.false_eq_true, Bool.true_eq_false, false_iff, true_iff]; first | omega | (constructor <;> intros <;> omega))) | (refine zsp ?_ ?_ <;> (intro hc; (try simp only [zhcs, reduceCtorEq] at hc); (try (exfalso; first | contradiction | omega | exact absurd rfl hc | exact absurd (by decide) hc))))))
    · (repeat' (first | refine zss ?_ | refine zs0 ?_ | ((with_reducible first | apply At.c1 | apply At.c0); exact rfl; exact rfl; exact k1 (by omega) (by omega); exact ztk; kernel_rfl; rintro v' m' B' hm' ⟨rfl, rfl, rfl⟩; skip; (try (have hq0 : hm' = Mem.le_refl _ := rfl; clear hq0 hm'))) | (refine zsp ?_ ?_ <;> (intro hc; (try simp only [zhcs, reduceCtorEq] at hc); (try (exfalso; first | contradiction | omega | exact absurd rfl hc | exact absurd (by decide) hc))))))
      ((with_reducible refine At.reachk (()) ?_ ?_ ?_ ?_); exact zsubs; exact zml; exact zente; exact trivial)
    · (repeat' (first | refine zss ?_ | refine zsM ?_ | (refine zsp ?_ ?_ <;> (intro hc; (try simp only [zhcs, reduceCtorEq] at hc); (try (exfalso; first | contradiction | omega | exact absurd rfl hc | exact absurd (by decide) hc))))))
      ((with_reducible refine At.reachk (()) ?_ ?_ ?_ ?_); exact zsubs; exact zml; exact zente; exact trivial)
    rintro - -
    (repeat' (first | (refine At.cutp (id := 41) (a < i ∧ i < x) 199 [0, 1, 3, 4, 18, 20, 24] (by rfl) ?_ ?_) | ((refine At.cutk (t := 199) (σ := Unit) [0, 3, 4, 18, 24] (fun s F0 => F0) (fun s => m) (fun s => N p c n :: Rest) (fun s => True) (by rfl) (by rfl) ?_ ?_); (refine ⟨?_, ?_⟩ <;> (intro hc; (try simp only [zhcs, reduceCtorEq] at hc); (try (exfalso; first | contradiction | omega | exact absurd rfl hc | exact absurd (by decide) hc))))) | refine zss ?_ | refine zs0 ?_ | ((with_reducible apply At.endp); exact rfl; exact zsubs; exact zml; exact zente; (simp only [decide_eq_true_eq, decide_eq_false_iff_not, Bool.not_eq_true', Bool.not_eq_false', Bool.false_eq_true, Bool.true_eq_false, false_iff, true_iff]; first | omega | (constructor <;> intros <;> omega))) | (refine zsp ?_ ?_ <;> (intro hc; (try simp only [zhcs, reduceCtorEq] at hc); (try (exfalso; first | contradiction | omega | exact absurd rfl hc | exact absurd (by decide) hc))))))
    · (repeat' (first | refine zss ?_ | refine zs0 ?_ | ((with_reducible first | apply At.c1 | apply At.c0); exact rfl; exact rfl; exact k2 (by omega) (by omega); exact ztk; kernel_rfl; rintro v' m' B' hm' ⟨rfl, rfl, rfl⟩; skip; (try (have hq0 : hm' = Mem.le_refl _ := rfl; clear hq0 hm'))) | (refine zsp ?_ ?_ <;> (intro hc; (try simp only [zhcs, reduceCtorEq] at hc); (try (exfalso; first | contradiction | omega | exact absurd rfl hc | exact absurd (by decide) hc))))))
      ((with_reducible refine At.reachk (()) ?_ ?_ ?_ ?_); exact zsubs; exact zml; exact zente; exact trivial)
    · (repeat' (first | refine zss ?_ | refine zsM ?_ | (refine zsp ?_ ?_ <;> (intro hc; (try simp only [zhcs, reduceCtorEq] at hc); (try (exfalso; first | contradiction | omega | exact absurd rfl hc | exact absurd (by decide) hc))))))
      ((with_reducible refine At.reachk (()) ?_ ?_ ?_ ?_); exact zsubs; exact zml; exact zente; exact trivial)
    rintro - -
    (repeat' (first | (refine At.cutp (id := 43) (x < E ∧ E < b) 213 [0, 3, 4, 18, 24] (by rfl) ?_ ?_) | refine zss ?_ | refine zs0 ?_ | ((with_reducible apply At.endp); exact rfl; exact zsubs; exact zml; exact zente; (simp only [decide_eq_true_eq, decide_eq_false_iff_not, Bool.not_eq_true', Bool.not_eq_false', Bool.false_eq_true, Bool.true_eq_false, false_iff, true_iff]; first | omega | (constructor <;> intros <;> omega))) | ((with_reducible first | apply At.c1 | apply At.c0); exact rfl; exact rfl; exact k3 (by omega) (by omega); exact ztk; kernel_rfl; rintro v' m' B' hm' ⟨rfl, rfl, rfl⟩; skip; (try (have hq0 : hm' = Mem.le_refl _ := rfl; clear hq0 hm'))) | (refine zsp ?_ ?_ <;> (intro hc; (try simp only [zhcs, reduceCtorEq] at hc); (try (exfalso; first | contradiction | omega | exact absurd rfl hc | exact absurd (by decide) hc))))))
    all_goals refine N.open (p := p) (c := c) (n := n) (by repeat constructor) fun L hL => ?_
    all_goals ((first | (with_reducible apply At.retB0 (B := [oL p c L])) | (with_reducible apply At.retR0 (B := [oL p c L]))); exact rfl; exact zml; exact zkp; exact ⟨rfl, rfl, _, hL, rfl⟩)
end Lb
end Go.Proofs.Ytjncahmbllmllaa

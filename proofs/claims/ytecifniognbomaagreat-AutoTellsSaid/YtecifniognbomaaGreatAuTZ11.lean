/- Part 11 of what the law's proof needs: rules of the walk, contracts of functions, plain laws. No condition. -/
import Derived.Test.YtecifniognbomaaGreatAuTZ10
/- Configurations, the document's answers. -/
set_option linter.unusedSimpArgs false
set_option linter.unusedVariables false
set_option linter.unusedSectionVars false
set_option maxRecDepth 20000
set_option maxHeartbeats 4000000
namespace Go.Proofs.YtecifniognbomaaGreat
open Go Go.J
attribute [local irreducible] At AtQ AtM AtM1 PR Ct Pu Rd Res.blk Res.own Res.ex RVs RV
namespace Dc
open Se Win
theorem parts16 (n : Int) (h0 : 0 ≤ n) (h1 : n ≤ 100000) : Pu Tryz.prog 91 #[.int .i64 n, .int .i64 16] (.int .i64 ((n + 16 - 1) / 16)) := Pu.intro fun m => by
  refine Ct.enterV (by rfl) Tryz.func91 rfl Tryz.ntmps91 rfl (fun w0 Rest => ?_)
  (repeat' (first | refine zss ?_ | refine zs0 ?_ | (refine zsp ?_ ?_ <;> (intro hc; (try simp only [zhcs, reduceCtorEq] at hc); (try (exfalso; first | omega | contradiction | omega | exact absurd rfl hc | exact absurd (by decide) hc))))))
  (refine At.loopk (σ := Nat) [1] (fun s F0 => (0, .int .i64 (n - 16 * (s : Int))) :: (5, .int .i64 (s : Int)) :: F0) (fun s => m) (fun s => Rest) (fun s => s = 0 ∨ 0 < n - 16 * ((s : Int) - 1)) (fun s => (n - 16 * (s : Int)).toNat) 0 (by rfl) ?_ zsubs zml zente ?_)
  · exact .inl rfl
  intro s hs
  by_cases h : 0 < n - 16 * (s : Int)
  · (repeat' (first | refine zss ?_ | refine zs0 ?_ | (refine zsp ?_ ?_ <;> (intro hc; (try simp only [zhcs, reduceCtorEq] at hc); (try (exfalso; first | omega | contradiction | omega | exact absurd rfl hc | exact absurd (by decide) hc))))))
    all_goals rw [show n - 16 * (s : Int) - 16 = n - 16 * ((s + 1 : Nat) : Int) by omega]
    all_goals ((with_reducible refine At.reachk ((s + 1)) ?_ ?_ ?_ ?_); exact zsubs; exact zml; exact zente; exact ⟨.inr (by omega), by omega⟩)
  · rw [show (n + 16 - 1) / 16 = (s : Int) by omega]
    (repeat' (first | refine zss ?_ | refine zs0 ?_ | (refine zsp ?_ ?_ <;> (intro hc; (try simp only [zhcs, reduceCtorEq] at hc); (try (exfalso; first | omega | contradiction | omega | exact absurd rfl hc | exact absurd (by decide) hc))))))
    all_goals ((with_reducible apply At.retB1 (B := [])); exact rfl; exact rfl; exact zml; exact zkp; exact ⟨rfl, rfl, rfl⟩)
theorem parts4 (n : Int) (h0 : 0 ≤ n) (h1 : n ≤ 100000) : Pu Tryz.prog 91 #[.int .i64 n, .int .i64 4] (.int .i64 ((n + 4 - 1) / 4)) := Pu.intro fun m => by
  refine Ct.enterV (by rfl) Tryz.func91 rfl Tryz.ntmps91 rfl (fun w0 Rest => ?_)
  (repeat' (first | refine zss ?_ | refine zs0 ?_ | (refine zsp ?_ ?_ <;> (intro hc; (try simp only [zhcs, reduceCtorEq] at hc); (try (exfalso; first | omega | contradiction | omega | exact absurd rfl hc | exact absurd (by decide) hc))))))
  (refine At.loopk (σ := Nat) [1] (fun s F0 => (0, .int .i64 (n - 4 * (s : Int))) :: (5, .int .i64 (s : Int)) :: F0) (fun s => m) (fun s => Rest) (fun s => s = 0 ∨ 0 < n - 4 * ((s : Int) - 1)) (fun s => (n - 4 * (s : Int)).toNat) 0 (by rfl) ?_ zsubs zml zente ?_)
  · exact .inl rfl
  intro s hs
  by_cases h : 0 < n - 4 * (s : Int)
  · (repeat' (first | refine zss ?_ | refine zs0 ?_ | (refine zsp ?_ ?_ <;> (intro hc; (try simp only [zhcs, reduceCtorEq] at hc); (try (exfalso; first | omega | contradiction | omega | exact absurd rfl hc | exact absurd (by decide) hc))))))
    all_goals rw [show n - 4 * (s : Int) - 4 = n - 4 * ((s + 1 : Nat) : Int) by omega]
    all_goals ((with_reducible refine At.reachk ((s + 1)) ?_ ?_ ?_ ?_); exact zsubs; exact zml; exact zente; exact ⟨.inr (by omega), by omega⟩)
  · rw [show (n + 4 - 1) / 4 = (s : Int) by omega]
    (repeat' (first | refine zss ?_ | refine zs0 ?_ | (refine zsp ?_ ?_ <;> (intro hc; (try simp only [zhcs, reduceCtorEq] at hc); (try (exfalso; first | omega | contradiction | omega | exact absurd rfl hc | exact absurd (by decide) hc))))))
    all_goals ((with_reducible apply At.retB1 (B := [])); exact rfl; exact rfl; exact zml; exact zkp; exact ⟨rfl, rfl, rfl⟩)
theorem place (k : Cfg) (hr : 1 ≤ k.r ∧ k.r ≤ 4096) (hx : 1 ≤ k.x ∧ k.x ≤ 4096) (hy : 1 ≤ k.y ∧ k.y ≤ 4096) (hw : 1 ≤ k.w ∧ k.w ≤ 4096) : Pu Tryz.prog 74 #[k.v] (.int .i64 (1 + (k.r + 16 - 1) / 16 + (k.x + 4 - 1) / 4 + (k.y + 4 - 1) / 4 + (k.w + 4 - 1) / 4)) := Pu.intro fun m => by
  have p0 := parts16 k.r (by omega) (by omega)
  have p1 := parts4 k.x (by omega) (by omega)
  have p2 := parts4 k.y (by omega) (by omega)
  have p3 := parts4 k.w (by omega) (by omega)
  refine Ct.enterV (by rfl) Tryz.func74 rfl Tryz.ntmps74 rfl (fun w0 Rest => ?_)
  (repeat' (first | refine zss ?_ | ((first | (with_reducible first | apply At.val | apply AtQ.val)); (first | exact pr_indexArr (k := 0) (by rfl) (by rfl) (by rfl) (by rfl) (by decide) | exact pr_indexArr (k := 1) (by rfl) (by rfl) (by rfl) (by rfl) (by decide) | exact pr_indexArr (k := 2) (by rfl) (by rfl) (by rfl) (by rfl) (by decide)); exact rfl) | refine zs0 ?_ | ((with_reducible first | apply AtM1.callp | apply AtQ.callp | apply At.callp); kernel_rfl; exact rfl; exact rfl; exact p0) | ((with_reducible first | apply AtM1.callp | apply AtQ.callp | apply At.callp); kernel_rfl; exact rfl; exact rfl; exact p1) | ((with_reducible first | apply AtM1.callp | apply AtQ.callp | apply At.callp); kernel_rfl; exact rfl; exact rfl; exact p2) | ((with_reducible first | apply AtM1.callp | apply AtQ.callp | apply At.callp); kernel_rfl; exact rfl; exact rfl; exact p3) | ((with_reducible apply At.box (d := 1)); exact rfl; exact rfl; exact rfl; intro b1) | (refine zsp ?_ ?_ <;> (intro hc; (try simp only [zhcs, reduceCtorEq] at hc); (try (exfalso; first | omega | contradiction | omega | exact absurd rfl hc | exact absurd (by decide) hc))))))
  all_goals ((with_reducible apply At.retB1 (B := [])); exact rfl; exact rfl; exact zml; exact zkp; exact ⟨rfl, rfl, rfl⟩)
theorem check (k : Cfg) : Pu Tryz.prog 57 #[k.v] (.int .i64 k.chk) := Pu.intro fun m => by
  have hbad : ¬ k.ok → k.chk = 2 := fun h => if_neg h
  by_cases hA : (1 ≤ k.r ∧ k.r ≤ 4096) ∧ (1 ≤ k.c ∧ k.c ≤ 65536) ∧ (1 ≤ k.g ∧ k.g ≤ 8192)
  rotate_left
  · rw [hbad fun h => hA ⟨h.hr, h.hc, h.hg⟩]
    refine Ct.enterV (by rfl) Tryz.func57 rfl Tryz.ntmps57 rfl (fun w0 Rest => ?_)
    (repeat' (first | refine zss ?_ | refine zs0 ?_ | ((with_reducible apply At.box (d := 1)); exact rfl; exact rfl; exact rfl; intro b1) | (refine zsp ?_ ?_ <;> (intro hc; (try simp only [zhcs, reduceCtorEq] at hc); (try (exfalso; first | omega | contradiction | omega | exact absurd rfl hc | exact absurd (by decide) hc))))))
    all_goals ((with_reducible apply At.retB1 (B := [])); exact rfl; exact rfl; exact zml; exact zkp; exact ⟨rfl, rfl, rfl⟩)
  obtain ⟨a1, a2, a3⟩ := hA
  refine Ct.enterV (by rfl) Tryz.func57 rfl Tryz.ntmps57 rfl (fun w0 Rest => ?_)
  (repeat' (first | refine zss ?_ | refine zs0 ?_ | ((with_reducible apply At.box (d := 1)); exact rfl; exact rfl; exact rfl; intro b1) | (refine zsp ?_ ?_ <;> (intro hc; (try simp only [zhcs, reduceCtorEq] at hc); (try (exfalso; first | omega | contradiction | omega | exact absurd rfl hc | exact absurd (by decide) hc))))))
  (refine At.loopk (σ := Nat) [1] (fun s F0 => (3, .int .i64 (s : Int)) :: F0) (fun s => m) (fun s => .blk b1 25 k.cells :: Rest) (fun s => s ≤ 3 ∧ (0 < s → (1 ≤ k.a ∧ k.a ≤ 1099511627776) ∧ (1 ≤ k.x ∧ k.x ≤ 4096)) ∧ (1 < s → (1 ≤ k.b ∧ k.b ≤ 1099511627776) ∧ (1 ≤ k.y ∧ k.y ≤ 4096) ∧ k.b % k.a = 0 ∧ k.b / k.a ≤ k.x) ∧ (2 < s → (1 ≤ k.d ∧ k.d ≤ 1099511627776) ∧ (1 ≤ k.w ∧ k.w ≤ 4096) ∧ k.d % k.b = 0 ∧ k.d / k.b ≤ k.y)) (fun s => 3 - s) 0 (by rfl) ?_ zsubs zml zente ?_)
  · exact ⟨Nat.zero_le _, fun h => absurd h (by decide), fun h => absurd h (by decide), fun h => absurd h (by decide)⟩
  rintro s ⟨hs, g0, g1, g2⟩
  rcases (show s = 0 ∨ s = 1 ∨ s = 2 ∨ s = 3 by omega) with rfl | rfl | rfl | rfl
  · by_cases e : (1 ≤ k.a ∧ k.a ≤ 1099511627776) ∧ (1 ≤ k.x ∧ k.x ≤ 4096)
    · obtain ⟨e1, e2⟩ := e
      (repeat' (first | refine zss ?_ | ((first | (with_reducible first | apply At.val | apply AtQ.val)); (exact pr_indexArr (k := 0) (by rfl) (by rfl) (by rfl) (by rfl) (by decide)); exact rfl) | refine zs0 ?_ | ((with_reducible apply At.box (d := 1)); exact rfl; exact rfl; exact rfl; intro b1) | (refine zsp ?_ ?_ <;> (intro hc; (try simp only [zhcs, reduceCtorEq] at hc); (try (exfalso; first | omega | contradiction | omega | exact absurd rfl hc | exact absurd (by decide) hc))))))
      all_goals ((with_reducible refine At.reachk (1) ?_ ?_ ?_ ?_); exact zsubs; exact zml; exact zente; exact ⟨⟨by decide, fun _ => ⟨e1, e2⟩, fun h => absurd h (by decide), fun h => absurd h (by decide)⟩, by decide⟩)
    · rw [hbad fun h => e ⟨h.ha, h.hx⟩]
      (repeat' (first | refine zss ?_ | ((first | (with_reducible first | apply At.val | apply AtQ.val)); (exact pr_indexArr (k := 0) (by rfl) (by rfl) (by rfl) (by rfl) (by decide)); exact rfl) | refine zs0 ?_ | ((with_reducible apply At.box (d := 1)); exact rfl; exact rfl; exact rfl; intro b1) | (refine zsp ?_ ?_ <;> (intro hc; (try simp only [zhcs, reduceCtorEq] at hc); (try (exfalso; first | omega | contradiction | omega | exact absurd rfl hc | exact absurd (by decide) hc))))))
      all_goals ((with_reducible apply At.retB1 (B := [])); exact rfl; exact rfl; exact zml; exact zkp; exact ⟨rfl, rfl, rfl⟩)
  · obtain ⟨q1, q2⟩ := g0 (by decide)
    have fs : IntKind.wrap .i64 (((1 : Nat) : Int) - 1) = ((0 : Nat) : Int) := rfl
    by_cases e : (1 ≤ k.b ∧ k.b ≤ 1099511627776) ∧ (1 ≤ k.y ∧ k.y ≤ 4096)
    rotate_left
    · rw [hbad fun h => e ⟨h.hb, h.hy⟩]
      clear g0 g1 g2
      (repeat' (first | refine zss ?_ | ((first | (with_reducible first | apply At.val | apply AtQ.val)); (exact pr_indexArr (k := 1) (by rfl) (by rfl) (by rfl) (by rfl) (by decide)); exact rfl) | refine zs0 ?_ | ((with_reducible apply At.box (d := 1)); exact rfl; exact rfl; exact rfl; intro b1) | (refine zsp ?_ ?_ <;> (intro hc; (try simp only [zhcs, reduceCtorEq] at hc); (try (exfalso; first | omega | contradiction | omega | exact absurd rfl hc | exact absurd (by decide) hc))))))
      all_goals ((with_reducible apply At.retB1 (B := [])); exact rfl; exact rfl; exact zml; exact zkp; exact ⟨rfl, rfl, rfl⟩)
    obtain ⟨e1, e2⟩ := e
    have fq : IntKind.wrap .i64 (k.b.tdiv k.a) = k.b / k.a := IntWalk.i64_quo _ _ (by omega)
    have fr : k.b.tmod k.a = k.b % k.a := IntWalk.rem_in _ _ (by omega)
    by_cases e3 : k.b % k.a = 0
    rotate_left
    · rw [hbad fun h => e3 h.hba.1]
      generalize k.b % k.a = r at fr e3
      clear g0 g1 g2
      (repeat' (first | refine zss ?_ | ((first | (with_reducible first | apply At.val | apply AtQ.val)); (first | exact pr_sub (by rfl) (by rfl) fs | exact pr_indexArr (k := 1) (by rfl) (by rfl) (by rfl) (by rfl) (by decide) | exact pr_indexArr (k := 0) (by rfl) (by rfl) (by rfl) (by rfl) (by decide) | exact pr_rem (by rfl) (by rfl) (by omega) fr); exact rfl) | refine zs0 ?_ | ((with_reducible apply At.box (d := 1)); exact rfl; exact rfl; exact rfl; intro b1) | (refine zsp ?_ ?_ <;> (intro hc; (try simp only [zhcs, reduceCtorEq] at hc); (try (exfalso; first | (first | omega | exact absurd hc e3) | contradiction | omega | exact absurd rfl hc | exact absurd (by decide) hc))))))
      all_goals ((with_reducible apply At.retB1 (B := [])); exact rfl; exact rfl; exact zml; exact zkp; exact ⟨rfl, rfl, rfl⟩)
    rw [e3] at fr
    by_cases e4 : k.b / k.a ≤ k.x
    · have hnx := (⟨by decide, fun _ => g0 (by decide), fun _ => ⟨e1, e2, e3, e4⟩, fun h => absurd h (by decide)⟩ : 2 ≤ 3 ∧ (0 < 2 → (1 ≤ k.a ∧ k.a ≤ 1099511627776) ∧ (1 ≤ k.x ∧ k.x ≤ 4096)) ∧ (1 < 2 → (1 ≤ k.b ∧ k.b ≤ 1099511627776) ∧ (1 ≤ k.y ∧ k.y ≤ 4096) ∧ k.b % k.a = 0 ∧ k.b / k.a ≤ k.x) ∧ (2 < 2 → (1 ≤ k.d ∧ k.d ≤ 1099511627776) ∧ (1 ≤ k.w ∧ k.w ≤ 4096) ∧ k.d % k.b = 0 ∧ k.d / k.b ≤ k.y))
      clear g0 g1 g2 e3
      obtain ⟨r, hr⟩ : ∃ r, k.b / k.a = r := ⟨_, rfl⟩
      rw [hr] at fq e4
      clear hr
      (repeat' (first | refine zss ?_ | ((first | (with_reducible first | apply At.val | apply AtQ.val)); (first | exact pr_sub (by rfl) (by rfl) fs | exact pr_indexArr (k := 1) (by rfl) (by rfl) (by rfl) (by rfl) (by decide) | exact pr_indexArr (k := 0) (by rfl) (by rfl) (by rfl) (by rfl) (by decide) | exact pr_rem (by rfl) (by rfl) (by omega) fr | exact pr_quo (by rfl) (by rfl) (by omega) fq); exact rfl) | refine zs0 ?_ | ((with_reducible apply At.box (d := 1)); exact rfl; exact rfl; exact rfl; intro b1) | (refine zsp ?_ ?_ <;> (intro hc; (try simp only [zhcs, reduceCtorEq] at hc); (try (exfalso; first | omega | contradiction | omega | exact absurd rfl hc | exact absurd (by decide) hc))))))
      all_goals ((with_reducible refine At.reachk (2) ?_ ?_ ?_ ?_); exact zsubs; exact zml; exact zente; exact ⟨hnx, by decide⟩)
    · rw [hbad fun h => e4 h.hba.2]
      clear g0 g1 g2 e3
      generalize k.b / k.a = r at fq e4
      (repeat' (first | refine zss ?_ | ((first | (with_reducible first | apply At.val | apply AtQ.val)); (first | exact pr_sub (by rfl) (by rfl) fs | exact pr_indexArr (k := 1) (by rfl) (by rfl) (by rfl) (by rfl) (by decide) | exact pr_indexArr (k := 0) (by rfl) (by rfl) (by rfl) (by rfl) (by decide) | exact pr_rem (by rfl) (by rfl) (by omega) fr | exact pr_quo (by rfl) (by rfl) (by omega) fq); exact rfl) | refine zs0 ?_ | ((with_reducible apply At.box (d := 1)); exact rfl; exact rfl; exact rfl; intro b1) | (refine zsp ?_ ?_ <;> (intro hc; (try simp only [zhcs, reduceCtorEq] at hc); (try (exfalso; first | omega | contradiction | omega | exact absurd rfl hc | exact absurd (by decide) hc))))))
      all_goals ((with_reducible apply At.retB1 (B := [])); exact rfl; exact rfl; exact zml; exact zkp; exact ⟨rfl, rfl, rfl⟩)
  · obtain ⟨q1, q2, -, -⟩ := g1 (by decide)
    have fs : IntKind.wrap .i64 (((2 : Nat) : Int) - 1) = ((1 : Nat) : Int) := rfl
    by_cases e : (1 ≤ k.d ∧ k.d ≤ 1099511627776) ∧ (1 ≤ k.w ∧ k.w ≤ 4096)
    rotate_left
    · rw [hbad fun h => e ⟨h.hd, h.hw⟩]
      clear g0 g1 g2
      (repeat' (first | refine zss ?_ | ((first | (with_reducible first | apply At.val | apply AtQ.val)); (exact pr_indexArr (k := 2) (by rfl) (by rfl) (by rfl) (by rfl) (by decide)); exact rfl) | refine zs0 ?_ | ((with_reducible apply At.box (d := 1)); exact rfl; exact rfl; exact rfl; intro b1) | (refine zsp ?_ ?_ <;> (intro hc; (try simp only [zhcs, reduceCtorEq] at hc); (try (exfalso; first | omega | contradiction | omega | exact absurd rfl hc | exact absurd (by decide) hc))))))
      all_goals ((with_reducible apply At.retB1 (B := [])); exact rfl; exact rfl; exact zml; exact zkp; exact ⟨rfl, rfl, rfl⟩)
    obtain ⟨e1, e2⟩ := e
    have fq : IntKind.wrap .i64 (k.d.tdiv k.b) = k.d / k.b := IntWalk.i64_quo _ _ (by omega)
    have fr : k.d.tmod k.b = k.d % k.b := IntWalk.rem_in _ _ (by omega)
    by_cases e3 : k.d % k.b = 0
    rotate_left
    · rw [hbad fun h => e3 h.hdb.1]
      generalize k.d % k.b = r at fr e3
      clear g0 g1 g2
      (repeat' (first | refine zss ?_ | ((first | (with_reducible first | apply At.val | apply AtQ.val)); (first | exact pr_sub (by rfl) (by rfl) fs | exact pr_indexArr (k := 2) (by rfl) (by rfl) (by rfl) (by rfl) (by decide) | exact pr_indexArr (k := 1) (by rfl) (by rfl) (by rfl) (by rfl) (by decide) | exact pr_rem (by rfl) (by rfl) (by omega) fr); exact rfl) | refine zs0 ?_ | ((with_reducible apply At.box (d := 1)); exact rfl; exact rfl; exact rfl; intro b1) | (refine zsp ?_ ?_ <;> (intro hc; (try simp only [zhcs, reduceCtorEq] at hc); (try (exfalso; first | (first | omega | exact absurd hc e3) | contradiction | omega | exact absurd rfl hc | exact absurd (by decide) hc))))))
      all_goals ((with_reducible apply At.retB1 (B := [])); exact rfl; exact rfl; exact zml; exact zkp; exact ⟨rfl, rfl, rfl⟩)
    rw [e3] at fr
    by_cases e4 : k.d / k.b ≤ k.y
    · have hnx := (⟨by decide, fun _ => g0 (by decide), fun _ => g1 (by decide), fun _ => ⟨e1, e2, e3, e4⟩⟩ : 3 ≤ 3 ∧ (0 < 3 → (1 ≤ k.a ∧ k.a ≤ 1099511627776) ∧ (1 ≤ k.x ∧ k.x ≤ 4096)) ∧ (1 < 3 → (1 ≤ k.b ∧ k.b ≤ 1099511627776) ∧ (1 ≤ k.y ∧ k.y ≤ 4096) ∧ k.b % k.a = 0 ∧ k.b / k.a ≤ k.x) ∧ (2 < 3 → (1 ≤ k.d ∧ k.d ≤ 1099511627776) ∧ (1 ≤ k.w ∧ k.w ≤ 4096) ∧ k.d % k.b = 0 ∧ k.d / k.b ≤ k.y))
      clear g0 g1 g2 e3
      obtain ⟨r, hr⟩ : ∃ r, k.d / k.b = r := ⟨_, rfl⟩
      rw [hr] at fq e4
      clear hr
      (repeat' (first | refine zss ?_ | ((first | (with_reducible first | apply At.val | apply AtQ.val)); (first | exact pr_sub (by rfl) (by rfl) fs | exact pr_indexArr (k := 2) (by rfl) (by rfl) (by rfl) (by rfl) (by decide) | exact pr_indexArr (k := 1) (by rfl) (by rfl) (by rfl) (by rfl) (by decide) | exact pr_rem (by rfl) (by rfl) (by omega) fr | exact pr_quo (by rfl) (by rfl) (by omega) fq); exact rfl) | refine zs0 ?_ | ((with_reducible apply At.box (d := 1)); exact rfl; exact rfl; exact rfl; intro b1) | (refine zsp ?_ ?_ <;> (intro hc; (try simp only [zhcs, reduceCtorEq] at hc); (try (exfalso; first | omega | contradiction | omega | exact absurd rfl hc | exact absurd (by decide) hc))))))
      all_goals ((with_reducible refine At.reachk (3) ?_ ?_ ?_ ?_); exact zsubs; exact zml; exact zente; exact ⟨hnx, by decide⟩)
    · rw [hbad fun h => e4 h.hdb.2]
      clear g0 g1 g2 e3
      generalize k.d / k.b = r at fq e4
      (repeat' (first | refine zss ?_ | ((first | (with_reducible first | apply At.val | apply AtQ.val)); (first | exact pr_sub (by rfl) (by rfl) fs | exact pr_indexArr (k := 2) (by rfl) (by rfl) (by rfl) (by rfl) (by decide) | exact pr_indexArr (k := 1) (by rfl) (by rfl) (by rfl) (by rfl) (by decide) | exact pr_rem (by rfl) (by rfl) (by omega) fr | exact pr_quo (by rfl) (by rfl) (by omega) fq); exact rfl) | refine zs0 ?_ | ((with_reducible apply At.box (d := 1)); exact rfl; exact rfl; exact rfl; intro b1) | (refine zsp ?_ ?_ <;> (intro hc; (try simp only [zhcs, reduceCtorEq] at hc); (try (exfalso; first | omega | contradiction | omega | exact absurd rfl hc | exact absurd (by decide) hc))))))
      all_goals ((with_reducible apply At.retB1 (B := [])); exact rfl; exact rfl; exact zml; exact zkp; exact ⟨rfl, rfl, rfl⟩)
  · obtain ⟨q1, q2⟩ := g0 (by decide)
    obtain ⟨q3, q4, q5⟩ := g1 (by decide)
    obtain ⟨q6, q7, q8⟩ := g2 (by decide)
    have kp := place k a1 q2 q4 q7
    by_cases hp : 1 + (k.r + 16 - 1) / 16 + (k.x + 4 - 1) / 4 + (k.y + 4 - 1) / 4 + (k.w + 4 - 1) / 4 < k.g
    · rw [show k.chk = 0 from if_pos ⟨a1, q1, q3, q6, q2, q4, q7, a2, a3, q5, q8, hp⟩]
      generalize 1 + (k.r + 16 - 1) / 16 + (k.x + 4 - 1) / 4 + (k.y + 4 - 1) / 4 + (k.w + 4 - 1) / 4 = pl at kp hp
      clear g0 g1 g2 q5 q8
      (repeat' (first | refine zss ?_ | refine zs0 ?_ | ((with_reducible first | apply AtM1.callp | apply AtQ.callp | apply At.callp); kernel_rfl; exact rfl; exact rfl; exact kp) | ((with_reducible apply At.box (d := 1)); exact rfl; exact rfl; exact rfl; intro b1) | (refine zsp ?_ ?_ <;> (intro hc; (try simp only [zhcs, reduceCtorEq] at hc); (try (exfalso; first | omega | contradiction | omega | exact absurd rfl hc | exact absurd (by decide) hc))))))
      all_goals ((with_reducible apply At.retB1 (B := [])); exact rfl; exact rfl; exact zml; exact zkp; exact ⟨rfl, rfl, rfl⟩)
    · rw [hbad fun h => hp h.hp]
      generalize 1 + (k.r + 16 - 1) / 16 + (k.x + 4 - 1) / 4 + (k.y + 4 - 1) / 4 + (k.w + 4 - 1) / 4 = pl at kp hp
      clear g0 g1 g2 q5 q8
      (repeat' (first | refine zss ?_ | refine zs0 ?_ | ((with_reducible first | apply AtM1.callp | apply AtQ.callp | apply At.callp); kernel_rfl; exact rfl; exact rfl; exact kp) | ((with_reducible apply At.box (d := 1)); exact rfl; exact rfl; exact rfl; intro b1) | (refine zsp ?_ ?_ <;> (intro hc; (try simp only [zhcs, reduceCtorEq] at hc); (try (exfalso; first | omega | contradiction | omega | exact absurd rfl hc | exact absurd (by decide) hc))))))
      all_goals ((with_reducible apply At.retB1 (B := [])); exact rfl; exact rfl; exact zml; exact zkp; exact ⟨rfl, rfl, rfl⟩)
theorem deadR (k : Cfg) (last now : Int) : Pu Tryz.prog 65 #[k.v, .int .i64 last, .int .i64 now] (.bool (dead k last now)) := Pu.intro fun m => by
  have k0 := check k
  unfold Cfg.chk at k0
  unfold dead
  by_cases h0 : k.ok
  rotate_left
  · rw [if_neg h0] at k0
    rw [decide_eq_false h0, Bool.false_and, Bool.false_and, Bool.false_and]
    refine Ct.enterV (by rfl) Tryz.func65 rfl Tryz.ntmps65 rfl (fun w0 Rest => ?_)
    (repeat' (first | refine zss ?_ | refine zs0 ?_ | ((with_reducible first | apply AtM1.callp | apply AtQ.callp | apply At.callp); kernel_rfl; exact rfl; exact rfl; exact k0) | ((with_reducible apply At.box (d := 3)); exact rfl; exact rfl; exact rfl; intro b3) | (refine zsp ?_ ?_ <;> (intro hc; (try simp only [zhcs, reduceCtorEq] at hc); (try (exfalso; first | omega | contradiction | omega | exact absurd rfl hc | exact absurd (by decide) hc))))))
    all_goals ((with_reducible apply At.retB1 (B := [])); exact rfl; exact rfl; exact zml; exact zkp; exact ⟨rfl, rfl, rfl⟩)
  rw [if_pos h0] at k0
  rw [decide_eq_true h0, Bool.true_and]
  have k1 := rwin_gone last now k.a k.x
  have k2 := rwin_gone last now k.b k.y
  have k3 := rwin_gone last now k.d k.w
  generalize goneV last now k.a k.x = q1 at k1 ⊢
  generalize goneV last now k.b k.y = q2 at k2 ⊢
  generalize goneV last now k.d k.w = q3 at k3 ⊢
  clear h0
  refine Ct.enterV (by rfl) Tryz.func65 rfl Tryz.ntmps65 rfl (fun w0 Rest => ?_)
  (repeat' (first | refine zss ?_ | refine zs0 ?_ | ((with_reducible first | apply AtM1.callp | apply AtQ.callp | apply At.callp); kernel_rfl; exact rfl; exact rfl; exact k0) | ((with_reducible apply At.box (d := 3)); exact rfl; exact rfl; exact rfl; intro b3) | (refine zsp ?_ ?_ <;> (intro hc; (try simp only [zhcs, reduceCtorEq] at hc); (try (exfalso; first | omega | contradiction | omega | exact absurd rfl hc | exact absurd (by decide) hc))))))
  (refine At.loopk (σ := Nat) [1, 2, 3] (fun s F0 => (7, .int .i64 (s : Int)) :: F0) (fun s => m) (fun s => .blk b3 25 k.cells :: Rest) (fun s => s ≤ 3 ∧ (0 < s → q1 = true) ∧ (1 < s → q2 = true) ∧ (2 < s → q3 = true)) (fun s => 3 - s) 0 (by rfl) ?_ zsubs zml zente ?_)
  · exact ⟨Nat.zero_le _, fun h => absurd h (by decide), fun h => absurd h (by decide), fun h => absurd h (by decide)⟩
  rintro s ⟨hs, g0, g1, g2⟩
  rcases (show s = 0 ∨ s = 1 ∨ s = 2 ∨ s = 3 by omega) with rfl | rfl | rfl | rfl
  · cases q1
    · (repeat' (first | refine zss ?_ | ((first | (with_reducible first | apply At.val | apply AtQ.val)); (exact pr_indexArr (k := 0) (by rfl) (by rfl) (by rfl) (by rfl) (by decide)); exact rfl) | refine zs0 ?_ | ((with_reducible first | apply AtM1.callp | apply AtQ.callp | apply At.callp); kernel_rfl; exact rfl; exact rfl; exact k1) | ((with_reducible apply At.box (d := 3)); exact rfl; exact rfl; exact rfl; intro b3) | (refine zsp ?_ ?_ <;> (intro hc; (try simp only [zhcs, reduceCtorEq] at hc); (try (exfalso; first | (first | omega | exact absurd rfl hc) | contradiction | omega | exact absurd rfl hc | exact absurd (by decide) hc))))))
      all_goals ((with_reducible apply At.retB1 (B := [])); exact rfl; exact rfl; exact zml; exact zkp; exact ⟨by simp, rfl, rfl⟩)
    · (repeat' (first | refine zss ?_ | ((first | (with_reducible first | apply At.val | apply AtQ.val)); (exact pr_indexArr (k := 0) (by rfl) (by rfl) (by rfl) (by rfl) (by decide)); exact rfl) | refine zs0 ?_ | ((with_reducible first | apply AtM1.callp | apply AtQ.callp | apply At.callp); kernel_rfl; exact rfl; exact rfl; exact k1) | ((with_reducible apply At.box (d := 3)); exact rfl; exact rfl; exact rfl; intro b3) | (refine zsp ?_ ?_ <;> (intro hc; (try simp only [zhcs, reduceCtorEq] at hc); (try (exfalso; first | (first | omega | exact absurd rfl hc) | contradiction | omega | exact absurd rfl hc | exact absurd (by decide) hc))))))
      all_goals ((with_reducible refine At.reachk (1) ?_ ?_ ?_ ?_); exact zsubs; exact zml; exact zente; exact ⟨⟨by decide, fun _ => rfl, fun h => absurd h (by decide), fun h => absurd h (by decide)⟩, by decide⟩)
  · obtain rfl := g0 (by decide)
    cases q2
    · (repeat' (first | refine zss ?_ | ((first | (with_reducible first | apply At.val | apply AtQ.val)); (exact pr_indexArr (k := 1) (by rfl) (by rfl) (by rfl) (by rfl) (by decide)); exact rfl) | refine zs0 ?_ | ((with_reducible first | apply AtM1.callp | apply AtQ.callp | apply At.callp); kernel_rfl; exact rfl; exact rfl; exact k2) | ((with_reducible apply At.box (d := 3)); exact rfl; exact rfl; exact rfl; intro b3) | (refine zsp ?_ ?_ <;> (intro hc; (try simp only [zhcs, reduceCtorEq] at hc); (try (exfalso; first | (first | omega | exact absurd rfl hc) | contradiction | omega | exact absurd rfl hc | exact absurd (by decide) hc))))))
      all_goals ((with_reducible apply At.retB1 (B := [])); exact rfl; exact rfl; exact zml; exact zkp; exact ⟨by simp, rfl, rfl⟩)
    · (repeat' (first | refine zss ?_ | ((first | (with_reducible first | apply At.val | apply AtQ.val)); (exact pr_indexArr (k := 1) (by rfl) (by rfl) (by rfl) (by rfl) (by decide)); exact rfl) | refine zs0 ?_ | ((with_reducible first | apply AtM1.callp | apply AtQ.callp | apply At.callp); kernel_rfl; exact rfl; exact rfl; exact k2) | ((with_reducible apply At.box (d := 3)); exact rfl; exact rfl; exact rfl; intro b3) | (refine zsp ?_ ?_ <;> (intro hc; (try simp only [zhcs, reduceCtorEq] at hc); (try (exfalso; first | (first | omega | exact absurd rfl hc) | contradiction | omega | exact absurd rfl hc | exact absurd (by decide) hc))))))
      all_goals ((with_reducible refine At.reachk (2) ?_ ?_ ?_ ?_); exact zsubs; exact zml; exact zente; exact ⟨⟨by decide, fun _ => rfl, fun _ => rfl, fun h => absurd h (by decide)⟩, by decide⟩)
  · obtain rfl := g0 (by decide)
    obtain rfl := g1 (by decide)
    cases q3
    · (repeat' (first | refine zss ?_ | ((first | (with_reducible first | apply At.val | apply AtQ.val)); (exact pr_indexArr (k := 2) (by rfl) (by rfl) (by rfl) (by rfl) (by decide)); exact rfl) | refine zs0 ?_ | ((with_reducible first | apply AtM1.callp | apply AtQ.callp | apply At.callp); kernel_rfl; exact rfl; exact rfl; exact k3) | ((with_reducible apply At.box (d := 3)); exact rfl; exact rfl; exact rfl; intro b3) | (refine zsp ?_ ?_ <;> (intro hc; (try simp only [zhcs, reduceCtorEq] at hc); (try (exfalso; first | (first | omega | exact absurd rfl hc) | contradiction | omega | exact absurd rfl hc | exact absurd (by decide) hc))))))
      all_goals ((with_reducible apply At.retB1 (B := [])); exact rfl; exact rfl; exact zml; exact zkp; exact ⟨by simp, rfl, rfl⟩)
    · (repeat' (first | refine zss ?_ | ((first | (with_reducible first | apply At.val | apply AtQ.val)); (exact pr_indexArr (k := 2) (by rfl) (by rfl) (by rfl) (by rfl) (by decide)); exact rfl) | refine zs0 ?_ | ((with_reducible first | apply AtM1.callp | apply AtQ.callp | apply At.callp); kernel_rfl; exact rfl; exact rfl; exact k3) | ((with_reducible apply At.box (d := 3)); exact rfl; exact rfl; exact rfl; intro b3) | (refine zsp ?_ ?_ <;> (intro hc; (try simp only [zhcs, reduceCtorEq] at hc); (try (exfalso; first | (first | omega | exact absurd rfl hc) | contradiction | omega | exact absurd rfl hc | exact absurd (by decide) hc))))))
      all_goals ((with_reducible refine At.reachk (3) ?_ ?_ ?_ ?_); exact zsubs; exact zml; exact zente; exact ⟨⟨by decide, fun _ => rfl, fun _ => rfl, fun _ => rfl⟩, by decide⟩)
  · obtain rfl := g0 (by decide)
    obtain rfl := g1 (by decide)
    obtain rfl := g2 (by decide)
    (repeat' (first | refine zss ?_ | refine zs0 ?_ | ((with_reducible apply At.box (d := 3)); exact rfl; exact rfl; exact rfl; intro b3) | (refine zsp ?_ ?_ <;> (intro hc; (try simp only [zhcs, reduceCtorEq] at hc); (try (exfalso; first | (first | omega | exact absurd rfl hc) | contradiction | omega | exact absurd rfl hc | exact absurd (by decide) hc))))))
    all_goals ((with_reducible apply At.retB1 (B := [])); exact rfl; exact rfl; exact zml; exact zkp; exact ⟨rfl, rfl, rfl⟩)
end Dc
end Go.Proofs.YtecifniognbomaaGreat
/- Tiers, the document's answers: which are right; all that are not zero, in order. -/
set_option linter.unusedSimpArgs false
set_option linter.unusedVariables false
set_option linter.unusedSectionVars false
set_option maxRecDepth 20000
set_option maxHeartbeats 4000000
namespace Go.Proofs.YtecifniognbomaaGreat
open Go Go.J
attribute [local irreducible] At AtQ AtM AtM1 PR Ct Pu Rd Res.blk Res.own Res.ex RVs RV
namespace Dt
open Se Win Slot
theorem fitsR (c : Cell) (w i : Int) (hn : -9223372036854775808 ≤ c.n ∧ c.n ≤ 9223372036854775807) (hI : c.I < 340282366920938463463374607431768211456) : Pu Tryz.prog 64 #[c.v, .int .i64 w, .int .i64 i] (.bool (decide (Ti.fits c w i))) := Pu.intro fun m => by
  have k1 := Cell.rcheck c hn hI
  have k2 := rwin_of c.F.T w
  have k3 := rwin_of c.L.T w
  by_cases h1 : Cell.chk c = 0
  rotate_left
  · rw [decide_eq_false (fun h : Ti.fits c w i => h1 h.2.1)]
    generalize Cell.chk c = e at k1 h1
    refine Ct.enterV (by rfl) Tryz.func64 rfl Tryz.ntmps64 rfl (fun w0 Rest => ?_)
    (repeat' (first | refine zss ?_ | refine zs0 ?_ | ((with_reducible first | apply AtM1.callp | apply AtQ.callp | apply At.callp); kernel_rfl; exact rfl; exact rfl; exact k1) | ((with_reducible apply At.box (d := 3)); exact rfl; exact rfl; exact rfl; intro b3) | (refine zsp ?_ ?_ <;> (intro hc; (try simp only [zhcs, reduceCtorEq] at hc); (try (exfalso; first | (first | omega | exact absurd hc h1) | contradiction | omega | exact absurd rfl hc | exact absurd (by decide) hc))))))
    all_goals ((with_reducible apply At.retB1 (B := [])); exact rfl; exact rfl; exact zml; exact zkp; exact ⟨rfl, rfl, rfl⟩)
  rw [h1] at k1
  by_cases h0 : c.n = 0
  · rw [decide_eq_false (fun h : Ti.fits c w i => h.1 h0)]
    refine Ct.enterV (by rfl) Tryz.func64 rfl Tryz.ntmps64 rfl (fun w0 Rest => ?_)
    (repeat' (first | refine zss ?_ | refine zs0 ?_ | ((with_reducible first | apply AtM1.callp | apply AtQ.callp | apply At.callp); kernel_rfl; exact rfl; exact rfl; exact k1) | ((with_reducible apply At.box (d := 3)); exact rfl; exact rfl; exact rfl; intro b3) | (refine zsp ?_ ?_ <;> (intro hc; (try simp only [zhcs, reduceCtorEq] at hc); (try (exfalso; first | (first | omega | exact absurd h0 hc) | contradiction | omega | exact absurd rfl hc | exact absurd (by decide) hc))))))
    all_goals ((with_reducible apply At.retB1 (B := [])); exact rfl; exact rfl; exact zml; exact zkp; exact ⟨rfl, rfl, rfl⟩)
  rw [show decide (Ti.fits c w i) = decide ((ofE c.F.T w = 0 ∧ ofV c.F.T w = i) ∧ ofE c.L.T w = 0 ∧ ofV c.L.T w = i) from decide_eq_decide.2 ⟨fun h => h.2.2, fun h => ⟨h0, h1, h⟩⟩]
  clear h1 hn hI
  generalize ofE c.F.T w = e1 at k2 ⊢
  generalize ofV c.F.T w = v1 at k2 ⊢
  generalize ofE c.L.T w = e2 at k3 ⊢
  generalize ofV c.L.T w = v2 at k3 ⊢
  refine Ct.enterV (by rfl) Tryz.func64 rfl Tryz.ntmps64 rfl (fun w0 Rest => ?_)
  (repeat' (first | refine zss ?_ | refine zs0 ?_ | ((with_reducible first | apply AtM1.callp | apply AtQ.callp | apply At.callp); kernel_rfl; exact rfl; exact rfl; exact k1) | ((with_reducible first | apply AtM1.callp | apply AtQ.callp | apply At.callp); kernel_rfl; exact rfl; exact rfl; exact k2) | ((with_reducible first | apply AtM1.callp | apply AtQ.callp | apply At.callp); kernel_rfl; exact rfl; exact rfl; exact k3) | ((with_reducible apply At.box (d := 3)); exact rfl; exact rfl; exact rfl; intro b3) | (refine zsp ?_ ?_ <;> (intro hc; (try simp only [zhcs, reduceCtorEq] at hc); (try (exfalso; first | (first | omega | exact absurd hc h0) | contradiction | omega | exact absurd rfl hc | exact absurd (by decide) hc))))))
  all_goals ((with_reducible apply At.retB1 (B := [])); exact rfl; exact rfl; exact zml; exact zkp; exact ⟨congrArg Value.bool (by first | (simp_all; done) | (simp_all <;> omega)), rfl, rfl⟩)
theorem checkR {m : Mem} (p : Option Addr) (c : Nat) (l : List Slot) (w : Int) (hI : ∀ s ∈ l, Slot.In s) (sl0 : Sl m Slot.cells 15 p c l) :
    Rd Tryz.prog 79 #[.slice p l.length c, .int .i64 w] m [] (.int .i64 (Ti.chk l w)) := by
  unfold Rd
  by_cases h0 : (1 ≤ l.length ∧ l.length ≤ 4096) ∧ (1 ≤ w ∧ w ≤ 1099511627776)
  rotate_left
  · rw [show Ti.chk l w = 2 from if_neg (fun h => h0 ⟨h.1, h.2.1⟩)]
    refine Ct.enterV (by rfl) Tryz.func79 rfl Tryz.ntmps79 rfl (fun w0 Rest => ?_)
    (repeat' (first | refine zss ?_ | refine zsM ?_ | ((with_reducible apply At.alloc (d := 6)); exact rfl; exact rfl; intro b6) | (refine zsp ?_ ?_ <;> (intro hc; (try simp only [zhcs, reduceCtorEq] at hc); (try (exfalso; first | omega | contradiction | omega | exact absurd rfl hc | exact absurd (by decide) hc))))))
    all_goals ((with_reducible apply At.retB1 (B := [])); exact rfl; exact rfl; exact zml; exact zkp; exact ⟨rfl, rfl, rfl⟩)
  obtain ⟨h1, h2⟩ := h0
  refine Ct.enterV (by rfl) Tryz.func79 rfl Tryz.ntmps79 rfl (fun w0 Rest => ?_)
  (repeat' (first | refine zss ?_ | refine zsM ?_ | ((with_reducible apply At.alloc (d := 6)); exact rfl; exact rfl; intro b6) | (refine zsp ?_ ?_ <;> (intro hc; (try simp only [zhcs, reduceCtorEq] at hc); (try (exfalso; first | omega | contradiction | omega | exact absurd rfl hc | exact absurd (by decide) hc))))))
  (refine At.loopk (σ := Nat) [0, 1, 23, 24] (fun s F0 => (25, .int .i64 (s : Int)) :: F0) (fun s => m) (fun s => Rest) (fun s => s ≤ l.length ∧ ∀ k, k < s → Ti.okS l w k) (fun s => l.length - s) 0 (by rfl) ?_ zsubs zml zente ?_)
  · exact ⟨Nat.zero_le _, fun k h => absurd h (Nat.not_lt_zero k)⟩
  rintro s ⟨hs, hn⟩
  by_cases h : s < l.length
  · have hi := hI l[s]! (by rw [getElem!_pos l s h]; exact List.getElem_mem h)
    have k2 := rwin_slot l[s]!.w (l.length : Int) hi.1 (by omega)
    have k3 := fitsR l[s]!.c w l[s]!.w hi.2.1 hi.2.2.2.2
    have hstep : Ti.okS l w s → ∀ k, k < s + 1 → Ti.okS l w k := fun ho k hk => by
      by_cases e : k = s
      · subst e; exact ho
      · exact hn k (by omega)
    have hbad : ¬ Ti.okS l w s → Ti.chk l w = 2 := fun ho => if_neg fun hh => ho (hh.2.2 s h)
    unfold Ti.okS at hstep hbad
    clear hI hi hn
    by_cases hz : l[s]! = z
    · have pz : ∀ {n' : Nat} {F : Fr} {C : World → Prop} {x y : Operand} {u : TypeId}, ev F x = some l[s]!.v → ev F y = some z.v → PR Tryz.prog n' F C (.binOp .eql 51 x y u) (.bool true) := fun hx hy => by rw [← decide_eq_true hz]; exact Ti.pr_sleq hx hy
      have hst := hstep (.inl hz)
      clear hstep hbad k3 k2
      (repeat' (first | refine zss ?_ | ((first | (with_reducible first | apply At.val | apply AtQ.val)); (exact pz (by rfl) (by rfl)); exact rfl) | refine zsM ?_ | ((with_reducible apply At.alloc (d := 6)); exact rfl; exact rfl; intro b6) | (refine zsp ?_ ?_ <;> (intro hc; (try simp only [zhcs, reduceCtorEq] at hc); (try (exfalso; first | omega | contradiction | omega | exact absurd rfl hc | exact absurd (by decide) hc))))))
      all_goals ((with_reducible refine At.reachk ((s + 1)) ?_ ?_ ?_ ?_); exact zsubs; exact zml; exact zente; exact ⟨⟨h, hst⟩, by omega⟩)
    have pz : ∀ {n' : Nat} {F : Fr} {C : World → Prop} {x y : Operand} {u : TypeId}, ev F x = some l[s]!.v → ev F y = some z.v → PR Tryz.prog n' F C (.binOp .eql 51 x y u) (.bool false) := fun hx hy => by rw [← decide_eq_false hz]; exact Ti.pr_sleq hx hy
    by_cases e2 : Ti.fits l[s]!.c w l[s]!.w
    rotate_left
    · rw [hbad (fun ho => ho.elim hz (fun ho => e2 ho.2))]
      rw [decide_eq_false e2] at k3
      clear hstep hbad
      (repeat' (first | refine zss ?_ | ((first | (with_reducible first | apply At.val | apply AtQ.val)); (exact pz (by rfl) (by rfl)); exact rfl) | refine zsM ?_ | ((with_reducible first | apply AtM1.callp | apply AtQ.callp | apply At.callp); kernel_rfl; exact rfl; exact rfl; exact k3) | ((with_reducible apply At.alloc (d := 6)); exact rfl; exact rfl; intro b6) | (refine zsp ?_ ?_ <;> (intro hc; (try simp only [zhcs, reduceCtorEq] at hc); (try (exfalso; first | (first | omega | exact absurd rfl hc) | contradiction | omega | exact absurd rfl hc | exact absurd (by decide) hc))))))
      all_goals ((with_reducible apply At.retB1 (B := [])); exact rfl; exact rfl; exact zml; exact zkp; exact ⟨rfl, rfl, rfl⟩)
    rw [decide_eq_true e2] at k3
    by_cases e1 : slotV l[s]!.w (l.length : Int) = (s : Int)
    · have hst := hstep (.inr ⟨e1, e2⟩)
      rw [e1] at k2
      clear hstep hbad e1
      (repeat' (first | refine zss ?_ | ((first | (with_reducible first | apply At.val | apply AtQ.val)); (exact pz (by rfl) (by rfl)); exact rfl) | refine zsM ?_ | ((with_reducible first | apply AtM1.callp | apply AtQ.callp | apply At.callp); kernel_rfl; exact rfl; exact rfl; exact k2) | ((with_reducible first | apply AtM1.callp | apply AtQ.callp | apply At.callp); kernel_rfl; exact rfl; exact rfl; exact k3) | ((with_reducible apply At.alloc (d := 6)); exact rfl; exact rfl; intro b6) | (refine zsp ?_ ?_ <;> (intro hc; (try simp only [zhcs, reduceCtorEq] at hc); (try (exfalso; first | (first | omega | exact absurd rfl hc) | contradiction | omega | exact absurd rfl hc | exact absurd (by decide) hc))))))
      all_goals ((with_reducible refine At.reachk ((s + 1)) ?_ ?_ ?_ ?_); exact zsubs; exact zml; exact zente; exact ⟨⟨h, hst⟩, by omega⟩)
    · rw [hbad (fun ho => ho.elim hz (fun ho => e1 ho.1))]
      generalize slotV l[s]!.w (l.length : Int) = q at k2 e1
      clear hstep hbad
      (repeat' (first | refine zss ?_ | ((first | (with_reducible first | apply At.val | apply AtQ.val)); (exact pz (by rfl) (by rfl)); exact rfl) | refine zsM ?_ | ((with_reducible first | apply AtM1.callp | apply AtQ.callp | apply At.callp); kernel_rfl; exact rfl; exact rfl; exact k2) | ((with_reducible first | apply AtM1.callp | apply AtQ.callp | apply At.callp); kernel_rfl; exact rfl; exact rfl; exact k3) | ((with_reducible apply At.alloc (d := 6)); exact rfl; exact rfl; intro b6) | (refine zsp ?_ ?_ <;> (intro hc; (try simp only [zhcs, reduceCtorEq] at hc); (try (exfalso; first | (first | omega | exact absurd hc e1 | exact absurd rfl hc) | contradiction | omega | exact absurd rfl hc | exact absurd (by decide) hc))))))
      all_goals ((with_reducible apply At.retB1 (B := [])); exact rfl; exact rfl; exact zml; exact zkp; exact ⟨rfl, rfl, rfl⟩)
  · rw [show Ti.chk l w = 0 from if_pos ⟨h1, h2, fun k hk => hn k (by omega)⟩]
    clear hn
    (repeat' (first | refine zss ?_ | refine zsM ?_ | ((with_reducible apply At.alloc (d := 6)); exact rfl; exact rfl; intro b6) | (refine zsp ?_ ?_ <;> (intro hc; (try simp only [zhcs, reduceCtorEq] at hc); (try (exfalso; first | omega | contradiction | omega | exact absurd rfl hc | exact absurd (by decide) hc))))))
    all_goals ((with_reducible apply At.retB1 (B := [])); exact rfl; exact rfl; exact zml; exact zkp; exact ⟨rfl, rfl, rfl⟩)
theorem sameR {m : Mem} (p : Option Addr) (c : Nat) (a : List Slot) (q : Option Addr) (d : Nat) (b : List Slot) (hl : a.length ≤ 1000000) (hlb : b.length ≤ 1000000) (sl0 : Sl m Slot.cells 15 p c a) (sl1 : Sl m Slot.cells 15 q d b) :
    Rd Tryz.prog 93 #[.slice p a.length c, .slice q b.length d] m [] (.bool (decide (a = b))) := by
  unfold Rd
  by_cases hlen : a.length = b.length
  · refine Ct.enterV (by rfl) Tryz.func93 rfl Tryz.ntmps93 rfl (fun w0 Rest => ?_)
    (repeat' (first | refine zss ?_ | refine zsM ?_ | (refine zsp ?_ ?_ <;> (intro hc; (try simp only [zhcs, reduceCtorEq] at hc); (try (exfalso; first | omega | contradiction | omega | exact absurd rfl hc | exact absurd (by decide) hc))))))
    (refine At.loopk (σ := Nat) [0, 1, 12] (fun s F0 => (13, .int .i64 (s : Int)) :: F0) (fun s => m) (fun s => Rest) (fun s => s ≤ a.length ∧ ∀ i, i < s → a[i]! = b[i]!) (fun s => a.length - s) 0 (by rfl) ?_ zsubs zml zente ?_)
    · exact ⟨Nat.zero_le _, fun i h => absurd h (Nat.not_lt_zero i)⟩
    rintro s ⟨hs, hn⟩
    by_cases h : s < a.length
    · by_cases e : a[s]! = b[s]!
      · have hnn : ∀ i, i < s + 1 → a[i]! = b[i]! := fun i hi => by
          by_cases e1 : i = s
          · subst e1; exact e
          · exact hn i (by omega)
        (repeat' (first | refine zss ?_ | ((first | (with_reducible first | apply At.val | apply AtQ.val)); (exact Ti.pr_slne (by rfl) (by rfl)); exact rfl) | refine zsM ?_ | (refine zsp ?_ ?_ <;> (intro hc; (try simp only [zhcs, reduceCtorEq] at hc); (try (exfalso; first | (first | omega | exact absurd e hc) | contradiction | omega | exact absurd rfl hc | exact absurd (by decide) hc))))))
        all_goals ((with_reducible refine At.reachk ((s + 1)) ?_ ?_ ?_ ?_); exact zsubs; exact zml; exact zente; exact ⟨⟨h, hnn⟩, by omega⟩)
      · rw [decide_eq_false (show ¬ a = b from fun h => e (by rw [h]))]
        (repeat' (first | refine zss ?_ | ((first | (with_reducible first | apply At.val | apply AtQ.val)); (exact Ti.pr_slne (by rfl) (by rfl)); exact rfl) | refine zsM ?_ | (refine zsp ?_ ?_ <;> (intro hc; (try simp only [zhcs, reduceCtorEq] at hc); (try (exfalso; first | (first | omega | exact absurd hc e) | contradiction | omega | exact absurd rfl hc | exact absurd (by decide) hc))))))
        all_goals ((with_reducible apply At.retB1 (B := [])); exact rfl; exact rfl; exact zml; exact zkp; exact ⟨rfl, rfl, rfl⟩)
    · rw [decide_eq_true (show a = b from Ls.ext! hlen fun i hi => hn i (by omega))]
      (repeat' (first | refine zss ?_ | refine zsM ?_ | (refine zsp ?_ ?_ <;> (intro hc; (try simp only [zhcs, reduceCtorEq] at hc); (try (exfalso; first | omega | contradiction | omega | exact absurd rfl hc | exact absurd (by decide) hc))))))
      all_goals ((with_reducible apply At.retB1 (B := [])); exact rfl; exact rfl; exact zml; exact zkp; exact ⟨rfl, rfl, rfl⟩)
  · rw [decide_eq_false (show ¬ a = b from fun h => hlen (by rw [h]))]
    refine Ct.enterV (by rfl) Tryz.func93 rfl Tryz.ntmps93 rfl (fun w0 Rest => ?_)
    (repeat' (first | refine zss ?_ | refine zsM ?_ | (refine zsp ?_ ?_ <;> (intro hc; (try simp only [zhcs, reduceCtorEq] at hc); (try (exfalso; first | omega | contradiction | omega | exact absurd rfl hc | exact absurd (by decide) hc))))))
    all_goals ((with_reducible apply At.retB1 (B := [])); exact rfl; exact rfl; exact zml; exact zkp; exact ⟨rfl, rfl, rfl⟩)
/-! ### all, in order -/
def wF (P : List Slot) (w : Int) : Nat → Nat
  | 0 => 0
  | k + 1 => if w < P[k]!.w then wF P w k else k + 1
def insW (P : List Slot) (s : Slot) : List Slot := P.take (wF P s.w P.length) ++ [s] ++ P.drop (wF P s.w P.length)
def allL (l : List Slot) : List Slot := (l.filter fun s => !decide (s = z)).foldl insW []
theorem allL_snoc {l : List Slot} {i : Nat} (h : i < l.length) : allL (l.take (i + 1)) = if l[i]! = z then allL (l.take i) else insW (allL (l.take i)) l[i]! := by
  unfold allL
  rw [Ls.take_snoc h, List.filter_append]
  by_cases e : l[i]! = z
  · rw [if_pos e, List.filter_cons_of_neg (p := fun s => !decide (s = z)) (by show ¬ (!decide (l[i]! = z)) = true; rw [decide_eq_true e]; decide), List.filter_nil, List.append_nil]
  · rw [if_neg e, List.filter_cons_of_pos (p := fun s => !decide (s = z)) (by show (!decide (l[i]! = z)) = true; rw [decide_eq_false e]; rfl), List.filter_nil, List.foldl_append]
    rfl
theorem wF_le (P : List Slot) (w : Int) : ∀ k, wF P w k ≤ k
  | 0 => Nat.le_refl _
  | k + 1 => by
    unfold wF
    split
    · exact Nat.le_succ_of_le (wF_le P w k)
    · exact Nat.le_refl _
theorem mem_insW {P : List Slot} {s x : Slot} : x ∈ insW P s ↔ x = s ∨ x ∈ P := by
  unfold insW
  rw [List.mem_append, List.mem_append, List.mem_singleton]
  constructor
  · rintro ((h | h) | h)
    · exact .inr (List.mem_of_mem_take h)
    · exact .inl h
    · exact .inr (List.mem_of_mem_drop h)
  · rintro (h | h)
    · exact .inl (.inr h)
    · rw [← List.take_append_drop (wF P s.w P.length) P, List.mem_append] at h
      rcases h with h | h
      · exact .inl (.inl h)
      · exact .inr h
theorem mem_all {l : List Slot} {x : Slot} : x ∈ allL l ↔ x ∈ l ∧ x ≠ z := by
  unfold allL
  have key : ∀ (L : List Slot) (A : List Slot), x ∈ L.foldl insW A ↔ x ∈ L ∨ x ∈ A := by
    intro L
    induction L with
    | nil => intro A; simp
    | cons y L ih =>
      intro A
      rw [List.foldl_cons, ih, mem_insW, List.mem_cons]
      constructor
      · rintro (h | h | h)
        · exact .inl (.inr h)
        · exact .inl (.inl h)
        · exact .inr h
      · rintro ((h | h) | h)
        · exact .inr (.inl h)
        · exact .inl h
        · exact .inr (.inr h)
  rw [key, List.mem_filter]
  simp
theorem len_insW (P : List Slot) (s : Slot) : (insW P s).length = P.length + 1 := by
  unfold insW
  have := wF_le P s.w P.length
  simp only [List.length_append, List.length_take, List.length_drop, List.length_singleton]
  omega
theorem len_all (l : List Slot) : (allL l).length ≤ l.length := by
  unfold allL
  have key : ∀ (L A : List Slot), (L.foldl insW A).length = L.length + A.length := by
    intro L
    induction L with
    | nil => intro A; simp
    | cons y L ih => intro A; rw [List.foldl_cons, ih, len_insW, List.length_cons]; omega
  rw [key]
  exact List.length_filter_le _ _
theorem wF_dn {P : List Slot} {w : Int} {k : Nat} (h : w < P[k]!.w) : wF P w (k + 1) = wF P w k := if_pos h
theorem wF_st {P : List Slot} {w : Int} {k : Nat} (h : ¬ w < P[k]!.w) : wF P w (k + 1) = k + 1 := if_neg h
structure QS where
  (i : Nat) (p : Option Addr) (c : Nat) (M : Mem)
def PostA (l : List Slot) : Value → Mem → List Res → Prop := fun v m' B => B = [] ∧ ∃ p c, v = .slice p l.length c ∧ Sl m' Slot.cells 15 p c l
set_option maxHeartbeats 1000000 in
theorem all_ {m : Mem} (p0 : Option Addr) (c0 : Nat) (l : List Slot) (hl : l.length ≤ 1000000) (sl0 : Sl m Slot.cells 15 p0 c0 l) :
    Ct Tryz.prog 62 #[.slice p0 l.length c0] m [] (PostA (allL l)) := by
  refine Ct.enterV (by rfl) Tryz.func62 rfl Tryz.ntmps62 rfl (fun w0 Rest => ?_)
  (repeat' (first | refine zss ?_ | refine zsM ?_ | ((with_reducible apply At.alloc (d := 5)); exact rfl; exact rfl; intro b5) | (refine zsp ?_ ?_ <;> (intro hc; (try simp only [zhcs, reduceCtorEq] at hc); (try (exfalso; first | contradiction | omega | exact absurd rfl hc | exact absurd (by decide) hc))))))
  (refine At.loopk (σ := QS) [8, 9] (fun s F0 => (3, .slice s.p (allL (l.take s.i)).length s.c) :: (10, .int .i64 (s.i : Int)) :: F0) (fun s => s.M) (fun s => Rest) (fun s => m.le s.M ∧ s.i ≤ l.length ∧ Sl s.M Slot.cells 15 p0 c0 l ∧ Sl s.M Slot.cells 15 s.p s.c (allL (l.take s.i))) (fun s => l.length - s.i) ⟨0, none, 0, m⟩ (by rfl) ?_ zsubs zml zente ?_)
  · exact ⟨Mem.le_refl _, Nat.zero_le _, sl0, Sl.empty _ inferInstance⟩
  rintro ⟨i, p, c, M⟩ ⟨e0, e1, e2, sl1⟩
  dsimp only at e0 e1 e2 sl1 ⊢
  clear sl0
  have sl0 := e2
  clear e2
  by_cases h : i < l.length
  · have hN := allL_snoc h
    have hP : (allL (l.take i)).length ≤ 1000000 := by have := len_all (l.take i); rw [List.length_take] at this; omega
    generalize allL (l.take i) = P at hN hP sl1
    by_cases hz : l[i]! = z
    · have pz : ∀ {n' : Nat} {F : Fr} {C : World → Prop} {x y : Operand} {u : TypeId}, ev F x = some l[i]!.v → ev F y = some z.v → PR Tryz.prog n' F C (.binOp .eql 51 x y u) (.bool true) := fun hx hy => by rw [← decide_eq_true hz]; exact Ti.pr_sleq hx hy
      rw [if_pos hz] at hN
      (repeat' (first | refine zss ?_ | ((first | (with_reducible first | apply At.val | apply AtQ.val)); (exact pz (by rfl) (by rfl)); exact rfl) | refine zsM ?_ | ((with_reducible apply At.alloc (d := 5)); exact rfl; exact rfl; intro b5) | (refine zsp ?_ ?_ <;> (intro hc; (try simp only [zhcs, reduceCtorEq] at hc); (try (exfalso; first | omega | contradiction | omega | exact absurd rfl hc | exact absurd (by decide) hc))))))
      all_goals rw [← hN]
      all_goals ((with_reducible refine At.reachk ((⟨i + 1, p, c, M⟩ : QS)) ?_ ?_ ?_ ?_); exact zsubs; exact zml; exact zente; exact ⟨⟨e0, h, sl0, by dsimp only; rw [hN]; exact sl1⟩, by show l.length - (i + 1) < l.length - i; omega⟩)
    have pz : ∀ {n' : Nat} {F : Fr} {C : World → Prop} {x y : Operand} {u : TypeId}, ev F x = some l[i]!.v → ev F y = some z.v → PR Tryz.prog n' F C (.binOp .eql 51 x y u) (.bool false) := fun hx hy => by rw [← decide_eq_false hz]; exact Ti.pr_sleq hx hy
    rw [if_neg hz] at hN
    (repeat' (first | refine zss ?_ | ((first | (with_reducible first | apply At.val | apply AtQ.val)); (exact pz (by rfl) (by rfl)); exact rfl) | refine zsM ?_ | ((with_reducible apply At.alloc (d := 5)); exact rfl; exact rfl; intro b5) | (refine zsp ?_ ?_ <;> (intro hc; (try simp only [zhcs, reduceCtorEq] at hc); (try (exfalso; first | omega | contradiction | omega | exact absurd rfl hc | exact absurd (by decide) hc))))))
    (refine At.loopk (σ := Nat) [3, 5, 8, 9, 10] (fun s F0 => (6, .int .i64 (s : Int)) :: F0) (fun s => M) (fun s => .blk b5 51 (Slot.cells l[i]!) :: Rest) (fun s => s ≤ P.length ∧ wF P l[i]!.w P.length = wF P l[i]!.w s) (fun s => s) P.length (by rfl) ?_ zsubs zml zente ?_)
    · exact ⟨Nat.le_refl _, rfl⟩
    rintro j ⟨hj, ha⟩
    have hfin : wF P l[i]!.w j = j → [] ++ P.take j ++ [l[i]!] ++ P.drop j = allL (l.take (i + 1)) := fun k => by rw [hN]; unfold insW; rw [ha, k]; simp
    have hT : (P.take j).length = j := by rw [List.length_take]; omega
    have hDr : (P.drop j).length = P.length - j := List.length_drop ..
    have hfl : wF P l[i]!.w j = j → (allL (l.take (i + 1))).length = ([] ++ P.take j ++ [l[i]!] ++ P.drop j).length := fun k => by rw [hfin k]
    cases j with
    | zero =>
      have hf := hfin rfl
      (repeat' (first | refine zss ?_ | refine zsOM ?_ | ((with_reducible apply At.lit Slot.cells ([] : List Slot)); exact inferInstance; (iterate 7 exact rfl); intro _) | ((with_reducible apply At.litF Slot.cells [l[i]!]); exact inferInstance; (iterate 7 exact rfl); intro b' m' hm' sl3; (try replace sl0 := sl0.mono hm'); (try replace sl1 := sl1.mono hm'); (try replace sl5 := sl5.mono hm')) | ((with_reducible apply At.apW (f := Slot.cells) (l := ([] : List Slot))); exact rfl; exact rfl; exact (by repeat constructor); exact inferInstance; exact zrdl; (iterate 4 exact rfl); exact zom; exact rfl; intro p2 c2) | ((with_reducible apply At.apW (f := Slot.cells) (l := [] ++ P.take 0)); exact rfl; exact rfl; exact (by repeat constructor); exact inferInstance; exact zrdl; (iterate 4 exact rfl); exact zom; exact rfl; intro p3 c3) | ((with_reducible apply At.apW (f := Slot.cells) (l := [] ++ P.take 0 ++ [l[i]!])); exact rfl; exact rfl; exact (by repeat constructor); exact inferInstance; exact zrdl; (iterate 4 exact rfl); exact zom; exact rfl; intro p4 c4) | fail | ((with_reducible apply At.alloc (d := 5)); exact rfl; exact rfl; intro b5) | (refine zsp ?_ ?_ <;> (intro hc; (try simp only [zhcs, reduceCtorEq] at hc); (try (exfalso; first | omega | contradiction | omega | exact absurd rfl hc | exact absurd (by decide) hc))))))
      all_goals rw [show [] ++ P.take 0 ++ [l[i]!] ++ (P.take P.length).drop 0 = allL (l.take (i + 1)) by rw [List.take_length]; exact hf]
      all_goals (refine At.own_freeze inferInstance (by repeat constructor) fun m' hm' sl5 => ?_; (try replace sl0 := sl0.mono hm'); (try replace sl1 := sl1.mono hm'); (try replace sl3 := sl3.mono hm'))
      all_goals ((with_reducible refine At.reachk ((⟨i + 1, p4, c4, m'⟩ : QS)) ?_ ?_ ?_ ?_); exact zsubs; exact zml; exact zente; exact ⟨⟨zml, h, sl0, sl5⟩, by show l.length - (i + 1) < l.length - i; omega⟩)
    | succ k =>
      have hw : IntKind.wrap .i64 (((k + 1 : Nat) : Int) - 1) = (k : Int) := by rw [show ((k + 1 : Nat) : Int) - 1 = (k : Int) by omega]; exact IntWalk.i64_in _ (by omega)
      by_cases e : l[i]!.w < P[k]!.w
      · (repeat' (first | refine zss ?_ | ((first | (with_reducible first | apply At.val | apply AtQ.val)); (exact pr_sub (by rfl) (by rfl) hw); exact rfl) | refine zsM ?_ | ((with_reducible apply At.alloc (d := 5)); exact rfl; exact rfl; intro b5) | (refine zsp ?_ ?_ <;> (intro hc; (try simp only [zhcs, reduceCtorEq] at hc); (try (exfalso; first | omega | contradiction | omega | exact absurd rfl hc | exact absurd (by decide) hc))))))
        all_goals ((with_reducible refine At.reachk (k) ?_ ?_ ?_ ?_); exact zsubs; exact zml; exact zente; exact ⟨⟨by omega, by rw [ha, wF_dn e]⟩, by omega⟩)
      · have hf := hfin (wF_st e)
        (repeat' (first | refine zss ?_ | ((first | (with_reducible first | apply At.val | apply AtQ.val)); (exact pr_sub (by rfl) (by rfl) hw); exact rfl) | refine zsOM ?_ | ((with_reducible apply At.lit Slot.cells ([] : List Slot)); exact inferInstance; (iterate 7 exact rfl); intro _) | ((with_reducible apply At.litF Slot.cells [l[i]!]); exact inferInstance; (iterate 7 exact rfl); intro b' m' hm' sl3; (try replace sl0 := sl0.mono hm'); (try replace sl1 := sl1.mono hm'); (try replace sl5 := sl5.mono hm')) | ((with_reducible apply At.apW (f := Slot.cells) (l := ([] : List Slot))); exact rfl; exact rfl; exact (by repeat constructor); exact inferInstance; exact zrdl; (iterate 4 exact rfl); exact zom; exact rfl; intro p2 c2) | ((with_reducible apply At.apW (f := Slot.cells) (l := [] ++ P.take (k + 1))); exact rfl; exact rfl; exact (by repeat constructor); exact inferInstance; exact zrdl; (iterate 4 exact rfl); exact zom; exact rfl; intro p3 c3) | ((with_reducible apply At.apW (f := Slot.cells) (l := [] ++ P.take (k + 1) ++ [l[i]!])); exact rfl; exact rfl; exact (by repeat constructor); exact inferInstance; exact zrdl; (iterate 4 exact rfl); exact zom; exact rfl; intro p4 c4) | fail | ((with_reducible apply At.alloc (d := 5)); exact rfl; exact rfl; intro b5) | (refine zsp ?_ ?_ <;> (intro hc; (try simp only [zhcs, reduceCtorEq] at hc); (try (exfalso; first | omega | contradiction | omega | exact absurd rfl hc | exact absurd (by decide) hc))))))
        all_goals rw [show [] ++ P.take (k + 1) ++ [l[i]!] ++ (P.take P.length).drop (k + 1) = allL (l.take (i + 1)) by rw [List.take_length]; exact hf]
        all_goals (refine At.own_freeze inferInstance (by repeat constructor) fun m' hm' sl5 => ?_; (try replace sl0 := sl0.mono hm'); (try replace sl1 := sl1.mono hm'); (try replace sl3 := sl3.mono hm'))
        all_goals ((with_reducible refine At.reachk ((⟨i + 1, p4, c4, m'⟩ : QS)) ?_ ?_ ?_ ?_); exact zsubs; exact zml; exact zente; exact ⟨⟨zml, h, sl0, sl5⟩, by show l.length - (i + 1) < l.length - i; omega⟩)
  · rw [show l.take i = l from List.take_of_length_le (by omega)] at sl1 ⊢
    (repeat' (first | refine zss ?_ | refine zsM ?_ | ((with_reducible apply At.alloc (d := 5)); exact rfl; exact rfl; intro b5) | (refine zsp ?_ ?_ <;> (intro hc; (try simp only [zhcs, reduceCtorEq] at hc); (try (exfalso; first | omega | contradiction | omega | exact absurd rfl hc | exact absurd (by decide) hc))))))
    all_goals ((with_reducible apply At.retB1 (B := [])); exact rfl; exact rfl; exact zml; exact zkp; exact ⟨rfl, p, c, rfl, sl1⟩)
end Dt
end Go.Proofs.YtecifniognbomaaGreat
/- Raw events, the document's: which are right, the last one. -/
set_option linter.unusedSimpArgs false
set_option linter.unusedVariables false
set_option linter.unusedSectionVars false
set_option maxRecDepth 20000
set_option maxHeartbeats 4000000
namespace Go.Proofs.YtecifniognbomaaGreat
open Go Go.J
attribute [local irreducible] At AtQ AtM AtM1 PR Ct Pu Rd Res.blk Res.own Res.ex RVs RV
namespace Raw
open Ev Mrg
abbrev rcs (lost mark : Int) (p : Option Addr) (n c : Nat) : List Value := [.int .i64 lost, .int .i64 mark, .slice p n c]
theorem rlast {m : Mem} (lost mark : Int) (p : Option Addr) (c : Nat) (l : List Ev) (hl : l.length ≤ 1000000) (sl0 : Sl m cells 4 p c l) :
    Rd Tryz.prog 63 #[rv lost mark p l.length c] m [] (.tuple #[(lastV l).v, .int .i64 (lastE l)]) := by
  unfold Rd
  by_cases h : l.length = 0
  · rw [show lastV l = z from if_pos h, show lastE l = 3 from if_pos h]
    refine Ct.enterV (by rfl) Tryz.func63 rfl Tryz.ntmps63 rfl (fun w0 Rest => ?_)
    (repeat' (first | refine zss ?_ | refine zsM ?_ | ((with_reducible apply At.box (d := 1)); exact rfl; exact rfl; exact rfl; intro b1) | ((with_reducible apply At.alloc (d := 2)); exact rfl; exact rfl; intro b2) | (refine zsp ?_ ?_ <;> (intro hc; (try simp only [zhcs, reduceCtorEq] at hc); (try (exfalso; first | omega | contradiction | omega | exact absurd rfl hc | exact absurd (by decide) hc))))))
    all_goals ((with_reducible apply At.retV (B := [])); exact rfl; (repeat' (first | exact RVs.nil | (with_reducible apply RVs.cons) | exact rv_tmp (by rfl) | exact rv_cellN (by rfl) (by repeat constructor) (by rfl) (by rfl) (by rfl) | exact rv_cell1 (by rfl) (by repeat constructor) (by rfl) (by rfl))); exact zml; exact zkp; exact ⟨rfl, rfl, rfl⟩)
  · obtain ⟨j, hj⟩ : ∃ j, l.length - 1 = j := ⟨_, rfl⟩
    have hw : IntKind.wrap .i64 ((l.length : Int) - 1) = (j : Int) := by rw [show (l.length : Int) - 1 = (j : Int) by omega]; exact IntWalk.i64_in _ (by omega)
    rw [show lastV l = l[j]! by unfold lastV; rw [if_neg h, hj], show lastE l = 0 from if_neg h]
    refine Ct.enterV (by rfl) Tryz.func63 rfl Tryz.ntmps63 rfl (fun w0 Rest => ?_)
    (repeat' (first | refine zss ?_ | ((first | (with_reducible first | apply At.val | apply AtQ.val)); (exact pr_sub (by rfl) (by rfl) hw); exact rfl) | refine zsM ?_ | ((with_reducible apply At.box (d := 1)); exact rfl; exact rfl; exact rfl; intro b1) | ((with_reducible apply At.alloc (d := 2)); exact rfl; exact rfl; intro b2) | (refine zsp ?_ ?_ <;> (intro hc; (try simp only [zhcs, reduceCtorEq] at hc); (try (exfalso; first | omega | contradiction | omega | exact absurd rfl hc | exact absurd (by decide) hc))))))
    all_goals ((with_reducible apply At.retV (B := [])); exact rfl; (repeat' (first | exact RVs.nil | (with_reducible apply RVs.cons) | exact rv_tmp (by rfl) | exact rv_cellN (by rfl) (by repeat constructor) (by rfl) (by rfl) (by rfl) | exact rv_cell1 (by rfl) (by repeat constructor) (by rfl) (by rfl))); exact zml; exact zkp; exact ⟨rfl, rfl, rfl⟩)
theorem rcheck {m : Mem} (lost mark : Int) (p : Option Addr) (c : Nat) (l : List Ev) (room : Int) (hl : l.length ≤ 1000000) (sl0 : Sl m cells 4 p c l) :
    Rd Tryz.prog 60 #[rv lost mark p l.length c, .int .i64 room] m [] (.int .i64 (chkR lost mark l room)) := by
  unfold Rd
  by_cases h0 : bnd lost l room
  · have g0 := h0
    obtain ⟨g1, g2, g3, g4, g5⟩ := g0
    refine Ct.enterV (by rfl) Tryz.func60 rfl Tryz.ntmps60 rfl (fun w0 Rest => ?_)
    (repeat' (first | refine zss ?_ | refine zsM ?_ | ((with_reducible apply At.box (d := 2)); exact rfl; exact rfl; exact rfl; intro b2) | ((with_reducible apply At.alloc (d := 6)); exact rfl; exact rfl; intro b6) | (refine zsp ?_ ?_ <;> (intro hc; (try simp only [zhcs, reduceCtorEq] at hc); (try (exfalso; first | omega | contradiction | omega | exact absurd rfl hc | exact absurd (by decide) hc))))))
    (refine At.loopk (σ := Nat) [1, 2, 31, 32] (fun s F0 => (33, .int .i64 (s : Int)) :: F0) (fun s => m) (fun s => .blk b2 40 (rcs lost mark p l.length c) :: Rest) (fun s => s ≤ l.length ∧ (∀ i, i < s → (l[i]!).ok) ∧ (∀ i, i + 1 < s → (l[i]!).T < (l[i + 1]!).T)) (fun s => l.length - s) 0 (by rfl) ?_ zsubs zml zente ?_)
    · exact ⟨Nat.zero_le _, fun i h => absurd h (Nat.not_lt_zero i), fun i h => absurd h (by omega)⟩
    rintro s ⟨hs, ha, hb⟩
    by_cases h : s < l.length
    · have hk := Ev.rcheck (l[s]!)
      by_cases ho : (l[s]!).ok
      · rw [show (l[s]!).chk = 0 from if_pos ho] at hk
        have hn : ∀ i, i < s + 1 → (l[i]!).ok := fun i hi => by
          by_cases e : i = s
          · subst e; exact ho
          · exact ha i (by omega)
        rcases s with _ | j
        · (repeat' (first | refine zss ?_ | refine zsM ?_ | ((with_reducible first | apply AtM1.callp | apply AtQ.callp | apply At.callp); kernel_rfl; exact rfl; exact rfl; exact hk) | ((with_reducible apply At.box (d := 2)); exact rfl; exact rfl; exact rfl; intro b2) | ((with_reducible apply At.alloc (d := 6)); exact rfl; exact rfl; intro b6) | (refine zsp ?_ ?_ <;> (intro hc; (try simp only [zhcs, reduceCtorEq] at hc); (try (exfalso; first | omega | contradiction | omega | exact absurd rfl hc | exact absurd (by decide) hc))))))
          all_goals ((with_reducible refine At.reachk (1) ?_ ?_ ?_ ?_); exact zsubs; exact zml; exact zente; exact ⟨⟨h, hn, fun i hi => absurd hi (by omega)⟩, by omega⟩)
        · have hw : IntKind.wrap .i64 (((j + 1 : Nat) : Int) - 1) = (j : Int) := by rw [show (((j + 1 : Nat) : Int) - 1) = (j : Int) by omega]; exact IntWalk.i64_in _ (by omega)
          by_cases hlt : (l[j]!).T < (l[j + 1]!).T
          · have hnn : ∀ i, i + 1 < j + 2 → (l[i]!).T < (l[i + 1]!).T := fun i hi => by
              by_cases e : i = j
              · subst e; exact hlt
              · exact hb i (by omega)
            (repeat' (first | refine zss ?_ | ((first | (with_reducible first | apply At.val | apply AtQ.val)); (exact pr_sub (by rfl) (by rfl) hw); exact rfl) | refine zsM ?_ | ((with_reducible first | apply AtM1.callp | apply AtQ.callp | apply At.callp); kernel_rfl; exact rfl; exact rfl; exact hk) | ((with_reducible apply At.box (d := 2)); exact rfl; exact rfl; exact rfl; intro b2) | ((with_reducible apply At.alloc (d := 6)); exact rfl; exact rfl; intro b6) | (refine zsp ?_ ?_ <;> (intro hc; (try simp only [zhcs, reduceCtorEq] at hc); (try (exfalso; first | omega | contradiction | omega | exact absurd rfl hc | exact absurd (by decide) hc))))))
            all_goals ((with_reducible refine At.reachk ((j + 2)) ?_ ?_ ?_ ?_); exact zsubs; exact zml; exact zente; exact ⟨⟨by omega, hn, hnn⟩, by omega⟩)
          · rw [show chkR lost mark l room = 2 from if_neg fun hh => hlt (hh.2.1.2 j (by omega))]
            (repeat' (first | refine zss ?_ | ((first | (with_reducible first | apply At.val | apply AtQ.val)); (exact pr_sub (by rfl) (by rfl) hw); exact rfl) | refine zsM ?_ | ((with_reducible first | apply AtM1.callp | apply AtQ.callp | apply At.callp); kernel_rfl; exact rfl; exact rfl; exact hk) | ((with_reducible apply At.box (d := 2)); exact rfl; exact rfl; exact rfl; intro b2) | ((with_reducible apply At.alloc (d := 6)); exact rfl; exact rfl; intro b6) | (refine zsp ?_ ?_ <;> (intro hc; (try simp only [zhcs, reduceCtorEq] at hc); (try (exfalso; first | omega | contradiction | omega | exact absurd rfl hc | exact absurd (by decide) hc))))))
            all_goals ((with_reducible apply At.retB1 (B := [])); exact rfl; exact rfl; exact zml; exact zkp; exact ⟨rfl, rfl, rfl⟩)
      · rw [show (l[s]!).chk = 2 from if_neg ho] at hk
        rw [show chkR lost mark l room = 2 from if_neg fun hh => ho (hh.2.1.1 s h)]
        (repeat' (first | refine zss ?_ | refine zsM ?_ | ((with_reducible first | apply AtM1.callp | apply AtQ.callp | apply At.callp); kernel_rfl; exact rfl; exact rfl; exact hk) | ((with_reducible apply At.box (d := 2)); exact rfl; exact rfl; exact rfl; intro b2) | ((with_reducible apply At.alloc (d := 6)); exact rfl; exact rfl; intro b6) | (refine zsp ?_ ?_ <;> (intro hc; (try simp only [zhcs, reduceCtorEq] at hc); (try (exfalso; first | omega | contradiction | omega | exact absurd rfl hc | exact absurd (by decide) hc))))))
        all_goals ((with_reducible apply At.retB1 (B := [])); exact rfl; exact rfl; exact zml; exact zkp; exact ⟨rfl, rfl, rfl⟩)
    · have hr : ris l := ⟨fun i hi => ha i (by omega), fun i hi => hb i (by omega)⟩
      by_cases h1 : mkd lost mark l room
      · rw [show chkR lost mark l room = 0 from if_pos ⟨h0, hr, h1⟩]
        unfold mkd at h1
        by_cases h2 : lost = 0
        · rw [if_pos h2] at h1
          (repeat' (first | refine zss ?_ | refine zsM ?_ | ((with_reducible apply At.box (d := 2)); exact rfl; exact rfl; exact rfl; intro b2) | ((with_reducible apply At.alloc (d := 6)); exact rfl; exact rfl; intro b6) | (refine zsp ?_ ?_ <;> (intro hc; (try simp only [zhcs, reduceCtorEq] at hc); (try (exfalso; first | (first | omega | exact absurd h2 hc) | contradiction | omega | exact absurd rfl hc | exact absurd (by decide) hc))))))
          all_goals ((with_reducible apply At.retB1 (B := [])); exact rfl; exact rfl; exact zml; exact zkp; exact ⟨rfl, rfl, rfl⟩)
        · rw [if_neg h2] at h1
          obtain ⟨e1, e2, e3⟩ := h1
          have e4 : (l[0]!).T < 35184372088832 := (hr.1 0 (by omega)).2.1
          (repeat' (first | refine zss ?_ | ((first | (with_reducible first | apply At.val | apply AtQ.val)); (exact pr_fieldAddr_at (k := 0 * 4) (by rfl) (by rfl)); exact rfl) | refine zsM ?_ | ((with_reducible apply At.box (d := 2)); exact rfl; exact rfl; exact rfl; intro b2) | ((with_reducible apply At.alloc (d := 6)); exact rfl; exact rfl; intro b6) | (refine zsp ?_ ?_ <;> (intro hc; (try simp only [zhcs, reduceCtorEq] at hc); (try (exfalso; first | (first | omega | exact absurd hc h2) | contradiction | omega | exact absurd rfl hc | exact absurd (by decide) hc))))))
          all_goals ((with_reducible apply At.retB1 (B := [])); exact rfl; exact rfl; exact zml; exact zkp; exact ⟨rfl, rfl, rfl⟩)
      · rw [show chkR lost mark l room = 2 from if_neg fun hh => h1 hh.2.2]
        unfold mkd at h1
        by_cases h2 : lost = 0
        · rw [if_pos h2] at h1
          (repeat' (first | refine zss ?_ | refine zsM ?_ | ((with_reducible apply At.box (d := 2)); exact rfl; exact rfl; exact rfl; intro b2) | ((with_reducible apply At.alloc (d := 6)); exact rfl; exact rfl; intro b6) | (refine zsp ?_ ?_ <;> (intro hc; (try simp only [zhcs, reduceCtorEq] at hc); (try (exfalso; first | (first | omega | exact absurd h2 hc) | contradiction | omega | exact absurd rfl hc | exact absurd (by decide) hc))))))
          all_goals ((with_reducible apply At.retB1 (B := [])); exact rfl; exact rfl; exact zml; exact zkp; exact ⟨rfl, rfl, rfl⟩)
        · rw [if_neg h2] at h1
          by_cases h3 : (l.length : Int) = room
          · (repeat' (first | refine zss ?_ | ((first | (with_reducible first | apply At.val | apply AtQ.val)); (exact pr_fieldAddr_at (k := 0 * 4) (by rfl) (by rfl)); exact rfl) | refine zsM ?_ | ((with_reducible apply At.box (d := 2)); exact rfl; exact rfl; exact rfl; intro b2) | ((with_reducible apply At.alloc (d := 6)); exact rfl; exact rfl; intro b6) | (refine zsp ?_ ?_ <;> (intro hc; (try simp only [zhcs, reduceCtorEq] at hc); (try (exfalso; first | (first | omega | exact absurd hc h2) | contradiction | omega | exact absurd rfl hc | exact absurd (by decide) hc))))))
            all_goals ((with_reducible apply At.retB1 (B := [])); exact rfl; exact rfl; exact zml; exact zkp; exact ⟨rfl, rfl, rfl⟩)
          · (repeat' (first | refine zss ?_ | ((first | (with_reducible first | apply At.val | apply AtQ.val)); (exact pr_fieldAddr_at (k := 0 * 4) (by rfl) (by rfl)); exact rfl) | refine zsM ?_ | ((with_reducible apply At.box (d := 2)); exact rfl; exact rfl; exact rfl; intro b2) | ((with_reducible apply At.alloc (d := 6)); exact rfl; exact rfl; intro b6) | (refine zsp ?_ ?_ <;> (intro hc; (try simp only [zhcs, reduceCtorEq] at hc); (try (exfalso; first | (first | omega | exact absurd hc h2) | contradiction | omega | exact absurd rfl hc | exact absurd (by decide) hc))))))
            all_goals ((with_reducible apply At.retB1 (B := [])); exact rfl; exact rfl; exact zml; exact zkp; exact ⟨rfl, rfl, rfl⟩)
  · rw [show chkR lost mark l room = 2 from if_neg (fun h => h0 h.1)]
    unfold bnd at h0
    refine Ct.enterV (by rfl) Tryz.func60 rfl Tryz.ntmps60 rfl (fun w0 Rest => ?_)
    (repeat' (first | refine zss ?_ | refine zsM ?_ | ((with_reducible apply At.box (d := 2)); exact rfl; exact rfl; exact rfl; intro b2) | ((with_reducible apply At.alloc (d := 6)); exact rfl; exact rfl; intro b6) | (refine zsp ?_ ?_ <;> (intro hc; (try simp only [zhcs, reduceCtorEq] at hc); (try (exfalso; first | omega | contradiction | omega | exact absurd rfl hc | exact absurd (by decide) hc))))))
    all_goals ((with_reducible apply At.retB1 (B := [])); exact rfl; exact rfl; exact zml; exact zkp; exact ⟨rfl, rfl, rfl⟩)
end Raw
end Go.Proofs.YtecifniognbomaaGreat

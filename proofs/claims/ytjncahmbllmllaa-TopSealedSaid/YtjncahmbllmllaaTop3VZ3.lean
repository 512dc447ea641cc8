/- Part 3 of what the law's proof needs: rules of the walk, contracts of functions, plain laws. No condition. -/
import Derived.Test.YtjncahmbllmllaaTop3VZ2
import Derived.Test.YtjncahmbllmllaaRows
import Derived.ProofKit
import Derived.OpenShut
import Derived.Below
import Derived.Carry
import Derived.Deep.Slices
import Derived.WideShapes
/- Two rows of labels put together; Sort of many. -/
set_option linter.unusedSimpArgs false
set_option linter.unusedVariables false
set_option linter.unusedSectionVars false
set_option maxRecDepth 20000
set_option maxHeartbeats 4000000
namespace Go.Proofs.Ytjncahmbllmllaa
open Go Go.J
attribute [local irreducible] At AtQ AtM AtM1 PR Ct Pu Rd Res.blk Res.own Res.ex RVs RV Lb.N
namespace Lb
set_option maxHeartbeats 8000000 in
theorem symM (p : Option Addr) (c n : Nat) (hl : n ≤ 1000000) : ∀ (d : Nat) {m : Mem} (a k b : Nat) (l : List Lab), b - a ≤ d → l.length = n → a < k → k < b → b ≤ n →
    Ct Try.prog 61 #[.slice p n c, .int .i64 (a : Int), .int .i64 (k : Int), .int .i64 (b : Int), fnS] m [oL p c l] (fun v m' B => PostN p c n v m m' B)
  | 0, m, a, k, b, l, hd, hn, h1, h2, hb => absurd hd (by omega)
  | d + 1, m, a, k, b, l, hd, hn, h1, h2, hb => by
    have ih := fun {m : Mem} => symM p c n hl d (m := m)
    have wi : IntKind.wrap .i64 ((k : Int) - (a : Int)) = ((k - a : Nat) : Int) := by rw [show (k : Int) - (a : Int) = ((k - a : Nat) : Int) by omega]; exact IntWalk.i64_in _ (by omega)
    have wj : IntKind.wrap .i64 ((b : Int) - (k : Int)) = ((b - k : Nat) : Int) := by rw [show (b : Int) - (k : Int) = ((b - k : Nat) : Int) by omega]; exact IntWalk.i64_in _ (by omega)
    by_cases c1 : k - a = 1
    · refine Ct.enterV (by rfl) Try.func61 rfl Try.ntmps61 rfl (fun w0 Rest => ?_)
      (repeat' (first | refine zss ?_ | ((first | (with_reducible first | apply At.val | apply AtQ.val)); (exact pr_sub (by rfl) (by rfl) wi); exact rfl) | refine zsO ?_ | (refine zsp ?_ ?_ <;> (intro hc; (try simp only [zhcs, reduceCtorEq] at hc); (try (exfalso; first | omega | contradiction | omega | exact absurd rfl hc | exact absurd (by decide) hc))))))
      (refine At.loopk (σ := BSt) [0, 1, 4] (fun s F0 => (10, .int .i64 (s.i : Int)) :: (11, .int .i64 (s.j : Int)) :: F0) (fun s => m) (fun s => oL p c l :: Rest) (fun s => k ≤ s.i ∧ s.i ≤ s.j ∧ s.j ≤ b) (fun s => s.j - s.i) ⟨k, b⟩ (by rfl) ?_ zsubs zml zente ?_)
      · exact ⟨Nat.le_refl _, by show k ≤ b; omega, Nat.le_refl _⟩
      rintro ⟨i, j⟩ ⟨g1, g2, g3⟩
      dsimp only at g1 g2 g3 ⊢
      by_cases e : i < j
      · obtain ⟨x, hx⟩ : ∃ x, (i + j) / 2 = x := ⟨_, rfl⟩
        obtain ⟨u1, u2, u3, u4, u5, u6⟩ := half i j x hx (by omega)
        have hcm := fun (m : Mem) => sortA (m := m) (l[x]!) (l[a]!)
        by_cases e2 : Nm.cmpS l[x]!.n l[a]!.n < 0
        · generalize Nm.cmpS l[x]!.n l[a]!.n = r at hcm e2
          (repeat' (first | ((with_reducible apply At.mixed (id := 5) 11 (.q 0 (.q 1 (.q 2 (.q 3 (.q 4 (.q 5 (.q 6 (.q 7 (.q 8 (.x 9 (.q 10 .done)))))))))))); exact rfl; kernel_rfl; kernel_rfl; kernel_rfl) | ((with_reducible apply At.mixed (id := 11) 18 (.q 0 (.q 1 (.q 2 (.q 3 (.q 4 (.q 5 (.q 6 (.q 7 (.q 8 (.q 9 (.q 10 (.q 11 (.q 12 (.q 13 (.q 14 (.x 15 (.q 16 (.x 17 .done))))))))))))))))))); exact rfl; kernel_rfl; kernel_rfl; kernel_rfl) | ((with_reducible apply At.mixed (id := 17) 12 (.q 0 (.q 1 (.q 2 (.q 3 (.q 4 (.q 5 (.q 6 (.q 7 (.q 8 (.x 9 (.q 10 (.q 11 .done))))))))))))); exact rfl; kernel_rfl; kernel_rfl; kernel_rfl) | ((with_reducible apply At.mixed (id := 23) 18 (.q 0 (.q 1 (.q 2 (.q 3 (.q 4 (.q 5 (.q 6 (.q 7 (.q 8 (.q 9 (.q 10 (.q 11 (.q 12 (.q 13 (.q 14 (.x 15 (.q 16 (.x 17 .done))))))))))))))))))); exact rfl; kernel_rfl; kernel_rfl; kernel_rfl) | ((with_reducible apply At.mixed (id := 35) 14 (.q 0 (.q 1 (.q 2 (.q 3 (.q 4 (.q 5 (.q 6 (.q 7 (.q 8 (.q 9 (.q 10 (.x 11 (.q 12 (.q 13 .done))))))))))))))); exact rfl; kernel_rfl; kernel_rfl; kernel_rfl) | refine zsx ?_ | refine zss ?_ | ((with_reducible apply AtM.bo); exact rfl; exact rfl; exact rfl) | ((first | (with_reducible first | apply At.val | apply AtQ.val) | ((with_reducible first | apply AtM1.valz | apply AtM1.val); exact rfl) | ((with_reducible apply AtM1.val); exact rfl)); (first | exact pr_add (by rfl) (by rfl) u1 | exact pr_add (by rfl) (by rfl) u5 | exact pr_conv ⟨_, rfl⟩ (by rfl) (by rfl) u2 | exact pr_shrv (by rfl) (by rfl) (by omega) (by decide) u3 | exact pr_conv ⟨_, rfl⟩ (by rfl) (by rfl) u4); exact rfl) | refine zsO ?_ | refine zxO ?_ | ((with_reducible apply At.callf); exact rfl; kernel_rfl; exact rfl; exact rfl; exact hcm _; exact ztk; rintro v' m' B' hm' ⟨rfl, rfl, rfl⟩; skip) | (refine zsp ?_ ?_ <;> (intro hc; (try simp only [zhcs, reduceCtorEq] at hc); (try (exfalso; first | omega | contradiction | omega | exact absurd rfl hc | exact absurd (by decide) hc))))))
          all_goals ((with_reducible refine At.reachk ((⟨x + 1, j⟩ : BSt)) ?_ ?_ ?_ ?_); exact zsubs; exact zml; exact zente; exact ⟨⟨by show k ≤ x + 1; omega, by show x + 1 ≤ j; omega, g3⟩, by show j - (x + 1) < j - i; omega⟩)
        · generalize Nm.cmpS l[x]!.n l[a]!.n = r at hcm e2
          (repeat' (first | ((with_reducible apply At.mixed (id := 5) 11 (.q 0 (.q 1 (.q 2 (.q 3 (.q 4 (.q 5 (.q 6 (.q 7 (.q 8 (.x 9 (.q 10 .done)))))))))))); exact rfl; kernel_rfl; kernel_rfl; kernel_rfl) | ((with_reducible apply At.mixed (id := 11) 18 (.q 0 (.q 1 (.q 2 (.q 3 (.q 4 (.q 5 (.q 6 (.q 7 (.q 8 (.q 9 (.q 10 (.q 11 (.q 12 (.q 13 (.q 14 (.x 15 (.q 16 (.x 17 .done))))))))))))))))))); exact rfl; kernel_rfl; kernel_rfl; kernel_rfl) | ((with_reducible apply At.mixed (id := 17) 12 (.q 0 (.q 1 (.q 2 (.q 3 (.q 4 (.q 5 (.q 6 (.q 7 (.q 8 (.x 9 (.q 10 (.q 11 .done))))))))))))); exact rfl; kernel_rfl; kernel_rfl; kernel_rfl) | ((with_reducible apply At.mixed (id := 23) 18 (.q 0 (.q 1 (.q 2 (.q 3 (.q 4 (.q 5 (.q 6 (.q 7 (.q 8 (.q 9 (.q 10 (.q 11 (.q 12 (.q 13 (.q 14 (.x 15 (.q 16 (.x 17 .done))))))))))))))))))); exact rfl; kernel_rfl; kernel_rfl; kernel_rfl) | ((with_reducible apply At.mixed (id := 35) 14 (.q 0 (.q 1 (.q 2 (.q 3 (.q 4 (.q 5 (.q 6 (.q 7 (.q 8 (.q 9 (.q 10 (.x 11 (.q 12 (.q 13 .done))))))))))))))); exact rfl; kernel_rfl; kernel_rfl; kernel_rfl) | refine zsx ?_ | refine zss ?_ | ((with_reducible apply AtM.bo); exact rfl; exact rfl; exact rfl) | ((first | (with_reducible first | apply At.val | apply AtQ.val) | ((with_reducible first | apply AtM1.valz | apply AtM1.val); exact rfl) | ((with_reducible apply AtM1.val); exact rfl)); (first | exact pr_add (by rfl) (by rfl) u1 | exact pr_add (by rfl) (by rfl) u5 | exact pr_conv ⟨_, rfl⟩ (by rfl) (by rfl) u2 | exact pr_shrv (by rfl) (by rfl) (by omega) (by decide) u3 | exact pr_conv ⟨_, rfl⟩ (by rfl) (by rfl) u4); exact rfl) | refine zsO ?_ | refine zxO ?_ | ((with_reducible apply At.callf); exact rfl; kernel_rfl; exact rfl; exact rfl; exact hcm _; exact ztk; rintro v' m' B' hm' ⟨rfl, rfl, rfl⟩; skip) | (refine zsp ?_ ?_ <;> (intro hc; (try simp only [zhcs, reduceCtorEq] at hc); (try (exfalso; first | omega | contradiction | omega | exact absurd rfl hc | exact absurd (by decide) hc))))))
          all_goals ((with_reducible refine At.reachk ((⟨i, x⟩ : BSt)) ?_ ?_ ?_ ?_); exact zsubs; exact zml; exact zente; exact ⟨⟨g1, by show i ≤ x; omega, by show x ≤ b; omega⟩, by show x - i < j - i; omega⟩)
      · have wq : IntKind.wrap .i64 ((i : Int) - 1) = ((i - 1 : Nat) : Int) := by rw [show (i : Int) - 1 = ((i - 1 : Nat) : Int) by omega]; exact IntWalk.i64_in _ (by omega)
        (repeat' (first | refine zss ?_ | refine zsO ?_ | (refine zsp ?_ ?_ <;> (intro hc; (try simp only [zhcs, reduceCtorEq] at hc); (try (exfalso; first | omega | contradiction | omega | exact absurd rfl hc | exact absurd (by decide) hc))))))
        (refine At.loopk (σ := NS) [0, 10] (fun s F0 => (13, .int .i64 (s.i : Int)) :: F0) (fun s => m) (fun s => oL p c s.L :: Rest) (fun s => a ≤ s.i ∧ s.L.length = n) (fun s => n - s.i) ⟨a, l⟩ (by rfl) ?_ zsubs zml zente ?_)
        · exact ⟨Nat.le_refl _, hn⟩
        rintro ⟨q, W⟩ ⟨f1, f2⟩
        dsimp only at f1 f2 ⊢
        by_cases eq : q < i - 1
        · (repeat' (first | ((with_reducible apply At.mixed (id := 5) 11 (.q 0 (.q 1 (.q 2 (.q 3 (.q 4 (.q 5 (.q 6 (.q 7 (.q 8 (.x 9 (.q 10 .done)))))))))))); exact rfl; kernel_rfl; kernel_rfl; kernel_rfl) | ((with_reducible apply At.mixed (id := 11) 18 (.q 0 (.q 1 (.q 2 (.q 3 (.q 4 (.q 5 (.q 6 (.q 7 (.q 8 (.q 9 (.q 10 (.q 11 (.q 12 (.q 13 (.q 14 (.x 15 (.q 16 (.x 17 .done))))))))))))))))))); exact rfl; kernel_rfl; kernel_rfl; kernel_rfl) | ((with_reducible apply At.mixed (id := 17) 12 (.q 0 (.q 1 (.q 2 (.q 3 (.q 4 (.q 5 (.q 6 (.q 7 (.q 8 (.x 9 (.q 10 (.q 11 .done))))))))))))); exact rfl; kernel_rfl; kernel_rfl; kernel_rfl) | ((with_reducible apply At.mixed (id := 23) 18 (.q 0 (.q 1 (.q 2 (.q 3 (.q 4 (.q 5 (.q 6 (.q 7 (.q 8 (.q 9 (.q 10 (.q 11 (.q 12 (.q 13 (.q 14 (.x 15 (.q 16 (.x 17 .done))))))))))))))))))); exact rfl; kernel_rfl; kernel_rfl; kernel_rfl) | ((with_reducible apply At.mixed (id := 35) 14 (.q 0 (.q 1 (.q 2 (.q 3 (.q 4 (.q 5 (.q 6 (.q 7 (.q 8 (.q 9 (.q 10 (.x 11 (.q 12 (.q 13 .done))))))))))))))); exact rfl; kernel_rfl; kernel_rfl; kernel_rfl) | refine zsx ?_ | refine zss ?_ | ((with_reducible apply AtM.bo); exact rfl; exact rfl; exact rfl) | ((first | (with_reducible first | apply At.val | apply AtQ.val) | ((with_reducible first | apply AtM1.valz | apply AtM1.val); exact rfl) | ((with_reducible apply AtM1.val); exact rfl)); (exact pr_sub (by rfl) (by rfl) wq); exact rfl) | refine zsO ?_ | refine zxO ?_ | ((with_reducible apply At.storeW (f := cells) (x' := (W[q + 1]!))); (iterate 3 exact rfl); exact (by repeat constructor); exact rfl; exact inferInstance; exact zom; (iterate 3 exact rfl)) | ((with_reducible apply At.storeW (f := cells) (x' := (W[q]!))); (iterate 3 exact rfl); exact (by repeat constructor); exact rfl; exact inferInstance; exact zom; (iterate 3 exact rfl)) | (refine zsp ?_ ?_ <;> (intro hc; (try simp only [zhcs, reduceCtorEq] at hc); (try (exfalso; first | omega | contradiction | omega | exact absurd rfl hc | exact absurd (by decide) hc))))))
          all_goals ((with_reducible refine At.reachk ((⟨q + 1, (W.set q (W[q + 1]!)).set (q + 1) (W[q]!)⟩ : NS)) ?_ ?_ ?_ ?_); exact zsubs; exact zml; exact zente; exact ⟨⟨by show a ≤ q + 1; omega, by show ((W.set q (W[q + 1]!)).set (q + 1) (W[q]!)).length = n; simp; exact f2⟩, by show n - (q + 1) < n - q; omega⟩)
        · (repeat' (first | refine zss ?_ | ((first | (with_reducible first | apply At.val | apply AtQ.val)); (exact pr_sub (by rfl) (by rfl) wq); exact rfl) | refine zsO ?_ | (refine zsp ?_ ?_ <;> (intro hc; (try simp only [zhcs, reduceCtorEq] at hc); (try (exfalso; first | omega | contradiction | omega | exact absurd rfl hc | exact absurd (by decide) hc))))))
          all_goals ((first | (with_reducible apply At.retB0 (B := [oL p c W])) | (with_reducible apply At.retR0 (B := [oL p c W]))); exact rfl; exact zml; exact zkp; exact ⟨rfl, rfl, _, f2, rfl⟩)
    by_cases c2 : b - k = 1
    · refine Ct.enterV (by rfl) Try.func61 rfl Try.ntmps61 rfl (fun w0 Rest => ?_)
      (repeat' (first | refine zss ?_ | ((first | (with_reducible first | apply At.val | apply AtQ.val)); (first | exact pr_sub (by rfl) (by rfl) wi | exact pr_sub (by rfl) (by rfl) wj); exact rfl) | refine zsO ?_ | (refine zsp ?_ ?_ <;> (intro hc; (try simp only [zhcs, reduceCtorEq] at hc); (try (exfalso; first | omega | contradiction | omega | exact absurd rfl hc | exact absurd (by decide) hc))))))
      (refine At.loopk (σ := BSt) [0, 2, 4] (fun s F0 => (14, .int .i64 (s.i : Int)) :: (15, .int .i64 (s.j : Int)) :: F0) (fun s => m) (fun s => oL p c l :: Rest) (fun s => a ≤ s.i ∧ s.i ≤ s.j ∧ s.j ≤ k) (fun s => s.j - s.i) ⟨a, k⟩ (by rfl) ?_ zsubs zml zente ?_)
      · exact ⟨Nat.le_refl _, by show a ≤ k; omega, Nat.le_refl _⟩
      rintro ⟨i, j⟩ ⟨g1, g2, g3⟩
      dsimp only at g1 g2 g3 ⊢
      by_cases e : i < j
      · obtain ⟨x, hx⟩ : ∃ x, (i + j) / 2 = x := ⟨_, rfl⟩
        obtain ⟨u1, u2, u3, u4, u5, u6⟩ := half i j x hx (by omega)
        have hcm := fun (m : Mem) => sortA (m := m) (l[k]!) (l[x]!)
        by_cases e2 : Nm.cmpS l[k]!.n l[x]!.n < 0
        · generalize Nm.cmpS l[k]!.n l[x]!.n = r at hcm e2
          (repeat' (first | ((with_reducible apply At.mixed (id := 5) 11 (.q 0 (.q 1 (.q 2 (.q 3 (.q 4 (.q 5 (.q 6 (.q 7 (.q 8 (.x 9 (.q 10 .done)))))))))))); exact rfl; kernel_rfl; kernel_rfl; kernel_rfl) | ((with_reducible apply At.mixed (id := 11) 18 (.q 0 (.q 1 (.q 2 (.q 3 (.q 4 (.q 5 (.q 6 (.q 7 (.q 8 (.q 9 (.q 10 (.q 11 (.q 12 (.q 13 (.q 14 (.x 15 (.q 16 (.x 17 .done))))))))))))))))))); exact rfl; kernel_rfl; kernel_rfl; kernel_rfl) | ((with_reducible apply At.mixed (id := 17) 12 (.q 0 (.q 1 (.q 2 (.q 3 (.q 4 (.q 5 (.q 6 (.q 7 (.q 8 (.x 9 (.q 10 (.q 11 .done))))))))))))); exact rfl; kernel_rfl; kernel_rfl; kernel_rfl) | ((with_reducible apply At.mixed (id := 23) 18 (.q 0 (.q 1 (.q 2 (.q 3 (.q 4 (.q 5 (.q 6 (.q 7 (.q 8 (.q 9 (.q 10 (.q 11 (.q 12 (.q 13 (.q 14 (.x 15 (.q 16 (.x 17 .done))))))))))))))))))); exact rfl; kernel_rfl; kernel_rfl; kernel_rfl) | ((with_reducible apply At.mixed (id := 35) 14 (.q 0 (.q 1 (.q 2 (.q 3 (.q 4 (.q 5 (.q 6 (.q 7 (.q 8 (.q 9 (.q 10 (.x 11 (.q 12 (.q 13 .done))))))))))))))); exact rfl; kernel_rfl; kernel_rfl; kernel_rfl) | refine zsx ?_ | refine zss ?_ | ((with_reducible apply AtM.bo); exact rfl; exact rfl; exact rfl) | ((first | (with_reducible first | apply At.val | apply AtQ.val) | ((with_reducible first | apply AtM1.valz | apply AtM1.val); exact rfl) | ((with_reducible apply AtM1.val); exact rfl)); (first | exact pr_add (by rfl) (by rfl) u1 | exact pr_add (by rfl) (by rfl) u5 | exact pr_conv ⟨_, rfl⟩ (by rfl) (by rfl) u2 | exact pr_shrv (by rfl) (by rfl) (by omega) (by decide) u3 | exact pr_conv ⟨_, rfl⟩ (by rfl) (by rfl) u4); exact rfl) | refine zsO ?_ | refine zxO ?_ | ((with_reducible apply At.callf); exact rfl; kernel_rfl; exact rfl; exact rfl; exact hcm _; exact ztk; rintro v' m' B' hm' ⟨rfl, rfl, rfl⟩; skip) | (refine zsp ?_ ?_ <;> (intro hc; (try simp only [zhcs, reduceCtorEq] at hc); (try (exfalso; first | omega | contradiction | omega | exact absurd rfl hc | exact absurd (by decide) hc))))))
          all_goals ((with_reducible refine At.reachk ((⟨i, x⟩ : BSt)) ?_ ?_ ?_ ?_); exact zsubs; exact zml; exact zente; exact ⟨⟨g1, by show i ≤ x; omega, by show x ≤ k; omega⟩, by show x - i < j - i; omega⟩)
        · generalize Nm.cmpS l[k]!.n l[x]!.n = r at hcm e2
          (repeat' (first | ((with_reducible apply At.mixed (id := 5) 11 (.q 0 (.q 1 (.q 2 (.q 3 (.q 4 (.q 5 (.q 6 (.q 7 (.q 8 (.x 9 (.q 10 .done)))))))))))); exact rfl; kernel_rfl; kernel_rfl; kernel_rfl) | ((with_reducible apply At.mixed (id := 11) 18 (.q 0 (.q 1 (.q 2 (.q 3 (.q 4 (.q 5 (.q 6 (.q 7 (.q 8 (.q 9 (.q 10 (.q 11 (.q 12 (.q 13 (.q 14 (.x 15 (.q 16 (.x 17 .done))))))))))))))))))); exact rfl; kernel_rfl; kernel_rfl; kernel_rfl) | ((with_reducible apply At.mixed (id := 17) 12 (.q 0 (.q 1 (.q 2 (.q 3 (.q 4 (.q 5 (.q 6 (.q 7 (.q 8 (.x 9 (.q 10 (.q 11 .done))))))))))))); exact rfl; kernel_rfl; kernel_rfl; kernel_rfl) | ((with_reducible apply At.mixed (id := 23) 18 (.q 0 (.q 1 (.q 2 (.q 3 (.q 4 (.q 5 (.q 6 (.q 7 (.q 8 (.q 9 (.q 10 (.q 11 (.q 12 (.q 13 (.q 14 (.x 15 (.q 16 (.x 17 .done))))))))))))))))))); exact rfl; kernel_rfl; kernel_rfl; kernel_rfl) | ((with_reducible apply At.mixed (id := 35) 14 (.q 0 (.q 1 (.q 2 (.q 3 (.q 4 (.q 5 (.q 6 (.q 7 (.q 8 (.q 9 (.q 10 (.x 11 (.q 12 (.q 13 .done))))))))))))))); exact rfl; kernel_rfl; kernel_rfl; kernel_rfl) | refine zsx ?_ | refine zss ?_ | ((with_reducible apply AtM.bo); exact rfl; exact rfl; exact rfl) | ((first | (with_reducible first | apply At.val | apply AtQ.val) | ((with_reducible first | apply AtM1.valz | apply AtM1.val); exact rfl) | ((with_reducible apply AtM1.val); exact rfl)); (first | exact pr_add (by rfl) (by rfl) u1 | exact pr_add (by rfl) (by rfl) u5 | exact pr_conv ⟨_, rfl⟩ (by rfl) (by rfl) u2 | exact pr_shrv (by rfl) (by rfl) (by omega) (by decide) u3 | exact pr_conv ⟨_, rfl⟩ (by rfl) (by rfl) u4); exact rfl) | refine zsO ?_ | refine zxO ?_ | ((with_reducible apply At.callf); exact rfl; kernel_rfl; exact rfl; exact rfl; exact hcm _; exact ztk; rintro v' m' B' hm' ⟨rfl, rfl, rfl⟩; skip) | (refine zsp ?_ ?_ <;> (intro hc; (try simp only [zhcs, reduceCtorEq] at hc); (try (exfalso; first | omega | contradiction | omega | exact absurd rfl hc | exact absurd (by decide) hc))))))
          all_goals ((with_reducible refine At.reachk ((⟨x + 1, j⟩ : BSt)) ?_ ?_ ?_ ?_); exact zsubs; exact zml; exact zente; exact ⟨⟨by show a ≤ x + 1; omega, by show x + 1 ≤ j; omega, g3⟩, by show j - (x + 1) < j - i; omega⟩)
      · (repeat' (first | refine zss ?_ | refine zsO ?_ | (refine zsp ?_ ?_ <;> (intro hc; (try simp only [zhcs, reduceCtorEq] at hc); (try (exfalso; first | omega | contradiction | omega | exact absurd rfl hc | exact absurd (by decide) hc))))))
        (refine At.loopk (σ := NS) [0, 14] (fun s F0 => (17, .int .i64 (s.i : Int)) :: F0) (fun s => m) (fun s => oL p c s.L :: Rest) (fun s => s.i ≤ k ∧ s.L.length = n) (fun s => s.i) ⟨k, l⟩ (by rfl) ?_ zsubs zml zente ?_)
        · exact ⟨Nat.le_refl _, hn⟩
        rintro ⟨q, W⟩ ⟨f1, f2⟩
        dsimp only at f1 f2 ⊢
        by_cases eq : i < q
        · obtain ⟨q, rfl⟩ : ∃ x, q = x + 1 := ⟨q - 1, by omega⟩
          have wq : IntKind.wrap .i64 (((q + 1 : Nat) : Int) - 1) = (q : Int) := by rw [show ((q + 1 : Nat) : Int) - 1 = (q : Int) by omega]; exact IntWalk.i64_in _ (by omega)
          (repeat' (first | ((with_reducible apply At.mixed (id := 5) 11 (.q 0 (.q 1 (.q 2 (.q 3 (.q 4 (.q 5 (.q 6 (.q 7 (.q 8 (.x 9 (.q 10 .done)))))))))))); exact rfl; kernel_rfl; kernel_rfl; kernel_rfl) | ((with_reducible apply At.mixed (id := 11) 18 (.q 0 (.q 1 (.q 2 (.q 3 (.q 4 (.q 5 (.q 6 (.q 7 (.q 8 (.q 9 (.q 10 (.q 11 (.q 12 (.q 13 (.q 14 (.x 15 (.q 16 (.x 17 .done))))))))))))))))))); exact rfl; kernel_rfl; kernel_rfl; kernel_rfl) | ((with_reducible apply At.mixed (id := 17) 12 (.q 0 (.q 1 (.q 2 (.q 3 (.q 4 (.q 5 (.q 6 (.q 7 (.q 8 (.x 9 (.q 10 (.q 11 .done))))))))))))); exact rfl; kernel_rfl; kernel_rfl; kernel_rfl) | ((with_reducible apply At.mixed (id := 23) 18 (.q 0 (.q 1 (.q 2 (.q 3 (.q 4 (.q 5 (.q 6 (.q 7 (.q 8 (.q 9 (.q 10 (.q 11 (.q 12 (.q 13 (.q 14 (.x 15 (.q 16 (.x 17 .done))))))))))))))))))); exact rfl; kernel_rfl; kernel_rfl; kernel_rfl) | ((with_reducible apply At.mixed (id := 35) 14 (.q 0 (.q 1 (.q 2 (.q 3 (.q 4 (.q 5 (.q 6 (.q 7 (.q 8 (.q 9 (.q 10 (.x 11 (.q 12 (.q 13 .done))))))))))))))); exact rfl; kernel_rfl; kernel_rfl; kernel_rfl) | refine zsx ?_ | refine zss ?_ | ((with_reducible apply AtM.bo); exact rfl; exact rfl; exact rfl) | ((first | (with_reducible first | apply At.val | apply AtQ.val) | ((with_reducible first | apply AtM1.valz | apply AtM1.val); exact rfl) | ((with_reducible apply AtM1.val); exact rfl)); (exact pr_sub (by rfl) (by rfl) wq); exact rfl) | refine zsO ?_ | refine zxO ?_ | ((with_reducible apply At.storeW (f := cells) (x' := (W[q]!))); (iterate 3 exact rfl); exact (by repeat constructor); exact rfl; exact inferInstance; exact zom; (iterate 3 exact rfl)) | ((with_reducible apply At.storeW (f := cells) (x' := (W[q + 1]!))); (iterate 3 exact rfl); exact (by repeat constructor); exact rfl; exact inferInstance; exact zom; (iterate 3 exact rfl)) | (refine zsp ?_ ?_ <;> (intro hc; (try simp only [zhcs, reduceCtorEq] at hc); (try (exfalso; first | omega | contradiction | omega | exact absurd rfl hc | exact absurd (by decide) hc))))))
          all_goals ((with_reducible refine At.reachk ((⟨q, (W.set (q + 1) (W[q]!)).set q (W[q + 1]!)⟩ : NS)) ?_ ?_ ?_ ?_); exact zsubs; exact zml; exact zente; exact ⟨⟨by show q ≤ k; omega, by show ((W.set (q + 1) (W[q]!)).set q (W[q + 1]!)).length = n; simp; exact f2⟩, by show q < q + 1; omega⟩)
        · (repeat' (first | refine zss ?_ | refine zsO ?_ | (refine zsp ?_ ?_ <;> (intro hc; (try simp only [zhcs, reduceCtorEq] at hc); (try (exfalso; first | omega | contradiction | omega | exact absurd rfl hc | exact absurd (by decide) hc))))))
          all_goals ((first | (with_reducible apply At.retB0 (B := [oL p c W])) | (with_reducible apply At.retR0 (B := [oL p c W]))); exact rfl; exact zml; exact zkp; exact ⟨rfl, rfl, _, f2, rfl⟩)
    exact symG p c n d a k b l hl hd hn h1 h2 hb c1 c2 wi wj ih
end Lb
end Go.Proofs.Ytjncahmbllmllaa
/- Sort of more labels than can be right. -/
set_option linter.unusedSimpArgs false
set_option linter.unusedVariables false
set_option linter.unusedSectionVars false
set_option maxRecDepth 20000
set_option maxHeartbeats 4000000
namespace Go.Proofs.Ytjncahmbllmllaa
open Go Go.J
attribute [local irreducible] At AtQ AtM AtM1 PR Ct Pu Rd Res.blk Res.own Res.ex RVs RV Lb.N
namespace Lb
set_option maxHeartbeats 2000000 in
theorem stableG {m : Mem} (p : Option Addr) (c n : Nat) (hl : n ≤ 1000000) :
    Ct Try.prog 56 #[.slice p n c, .int .i64 (n : Int), fnS] m [N p c n] (fun v m' B => v = .tuple #[] ∧ m = m' ∧ B = [N p c n]) := by
  have r1 := fun {m : Mem} (a b : Nat) (ha : a ≤ n) (hb : b ≤ n) => toN (m := m) fun l hl' => insG p c a b n l hl' hb ha hl
  have r2 := fun {m : Mem} (a k b : Nat) (g1 : a < k) (g2 : k < b) (g3 : b ≤ n) => toN (m := m) fun l hl' => symM p c n hl (b - a) a k b l (Nat.le_refl _) hl' g1 g2 g3
  refine Ct.enterV (by rfl) Try.func56 rfl Try.ntmps56 rfl (fun w0 Rest => ?_)
  (repeat' (first | refine zss ?_ | refine zsO ?_ | (refine zsp ?_ ?_ <;> (intro hc; (try simp only [zhcs, reduceCtorEq] at hc); (try (exfalso; first | contradiction | omega | exact absurd rfl hc | exact absurd (by decide) hc))))))
  (refine At.loopk (σ := Nat) [0, 1, 2, 6] (fun s F0 => (7, .int .i64 (s : Int)) :: (8, .int .i64 ((s + 20 : Nat) : Int)) :: F0) (fun s => m) (fun s => N p c n :: Rest) (fun s => s ≤ n) (fun s => n - s) 0 (by rfl) ?_ zsubs zml zente ?_)
  · exact Nat.zero_le _
  rintro a ha
  by_cases h : a + 20 ≤ n
  · (repeat' (first | refine zss ?_ | refine zsO ?_ | ((with_reducible first | apply At.c1 | apply At.c0); exact rfl; exact rfl; exact r1 a (a + 20) (by omega) h; exact ztk; kernel_rfl; rintro v' m' B' hm' ⟨rfl, rfl, rfl⟩; skip; (try (have hq0 : hm' = Mem.le_refl _ := rfl; clear hq0 hm'))) | (refine zsp ?_ ?_ <;> (intro hc; (try simp only [zhcs, reduceCtorEq] at hc); (try (exfalso; first | omega | contradiction | omega | exact absurd rfl hc | exact absurd (by decide) hc))))))
    all_goals ((with_reducible refine At.reachk ((a + 20)) ?_ ?_ ?_ ?_); exact zsubs; exact zml; exact zente; exact ⟨h, by omega⟩)
  · (repeat' (first | refine zss ?_ | refine zsO ?_ | ((with_reducible first | apply At.c1 | apply At.c0); exact rfl; exact rfl; exact r1 a n ha (Nat.le_refl _); exact ztk; kernel_rfl; rintro v' m' B' hm' ⟨rfl, rfl, rfl⟩; skip; (try (have hq0 : hm' = Mem.le_refl _ := rfl; clear hq0 hm'))) | (refine zsp ?_ ?_ <;> (intro hc; (try simp only [zhcs, reduceCtorEq] at hc); (try (exfalso; first | omega | contradiction | omega | exact absurd rfl hc | exact absurd (by decide) hc))))))
    (refine At.loopk (σ := Nat) [0, 1, 2] (fun s F0 => (6, .int .i64 (s : Int)) :: F0) (fun s => m) (fun s => N p c n :: Rest) (fun s => 20 ≤ s ∧ s ≤ 3000000) (fun s => 3000000 - s) 20 (by rfl) ?_ zsubs zml zente ?_)
    · exact ⟨by omega, by omega⟩
    rintro w ⟨w1, w2⟩
    by_cases h2 : w < n
    · have hw2 : IntKind.wrap .i64 (2 * (w : Int)) = ((2 * w : Nat) : Int) := by rw [show 2 * (w : Int) = ((2 * w : Nat) : Int) by omega]; exact IntWalk.i64_in _ (by omega)
      have hw3 : IntKind.wrap .i64 ((w : Int) * 2) = ((w * 2 : Nat) : Int) := by rw [show (w : Int) * 2 = ((w * 2 : Nat) : Int) by omega]; exact IntWalk.i64_in _ (by omega)
      (repeat' (first | refine zss ?_ | ((first | (with_reducible first | apply At.val | apply AtQ.val)); (exact pr_mul (by rfl) (by rfl) hw2); exact rfl) | refine zsO ?_ | (refine zsp ?_ ?_ <;> (intro hc; (try simp only [zhcs, reduceCtorEq] at hc); (try (exfalso; first | omega | contradiction | omega | exact absurd rfl hc | exact absurd (by decide) hc))))))
      (refine At.loopk (σ := Nat) [0, 1, 2, 6] (fun s F0 => (7, .int .i64 (s : Int)) :: (8, .int .i64 ((s + 2 * w : Nat) : Int)) :: F0) (fun s => m) (fun s => N p c n :: Rest) (fun s => s ≤ n) (fun s => n - s) 0 (by rfl) ?_ zsubs zml zente ?_)
      · exact Nat.zero_le _
      rintro b hb
      have g1 : IntKind.wrap .i64 ((b : Int) + (w : Int)) = ((b + w : Nat) : Int) := by rw [← Int.natCast_add]; exact IntWalk.i64_in _ (by omega)
      by_cases h3 : b + 2 * w ≤ n
      · have g2 : IntKind.wrap .i64 (((b + 2 * w : Nat) : Int) + ((2 * w : Nat) : Int)) = ((b + 2 * w + 2 * w : Nat) : Int) := by rw [← Int.natCast_add]; exact IntWalk.i64_in _ (by omega)
        (repeat' (first | refine zss ?_ | ((first | (with_reducible first | apply At.val | apply AtQ.val)); (first | exact pr_add (by rfl) (by rfl) g1 | exact pr_mul (by rfl) (by rfl) hw2 | exact pr_add (by rfl) (by rfl) g2); exact rfl) | refine zsO ?_ | ((with_reducible first | apply At.c1 | apply At.c0); exact rfl; exact rfl; exact r2 b (b + w) (b + 2 * w) (by omega) (by omega) h3; exact ztk; kernel_rfl; rintro v' m' B' hm' ⟨rfl, rfl, rfl⟩; skip; (try (have hq0 : hm' = Mem.le_refl _ := rfl; clear hq0 hm'))) | (refine zsp ?_ ?_ <;> (intro hc; (try simp only [zhcs, reduceCtorEq] at hc); (try (exfalso; first | omega | contradiction | omega | exact absurd rfl hc | exact absurd (by decide) hc))))))
        all_goals ((with_reducible refine At.reachk ((b + 2 * w)) ?_ ?_ ?_ ?_); exact zsubs; exact zml; exact zente; exact ⟨h3, by omega⟩)
      · by_cases h4 : b + w < n
        · (repeat' (first | refine zss ?_ | ((first | (with_reducible first | apply At.val | apply AtQ.val)); (first | exact pr_add (by rfl) (by rfl) g1 | exact pr_mul (by rfl) (by rfl) hw3); exact rfl) | refine zsO ?_ | ((with_reducible first | apply At.c1 | apply At.c0); exact rfl; exact rfl; exact r2 b (b + w) n (by omega) h4 (Nat.le_refl _); exact ztk; kernel_rfl; rintro v' m' B' hm' ⟨rfl, rfl, rfl⟩; skip; (try (have hq0 : hm' = Mem.le_refl _ := rfl; clear hq0 hm'))) | (refine zsp ?_ ?_ <;> (intro hc; (try simp only [zhcs, reduceCtorEq] at hc); (try (exfalso; first | omega | contradiction | omega | exact absurd rfl hc | exact absurd (by decide) hc))))))
          all_goals ((with_reducible refine At.reachk ((w * 2)) ?_ ?_ ?_ ?_); exact zsubs; exact zml; exact zente; exact ⟨⟨by omega, by omega⟩, by omega⟩)
        · (repeat' (first | refine zss ?_ | ((first | (with_reducible first | apply At.val | apply AtQ.val)); (first | exact pr_add (by rfl) (by rfl) g1 | exact pr_mul (by rfl) (by rfl) hw3); exact rfl) | refine zsO ?_ | (refine zsp ?_ ?_ <;> (intro hc; (try simp only [zhcs, reduceCtorEq] at hc); (try (exfalso; first | omega | contradiction | omega | exact absurd rfl hc | exact absurd (by decide) hc))))))
          all_goals ((with_reducible refine At.reachk ((w * 2)) ?_ ?_ ?_ ?_); exact zsubs; exact zml; exact zente; exact ⟨⟨by omega, by omega⟩, by omega⟩)
    · (repeat' (first | refine zss ?_ | refine zsO ?_ | (refine zsp ?_ ?_ <;> (intro hc; (try simp only [zhcs, reduceCtorEq] at hc); (try (exfalso; first | omega | contradiction | omega | exact absurd rfl hc | exact absurd (by decide) hc))))))
      all_goals ((first | (with_reducible apply At.retB0 (B := [N p c n])) | (with_reducible apply At.retR0 (B := [N p c n]))); exact rfl; exact zml; exact zkp; exact ⟨rfl, rfl, rfl⟩)
theorem sortfG {m : Mem} (p : Option Addr) (c n : Nat) (hl : n ≤ 1000000) :
    Ct Try.prog 45 #[.slice p n c, fnS] m [N p c n] (fun v m' B => v = .tuple #[] ∧ m = m' ∧ B = [N p c n]) := by
  have hin := stableG (m := m) p c n hl
  refine Ct.enterV (by rfl) Try.func45 rfl Try.ntmps45 rfl (fun w0 Rest => ?_)
  (repeat' (first | refine zss ?_ | refine zsO ?_ | ((with_reducible first | apply At.c1 | apply At.c0); exact rfl; exact rfl; exact hin; exact ztk; kernel_rfl; rintro v' m' B' hm' ⟨rfl, rfl, rfl⟩; skip; (try (have hq0 : hm' = Mem.le_refl _ := rfl; clear hq0 hm'))) | (refine zsp ?_ ?_ <;> (intro hc; (try simp only [zhcs, reduceCtorEq] at hc); (try (exfalso; first | contradiction | omega | exact absurd rfl hc | exact absurd (by decide) hc))))))
  all_goals ((first | (with_reducible apply At.retB0 (B := [N p c n])) | (with_reducible apply At.retR0 (B := [N p c n]))); exact rfl; exact zml; exact zkp; exact ⟨rfl, rfl, rfl⟩)
theorem sortG0 {m : Mem} (p : Option Addr) (c : Nat) (l : List Lab) (hl : l.length ≤ 1000000) (sl0 : Sl m cells 2 p c l) :
    Ct Try.prog 22 #[.slice p l.length c] m [] (fun v m' B => m = m' ∧ ∃ p2 c2, v = .slice p2 l.length c2 ∧ B = [N p2 c2 l.length]) := by
  have h1 := fun (m : Mem) p c => sortfG (m := m) p c l.length hl
  refine Ct.enterV (by rfl) Try.func22 rfl Try.ntmps22 rfl (fun w0 Rest => ?_)
  (repeat' (first | refine zss ?_ | refine zsO ?_ | (((with_reducible first | apply At.c1 | apply At.c0); exact rfl; exact rfl; exact clone p c l (by omega) sl0; exact ztk; kernel_rfl; rintro v' m' B' hm' ⟨rfl, p2, c2, rfl, rfl⟩; (try replace sl0 := sl0.mono hm'); (try (have hq0 : hm' = Mem.le_refl _ := rfl; clear hq0 hm'))); refine At.ent (N.close (rfl : l.length = l.length) _) ?_) | ((with_reducible first | apply At.c1 | apply At.c0); exact rfl; exact rfl; exact h1 _ p2 c2; exact ztk; kernel_rfl; rintro v' m' B' hm' ⟨rfl, rfl, rfl⟩; (try replace sl0 := sl0.mono hm'); (try (have hq0 : hm' = Mem.le_refl _ := rfl; clear hq0 hm'))) | (refine zsp ?_ ?_ <;> (intro hc; (try simp only [zhcs, reduceCtorEq] at hc); (try (exfalso; first | contradiction | omega | exact absurd rfl hc | exact absurd (by decide) hc))))))
  all_goals ((with_reducible apply At.retB1 (B := [N _ _ _])); exact rfl; exact rfl; exact zml; exact zkp; exact ⟨rfl, _, _, rfl, rfl⟩)
/-- of so many labels, whichever, that stay -/
theorem sortG {m : Mem} (p : Option Addr) (c : Nat) (l : List Lab) (n : Nat) (hn : l.length = n) (hl : n ≤ 1000000) (sl0 : Sl m cells 2 p c l) :
    Ct Try.prog 22 #[.slice p n c] m [] (fun v m' B => B = [] ∧ ∃ (l2 : List Lab) (p2 : Option Addr) (c2 : Nat), v = .slice p2 n c2 ∧ l2.length = n ∧ Sl m' cells 2 p2 c2 l2) := by
  subst hn
  have h := sortG0 p c l hl sl0
  unfold Ct at h ⊢
  intro w0 Rest w hw
  refine (h w0 Rest w hw).mono fun _ _ ⟨v, m2, B, g1, g2, ⟨_, p2, c2, g3, g4⟩, g5⟩ => ?_
  subst g4
  have g6 : HW w0 m2 (N p2 c2 l.length :: Rest) _ := g5
  unfold N at g6
  obtain ⟨l2, hl2, g7⟩ := HW.openx g6
  obtain ⟨m3, hm3, sl, g8⟩ := HW.freeze inferInstance g7
  exact ⟨v, m3, [], g1, Mem.le_trans g2 hm3, ⟨rfl, l2, p2, c2, g3, hl2, sl⟩, g8⟩
end Lb
end Go.Proofs.Ytjncahmbllmllaa
/- The contract of the document's Sort. -/
set_option linter.unusedSimpArgs false
set_option linter.unusedVariables false
set_option linter.unusedSectionVars false
set_option maxRecDepth 20000
set_option maxHeartbeats 4000000
namespace Go.Proofs.Ytjncahmbllmllaa
open Go Go.J
attribute [local irreducible] At AtQ AtM AtM1 PR Ct Pu Rd Res.blk Res.own Res.ex RVs RV
namespace Lb
structure QS where
  (i : Nat) (p : Option Addr) (c : Nat) (M : Mem)
end Lb
end Go.Proofs.Ytjncahmbllmllaa
/- The contracts of matchers: Pick, Exact. -/
set_option linter.unusedSimpArgs false
set_option linter.unusedVariables false
set_option linter.unusedSectionVars false
set_option maxRecDepth 20000
set_option maxHeartbeats 4000000
namespace Go.Proofs.Ytjncahmbllmllaa
open Go Go.J
attribute [local irreducible] At AtQ AtM AtM1 PR Ct Pu Rd Res.blk Res.own Res.ex RVs RV
namespace Mt
abbrev SL := Ls.SX Lab
/-- labels of several, that stay -/
def Lbs (m : Mem) (ls : List SL) : Prop := ∀ i, i < ls.length → ls[i]!.l.length ≤ 1000000000 ∧ Sl m Lb.cells 2 ls[i]!.p ls[i]!.c ls[i]!.l
theorem Lbs.mono {m m' : Mem} {ls : List SL} (h : Lbs m ls) (hm : m.le m') : Lbs m' ls := fun i hi => ⟨(h i hi).1, (h i hi).2.mono hm⟩
def pickI (ms : List Mat) (ls : List SL) (n : Nat) : List Int := ((List.range n).filter fun i : Nat => all ms ls[i]!.l).map fun i : Nat => (i : Int)
theorem pickI_snoc (ms : List Mat) (ls : List SL) (n : Nat) : pickI ms ls (n + 1) = pickI ms ls n ++ if all ms ls[n]!.l then [(n : Int)] else [] := by
  unfold pickI
  rw [List.range_succ, List.filter_append, List.map_append]
  congr 1
  by_cases h : all ms ls[n]!.l = true
  · rw [if_pos h, List.filter_cons_of_pos (p := fun i : Nat => all ms ls[i]!.l) h]; rfl
  · rw [if_neg h, List.filter_cons_of_neg (p := fun i : Nat => all ms ls[i]!.l) h]; rfl
theorem pickI_len (ms : List Mat) (ls : List SL) (n : Nat) : (pickI ms ls n).length ≤ n := by
  unfold pickI
  rw [List.length_map]
  refine Nat.le_trans (List.length_filter_le _ _) ?_
  rw [List.length_range]; exact Nat.le_refl _
def PostI (l : List Int) : Value → Mem → List Res → Prop := fun v m' B => B = [] ∧ ∃ p c, v = .slice p l.length c ∧ Sl m' Ls.fI 1 p c l
structure PS where
  (i : Nat) (p : Option Addr) (c : Nat)
abbrev owI (p : Option Addr) (c : Nat) (l : List Int) : Res := .own Ls.fI 1 3 p c l
theorem pickM {m : Mem} (q : Option Addr) (d : Nat) (ms : List Mat) (q2 : Option Addr) (d2 : Nat) (ls : List SL) (hm : ms.length ≤ 1000000000) (hls : ls.length ≤ 1000000000) (sl0 : Sl m cells 3 q d ms) (sl1 : Sl m Ls.fX 1 q2 d2 ls) (hL : Lbs m ls) :
    Ct Try.prog 10 #[.slice q ms.length d, .slice q2 ls.length d2] m [] (PostI (pickI ms ls ls.length)) := by
  refine Ct.slice (R := fun v p c => v = .slice p (pickI ms ls ls.length).length c) (f := Ls.fI) (sz := 1) (E := 3) (B0 := []) inferInstance ?_
  refine Ct.enterV (by rfl) Try.func10 rfl Try.ntmps10 rfl (fun w0 Rest => ?_)
  (repeat' (first | refine zss ?_ | refine zsM ?_ | (refine zsp ?_ ?_ <;> (intro hc; (try simp only [zhcs, reduceCtorEq] at hc); (try (exfalso; first | contradiction | omega | exact absurd rfl hc | exact absurd (by decide) hc))))))
  refine At.own_nil Ls.fI 1 3 ?_
  (refine At.loopk (σ := PS) [0, 8, 9] (fun s F0 => (5, .slice s.p (pickI ms ls s.i).length s.c) :: (10, .int .i64 (s.i : Int)) :: F0) (fun s => m) (fun s => owI s.p s.c (pickI ms ls s.i) :: Rest) (fun s => s.i ≤ ls.length) (fun s => ls.length - s.i) ⟨0, none, 0⟩ (by rfl) ?_ zsubs zml zente ?_)
  · exact Nat.zero_le _
  rintro ⟨i, p1, c1⟩ hi
  dsimp only at hi ⊢
  by_cases h : i < ls.length
  · have hh := fun (m' : Mem) (hm' : m.le m') => allM (m := m') ls[i]!.p ls[i]!.c ls[i]!.l q d ms (hL i h).1 hm ((hL i h).2.mono hm') (sl0.mono hm')
    have hs := pickI_snoc ms ls i
    have hln := pickI_len ms ls i
    cases e : all ms ls[i]!.l with
    | true =>
      rw [e] at hh hs
      rw [if_pos rfl] at hs
      generalize pickI ms ls i = Y at hs hln ⊢
      (repeat' (first | refine zss ?_ | refine zsM ?_ | ((with_reducible first | apply AtM1.cr | apply AtQ.cr | apply At.cr); exact rfl; exact rfl; exact fun _ hmm => hh _ hmm; exact ztk; kernel_rfl) | ((with_reducible apply At.litF Ls.fI [(i : Int)]); exact inferInstance; (iterate 7 exact rfl); intro b' m' hm' sl2; (try replace sl0 := sl0.mono hm'); (try replace sl1 := sl1.mono hm')) | ((with_reducible apply At.apW (f := Ls.fI) (l := Y)); exact rfl; exact rfl; exact (by repeat constructor); exact inferInstance; exact zrdl; (iterate 4 exact rfl); exact zom; exact rfl; intro p2 c2) | (refine zsp ?_ ?_ <;> (intro hc; (try simp only [zhcs, reduceCtorEq] at hc); (try (exfalso; first | omega | contradiction | omega | exact absurd rfl hc | exact absurd (by decide) hc))))))
      all_goals rw [← hs]
      all_goals ((with_reducible refine At.reachk ((⟨i + 1, p2, c2⟩ : PS)) ?_ ?_ ?_ ?_); exact zsubs; exact zml; exact zente; exact ⟨h, by dsimp only; omega⟩)
    | false =>
      rw [e] at hh hs
      rw [if_neg (by decide), List.append_nil] at hs
      rw [← hs]
      (repeat' (first | refine zss ?_ | refine zsM ?_ | ((with_reducible first | apply AtM1.cr | apply AtQ.cr | apply At.cr); exact rfl; exact rfl; exact fun _ hmm => hh _ hmm; exact ztk; kernel_rfl) | (refine zsp ?_ ?_ <;> (intro hc; (try simp only [zhcs, reduceCtorEq] at hc); (try (exfalso; first | omega | contradiction | omega | exact absurd rfl hc | exact absurd (by decide) hc))))))
      all_goals ((with_reducible refine At.reachk ((⟨i + 1, p1, c1⟩ : PS)) ?_ ?_ ?_ ?_); exact zsubs; exact zml; exact zente; exact ⟨h, by dsimp only; omega⟩)
  · have hi : i = ls.length := by omega
    subst hi
    (repeat' (first | refine zss ?_ | refine zsM ?_ | (refine zsp ?_ ?_ <;> (intro hc; (try simp only [zhcs, reduceCtorEq] at hc); (try (exfalso; first | omega | contradiction | omega | exact absurd rfl hc | exact absurd (by decide) hc))))))
    all_goals ((with_reducible apply At.retB1 (B := [owI p1 c1 (pickI ms ls ls.length)])); exact rfl; exact rfl; exact zml; exact zkp; exact ⟨_, _, rfl, rfl⟩)
end Mt
end Go.Proofs.Ytjncahmbllmllaa
/- The contracts of matchers: Exact. -/
set_option linter.unusedSimpArgs false
set_option linter.unusedVariables false
set_option linter.unusedSectionVars false
set_option maxRecDepth 20000
set_option maxHeartbeats 4000000
namespace Go.Proofs.Ytjncahmbllmllaa
open Go Go.J
attribute [local irreducible] At AtQ AtM AtM1 PR Ct Pu Rd Res.blk Res.own Res.ex RVs RV
namespace Lb
theorem mem_sins {P : List Lab} {x y : Lab} : y ∈ sins P x ↔ y = x ∨ y ∈ P := by
  unfold sins
  rw [List.mem_append, List.mem_append, List.mem_singleton]
  conv => rhs; rw [← List.take_append_drop (atF P x.n P.length) P, List.mem_append]
  constructor
  · rintro ((h | h) | h)
    · exact .inr (.inl h)
    · exact .inl h
    · exact .inr (.inr h)
  · rintro (h | h | h)
    · exact .inl (.inr h)
    · exact .inl (.inl h)
    · exact .inr h
theorem mem_fold {y : Lab} : ∀ (l P : List Lab), y ∈ l.foldl sins P ↔ y ∈ l ∨ y ∈ P
  | [], P => by simp
  | x :: l, P => by
    rw [List.foldl_cons, mem_fold l, mem_sins, List.mem_cons]
    constructor
    · rintro (h | h | h)
      · exact .inl (.inr h)
      · exact .inl (.inl h)
      · exact .inr h
    · rintro ((h | h) | h)
      · exact .inr (.inl h)
      · exact .inl h
      · exact .inr (.inr h)
theorem mem_srt {y : Lab} {l : List Lab} : y ∈ srtL l ↔ y ∈ l := by unfold srtL; rw [mem_fold]; simp
theorem Mid.to {l : List Lab} (h : Mid l) : ∀ x ∈ l, x.n.length ≤ 1000000000000 ∧ x.v.length ≤ 1000000000000 := fun x hx => by
  obtain ⟨i, hi, rfl⟩ := List.mem_iff_getElem.1 hx
  have := h i hi
  rwa [getElem!_pos l i hi] at this
theorem Mid.srt {l : List Lab} (h : Mid l) : Mid (srtL l) := Mid.of fun x hx => h.to x (mem_srt.1 hx)
theorem checkG {m : Mem} (p : Option Addr) (c n : Nat) (l : List Lab) (hn : l.length = n) (h : 16 < n) (sl0 : Sl m cells 2 p c l) :
    Rd Try.prog 7 #[.slice p n c] m [] (.int .i64 8) := by
  unfold Rd
  refine Ct.enterV (by rfl) Try.func7 rfl Try.ntmps7 rfl (fun w0 Rest => ?_)
  (repeat' (first | refine zss ?_ | refine zsM ?_ | ((with_reducible apply At.alloc (d := 5)); exact rfl; exact rfl; intro b5) | (refine zsp ?_ ?_ <;> (intro hc; (try simp only [zhcs, reduceCtorEq] at hc); (try (exfalso; first | omega | contradiction | omega | exact absurd rfl hc | exact absurd (by decide) hc))))))
  all_goals ((with_reducible apply At.retB1 (B := [])); exact rfl; exact rfl; exact zml; exact zkp; exact ⟨rfl, rfl, rfl⟩)
end Lb
namespace Mt
abbrev owL (p : Option Addr) (c : Nat) (l : List Lab) : Res := .own Lb.cells 2 29 p c l
def PostE (l : List Lab) (w : Bool) : Value → Mem → List Res → Prop := fun v m' B => B = [] ∧ ∃ p c, v = .tuple #[.slice p l.length c, .bool w] ∧ Sl m' Lb.cells 2 p c l
def Mids (ms : List Mat) : Prop := ∀ i, i < ms.length → Mid ms[i]!
theorem Mids.lab {ms : List Mat} (h : Mids ms) : Lb.Mid (ms.map lab) := Lb.Mid.of fun x hx => by
  obtain ⟨y, hy, rfl⟩ := List.mem_map.1 hx
  obtain ⟨i, hi, rfl⟩ := List.mem_iff_getElem.1 hy
  have := h i hi
  rwa [getElem!_pos ms i hi] at this
theorem not_right {l : List Lab} (h : 16 < l.length) : ¬ Lb.right l := fun k => by have := k.2.1; omega
theorem lab_snoc {ms : List Mat} {i : Nat} (h : i < ms.length) : (ms.take (i + 1)).map lab = (ms.take i).map lab ++ [lab ms[i]!] := by
  rw [Ls.take_snoc h, List.map_append]; rfl
theorem lab_len (ms : List Mat) (i : Nat) : ((ms.take i).map lab).length ≤ ms.length := by
  rw [List.length_map, List.length_take]; omega
set_option maxHeartbeats 1000000 in
theorem exactM {m : Mem} (q : Option Addr) (d : Nat) (ms : List Mat) (hm : ms.length ≤ 1000000) (hx : Mids ms) (sl0 : Sl m cells 3 q d ms) :
    Ct Try.prog 9 #[.slice q ms.length d] m [] (PostE (exL ms) (exB ms)) := by
  refine Ct.enterV (by rfl) Try.func9 rfl Try.ntmps9 rfl (fun w0 Rest => ?_)
  (repeat' (first | refine zss ?_ | refine zsM ?_ | ((with_reducible apply At.alloc (d := 6)); exact rfl; exact rfl; intro b6) | (refine zsp ?_ ?_ <;> (intro hc; (try simp only [zhcs, reduceCtorEq] at hc); (try (exfalso; first | contradiction | omega | exact absurd rfl hc | exact absurd (by decide) hc))))))
  refine At.own_nil Lb.cells 2 29 ?_
  (refine At.loopk (σ := PS) [7, 8] (fun s F0 => (4, .slice s.p ((ms.take s.i).map lab).length s.c) :: (9, .int .i64 (s.i : Int)) :: F0) (fun s => m) (fun s => owL s.p s.c ((ms.take s.i).map lab) :: Rest) (fun s => s.i ≤ ms.length ∧ ∀ j, j < s.i → ms[j]!.k = 1 ∧ ms[j]!.v ≠ []) (fun s => ms.length - s.i) ⟨0, none, 0⟩ (by rfl) ?_ zsubs zml zente ?_)
  · exact ⟨Nat.zero_le _, fun j h => absurd h (Nat.not_lt_zero j)⟩
  rintro ⟨i, p1, c1⟩ ⟨hi, hn⟩
  dsimp only at hi hn ⊢
  by_cases h : i < ms.length
  · by_cases e : ms[i]!.k = 1 ∧ ms[i]!.v ≠ []
    · have hs := lab_snoc h
      have hln := lab_len ms i
      generalize (ms.take i).map lab = Y at hs hln ⊢
      have e1 := e.1
      have e2 := e.2
      (repeat' (first | refine zss ?_ | refine zsM ?_ | ((with_reducible apply At.litF Lb.cells [lab ms[i]!]); exact inferInstance; (iterate 7 exact rfl); intro b' m' hm' sl2; (try replace sl0 := sl0.mono hm'); (try replace sl3 := sl3.mono hm'); (try replace sl4 := sl4.mono hm')) | ((with_reducible apply At.apW (f := Lb.cells) (l := Y)); exact rfl; exact rfl; exact (by repeat constructor); exact inferInstance; exact zrdl; (iterate 4 exact rfl); exact zom; exact rfl; intro p2 c2) | ((with_reducible apply At.alloc (d := 6)); exact rfl; exact rfl; intro b6) | (refine zsp ?_ ?_ <;> (intro hc; (try simp only [zhcs, reduceCtorEq] at hc); (try (exfalso; first | (first | omega | exact absurd (str_inj (b := []) |>.1 hc) e2) | contradiction | omega | exact absurd rfl hc | exact absurd (by decide) hc))))))
      all_goals rw [← hs]
      all_goals ((with_reducible refine At.reachk ((⟨i + 1, p2, c2⟩ : PS)) ?_ ?_ ?_ ?_); exact zsubs; exact zml; exact zente; exact ⟨⟨h, fun j hj => by
        by_cases e3 : j = i
        · subst e3; exact e
        · exact hn j (by have : j < i + 1 := hj; omega)⟩, by dsimp only; omega⟩)
    · obtain ⟨f1, f2⟩ := ex_no (ms := ms) fun k => e (k.1 i h)
      rw [f1, f2]
      by_cases e1 : ms[i]!.k = 1
      · have e2 : ms[i]!.v = [] := by
          by_cases e2 : ms[i]!.v = []
          · exact e2
          · exact absurd ⟨e1, e2⟩ e
        (repeat' (first | refine zss ?_ | refine zsM ?_ | ((with_reducible apply At.alloc (d := 6)); exact rfl; exact rfl; intro b6) | (refine zsp ?_ ?_ <;> (intro hc; (try simp only [zhcs, reduceCtorEq] at hc); (try (exfalso; first | (first | omega | exact hc (str_inj (b := []) |>.2 e2)) | contradiction | omega | exact absurd rfl hc | exact absurd (by decide) hc))))))
        all_goals ((with_reducible apply At.retV (B := [])); exact rfl; (repeat' (first | exact RVs.nil | (with_reducible apply RVs.cons) | exact rv_tmp (by rfl) | exact rv_cellN (by rfl) (by repeat constructor) (by rfl) (by rfl) (by rfl) | exact rv_cell1 (by rfl) (by repeat constructor) (by rfl) (by rfl))); exact zml; exact zkp; exact ⟨rfl, none, 0, rfl, Sl.empty _ inferInstance⟩)
      · (repeat' (first | refine zss ?_ | refine zsM ?_ | ((with_reducible apply At.alloc (d := 6)); exact rfl; exact rfl; intro b6) | (refine zsp ?_ ?_ <;> (intro hc; (try simp only [zhcs, reduceCtorEq] at hc); (try (exfalso; first | omega | contradiction | omega | exact absurd rfl hc | exact absurd (by decide) hc))))))
        all_goals ((with_reducible apply At.retV (B := [])); exact rfl; (repeat' (first | exact RVs.nil | (with_reducible apply RVs.cons) | exact rv_tmp (by rfl) | exact rv_cellN (by rfl) (by repeat constructor) (by rfl) (by rfl) (by rfl) | exact rv_cell1 (by rfl) (by repeat constructor) (by rfl) (by rfl))); exact zml; exact zkp; exact ⟨rfl, none, 0, rfl, Sl.empty _ inferInstance⟩)
  · have hi : i = ms.length := by omega
    subst hi
    rw [List.take_length]
    have hle : (ms.map lab).length = ms.length := List.length_map ..
    have heq : eqs ms := hn
    have hmid := hx.lab
    have hsl := len_lab ms
    have hno := ex_no (ms := ms)
    have hyes := ex_yes (ms := ms)
    have hcn := @Lb.chk_right (Lb.srtL (ms.map lab))
    generalize hY : ms.map lab = Y at hle hmid hsl hno hyes hcn ⊢
    clear hn
    by_cases h16 : ms.length ≤ 16
    · have h1 := fun (m' : Mem) (sl : Sl m' Lb.cells 2 p1 c1 Y) => Lb.sortX p1 c1 Y (by omega) sl
      have h2 := fun (m' : Mem) p c sl => Lb.check (m := m') p c (Lb.srtL Y) hmid.srt sl
      by_cases hr : Lb.right (Lb.srtL Y)
      · rw [Lb.chk_ok hr] at h2
        rw [(hyes ⟨heq, hr⟩).1, (hyes ⟨heq, hr⟩).2]
        generalize Lb.srtL Y = Z at h1 h2 hsl ⊢
        (refine At.own_freeze inferInstance (by repeat constructor) fun m' hm' sl3 => ?_; (try replace sl0 := sl0.mono hm'); (try replace sl2 := sl2.mono hm'); (try replace sl4 := sl4.mono hm'))
        (repeat' (first | refine zss ?_ | refine zsM ?_ | ((with_reducible first | apply At.c1 | apply At.c0); exact rfl; exact rfl; exact h1 _ sl3; exact ztk; kernel_rfl; rintro v' m' B' hm' ⟨rfl, p2, c2, rfl, sl4⟩; (try replace sl0 := sl0.mono hm'); (try replace sl2 := sl2.mono hm'); (try replace sl3 := sl3.mono hm'); (try replace sl4 := sl4.mono hm'); (try (have hq0 : hm' = Mem.le_refl _ := rfl; clear hq0 hm'))) | ((with_reducible first | apply AtM1.cr | apply AtQ.cr | apply At.cr); exact rfl; exact rfl; exact fun _ hmm => h2 _ _ _ (sl4.mono hmm); exact ztk; kernel_rfl) | ((with_reducible apply At.alloc (d := 6)); exact rfl; exact rfl; intro b6) | (refine zsp ?_ ?_ <;> (intro hc; (try simp only [zhcs, reduceCtorEq] at hc); (try (exfalso; first | omega | contradiction | omega | exact absurd rfl hc | exact absurd (by decide) hc))))))
        all_goals ((with_reducible apply At.retV (B := [])); exact rfl; (repeat' (first | exact RVs.nil | (with_reducible apply RVs.cons) | exact rv_tmp (by rfl) | exact rv_cellN (by rfl) (by repeat constructor) (by rfl) (by rfl) (by rfl) | exact rv_cell1 (by rfl) (by repeat constructor) (by rfl) (by rfl))); exact zml; exact zkp; exact ⟨rfl, p2, c2, rfl, sl4⟩)
      · rw [(hno fun k => hr k.2).1, (hno fun k => hr k.2).2]
        have hcz : Lb.chk (Lb.srtL Y) ≠ 0 := fun k => hr (hcn.1 k)
        generalize Lb.chk (Lb.srtL Y) = r at h2 hcz
        generalize Lb.srtL Y = Z at h1 h2 hsl
        (refine At.own_freeze inferInstance (by repeat constructor) fun m' hm' sl3 => ?_; (try replace sl0 := sl0.mono hm'); (try replace sl2 := sl2.mono hm'); (try replace sl4 := sl4.mono hm'))
        (repeat' (first | refine zss ?_ | refine zsM ?_ | ((with_reducible first | apply At.c1 | apply At.c0); exact rfl; exact rfl; exact h1 _ sl3; exact ztk; kernel_rfl; rintro v' m' B' hm' ⟨rfl, p2, c2, rfl, sl4⟩; (try replace sl0 := sl0.mono hm'); (try replace sl2 := sl2.mono hm'); (try replace sl3 := sl3.mono hm'); (try replace sl4 := sl4.mono hm'); (try (have hq0 : hm' = Mem.le_refl _ := rfl; clear hq0 hm'))) | ((with_reducible first | apply AtM1.cr | apply AtQ.cr | apply At.cr); exact rfl; exact rfl; exact fun _ hmm => h2 _ _ _ (sl4.mono hmm); exact ztk; kernel_rfl) | ((with_reducible apply At.alloc (d := 6)); exact rfl; exact rfl; intro b6) | (refine zsp ?_ ?_ <;> (intro hc; (try simp only [zhcs, reduceCtorEq] at hc); (try (exfalso; first | omega | contradiction | omega | exact absurd rfl hc | exact absurd (by decide) hc))))))
        all_goals ((with_reducible apply At.retV (B := [])); exact rfl; (repeat' (first | exact RVs.nil | (with_reducible apply RVs.cons) | exact rv_tmp (by rfl) | exact rv_cellN (by rfl) (by repeat constructor) (by rfl) (by rfl) (by rfl) | exact rv_cell1 (by rfl) (by repeat constructor) (by rfl) (by rfl))); exact zml; exact zkp; exact ⟨rfl, none, 0, rfl, Sl.empty _ inferInstance⟩)
    · have hr : ¬ Lb.right (Lb.srtL Y) := not_right (by omega)
      rw [(hno fun k => hr k.2).1, (hno fun k => hr k.2).2]
      have h1 := fun (m' : Mem) (sl : Sl m' Lb.cells 2 p1 c1 Y) => Lb.sortG p1 c1 Y Y.length rfl (by omega) sl
      have h2 := fun (m' : Mem) p c l hl sl => Lb.checkG (m := m') p c Y.length l hl (by omega) sl
      (refine At.own_freeze inferInstance (by repeat constructor) fun m' hm' sl3 => ?_; (try replace sl0 := sl0.mono hm'); (try replace sl2 := sl2.mono hm'); (try replace sl4 := sl4.mono hm'))
      (repeat' (first | refine zss ?_ | refine zsM ?_ | ((with_reducible first | apply At.c1 | apply At.c0); exact rfl; exact rfl; exact h1 _ sl3; exact ztk; kernel_rfl; rintro v' m' B' hm' ⟨rfl, l2, p2, c2, rfl, hl2, sl4⟩; (try replace sl0 := sl0.mono hm'); (try replace sl2 := sl2.mono hm'); (try replace sl3 := sl3.mono hm'); (try replace sl4 := sl4.mono hm'); (try (have hq0 : hm' = Mem.le_refl _ := rfl; clear hq0 hm'))) | ((with_reducible first | apply AtM1.cr | apply AtQ.cr | apply At.cr); exact rfl; exact rfl; exact fun _ hmm => h2 _ p2 c2 l2 hl2 (sl4.mono hmm); exact ztk; kernel_rfl) | ((with_reducible apply At.alloc (d := 6)); exact rfl; exact rfl; intro b6) | (refine zsp ?_ ?_ <;> (intro hc; (try simp only [zhcs, reduceCtorEq] at hc); (try (exfalso; first | omega | contradiction | omega | exact absurd rfl hc | exact absurd (by decide) hc))))))
      all_goals ((with_reducible apply At.retV (B := [])); exact rfl; (repeat' (first | exact RVs.nil | (with_reducible apply RVs.cons) | exact rv_tmp (by rfl) | exact rv_cellN (by rfl) (by repeat constructor) (by rfl) (by rfl) (by rfl) | exact rv_cell1 (by rfl) (by repeat constructor) (by rfl) (by rfl))); exact zml; exact zkp; exact ⟨rfl, none, 0, rfl, Sl.empty _ inferInstance⟩)
end Mt
end Go.Proofs.Ytjncahmbllmllaa
/- MatchTells: the walk. -/
set_option linter.unusedSimpArgs false
set_option linter.unusedVariables false
set_option linter.unusedSectionVars false
set_option maxRecDepth 20000
set_option maxHeartbeats 4000000
namespace Go.Proofs.Ytjncahmbllmllaa
open Go Go.J
attribute [local irreducible] At AtQ AtM AtM1 PR Ct Pu Rd Res.blk Res.own Res.ex RVs RV
namespace Mt
abbrev eM : Mat := ⟨1, [97], [120, 121]⟩
abbrev oM : Mat := ⟨2, [99], []⟩
abbrev bM : Mat := ⟨3, [97], [120]⟩
abbrev zM : Mat := ⟨0, [], []⟩
abbrev lA : List Lab := [⟨[97], [120, 121]⟩]
theorem hitC {m : Mem} (x : Mat) (p : Option Addr) (c n : Nat) (l : List Lab) (w : Bool) (hl : l.length ≤ 1000000000) (hn : l.length = n) (hw : hit x l = w) (sl0 : Sl m Lb.cells 2 p c l) :
    Rd Try.prog 18 #[x.val, .slice p n c] m [] (.bool w) := by subst hn hw; exact hits x p c l hl sl0
theorem allC {m : Mem} (p : Option Addr) (c n : Nat) (l : List Lab) (q : Option Addr) (d k : Nat) (ms : List Mat) (w : Bool) (hl : l.length ≤ 1000000000) (hm : ms.length ≤ 1000000000) (hn : l.length = n) (hk : ms.length = k) (hw : all ms l = w) (sl0 : Sl m Lb.cells 2 p c l) (sl1 : Sl m cells 3 q d ms) :
    Rd Try.prog 13 #[.slice q k d, .slice p n c] m [] (.bool w) := by subst hn hk hw; exact allM p c l q d ms hl hm sl0 sl1
theorem checkC {m : Mem} (q : Option Addr) (d n : Nat) (ms : List Mat) (w : Int) (hn : ms.length = n) (hm : ms.length ≤ 1000000000) (hx : ∀ i, i < ms.length → Mid ms[i]!) (hw : chk ms = w) (sl1 : Sl m cells 3 q d ms) :
    Rd Try.prog 12 #[.slice q n d] m [] (.int .i64 w) := by subst hn hw; exact checkM q d ms hm hx sl1
theorem exactC {m : Mem} (q : Option Addr) (d k : Nat) (ms : List Mat) (l : List Lab) (n : Nat) (w : Bool) (hm : ms.length ≤ 1000000) (hx : Mids ms) (hk : ms.length = k) (h1 : exL ms = l) (h2 : exB ms = w) (h3 : l.length = n) (sl0 : Sl m cells 3 q d ms) :
    Ct Try.prog 9 #[.slice q k d] m [] (fun v m' B => B = [] ∧ ∃ p c, v = .tuple #[.slice p n c, .bool w] ∧ Sl m' Lb.cells 2 p c l) := by subst hk h1 h2 h3; exact exactM q d ms hm hx sl0
theorem pickC {m : Mem} (q : Option Addr) (d k : Nat) (ms : List Mat) (q2 : Option Addr) (d2 k2 : Nat) (ls : List SL) (l : List Int) (n : Nat) (hm : ms.length ≤ 1000000000) (hls : ls.length ≤ 1000000000) (hk : ms.length = k) (hk2 : ls.length = k2) (hw : pickI ms ls ls.length = l) (hn : l.length = n) (sl0 : Sl m cells 3 q d ms) (sl1 : Sl m Ls.fX 1 q2 d2 ls) (hL : Lbs m ls) :
    Ct Try.prog 10 #[.slice q k d, .slice q2 k2 d2] m [] (fun v m' B => B = [] ∧ ∃ p c, v = .slice p n c ∧ Sl m' Ls.fI 1 p c l) := by subst hn hw hk hk2; exact pickM q d ms q2 d2 ls hm hls sl0 sl1 hL
theorem mids1 (x : Mat) (h : Mid x) : Mids [x] := fun i hi => by
  have : i = 0 := by simpa using hi
  subst this; exact h
theorem lbs3 {m : Mem} {p : Option Addr} {c : Nat} (h : Sl m Lb.cells 2 p c lA) : Lbs m [⟨[], none, 0⟩, ⟨lA, p, c⟩, ⟨lA, p, c⟩] := fun i hi => by
  have : i = 0 ∨ i = 1 ∨ i = 2 := by have : i < 3 := hi; omega
  rcases this with rfl | rfl | rfl
  · exact ⟨Nat.zero_le _, Sl.empty _ inferInstance⟩
  · exact ⟨(by decide : 1 ≤ 1000000000), h⟩
  · exact ⟨(by decide : 1 ≤ 1000000000), h⟩
theorem mids3 : Mids [eM, oM, bM] := fun i hi => by
  have : i = 0 ∨ i = 1 ∨ i = 2 := by have : i < 3 := hi; omega
  rcases this with rfl | rfl | rfl <;> exact ⟨by decide, by decide⟩
theorem pick3 {p : Option Addr} {c : Nat} : pickI [eM] [⟨[], none, 0⟩, ⟨lA, p, c⟩, ⟨lA, p, c⟩] 3 = [1, 2] := by
  rw [pickI_snoc, pickI_snoc, pickI_snoc]
  rw [show all [eM] ([⟨[], none, 0⟩, ⟨lA, p, c⟩, ⟨lA, p, c⟩] : List SL)[0]!.l = all [eM] [] from rfl, show all [eM] ([⟨[], none, 0⟩, ⟨lA, p, c⟩, ⟨lA, p, c⟩] : List SL)[1]!.l = all [eM] lA from rfl, show all [eM] ([⟨[], none, 0⟩, ⟨lA, p, c⟩, ⟨lA, p, c⟩] : List SL)[2]!.l = all [eM] lA from rfl]
  rw [show all [eM] [] = false by decide, show all [eM] lA = true by decide]
  rfl
end Mt
end Go.Proofs.Ytjncahmbllmllaa
/- Labels (plain): what Sort makes of any order of right ones; bytes there and back. -/
set_option linter.unusedSimpArgs false
set_option linter.unusedVariables false
set_option linter.unusedSectionVars false
set_option maxRecDepth 20000
set_option maxHeartbeats 4000000
namespace Go.Proofs.Ytjncahmbllmllaa
open Go Go.J
namespace Lb
theorem perm_sins (P : List Lab) (x : Lab) : (sins P x).Perm (x :: P) := by
  unfold sins
  rw [List.append_assoc]
  refine List.Perm.trans (List.perm_middle (l₁ := P.take (atF P x.n P.length)) (a := x) (l₂ := P.drop (atF P x.n P.length))) ?_
  rw [List.take_append_drop]
theorem perm_fold : ∀ (l P : List Lab), (l.foldl sins P).Perm (l ++ P)
  | [], P => List.Perm.refl _
  | x :: l, P => by
    refine List.Perm.trans (perm_fold l (sins P x)) ?_
    refine List.Perm.trans (List.Perm.append_left l (perm_sins P x)) ?_
    exact List.perm_middle
theorem perm_srt (l : List Lab) : (srtL l).Perm l := by
  have := perm_fold l []
  rw [List.append_nil] at this
  exact this
/-- no name is above a later one's -/
def Asc (l : List Lab) : Prop := l.Pairwise fun a b => ltB b.n a.n = false
theorem le_lt {a b c : List UInt8} (h1 : ltB b a = false) (h2 : ltB b c = true) : ltB a c = true := by
  rcases ltB_tri a b with h | h | h
  · exact ltB_trans h h2
  · subst h; exact h2
  · rw [h] at h1; cases h1
theorem lt_le {a b c : List UInt8} (h1 : ltB a b = true) (h2 : ltB c b = false) : ltB a c = true := by
  rcases ltB_tri b c with h | h | h
  · exact ltB_trans h1 h
  · subst h; exact h1
  · rw [h] at h2; cases h2
theorem atF_hi (P : List Lab) (t : List UInt8) : ∀ k, ∀ j, atF P t k ≤ j → j < k → ltB t P[j]!.n = true
  | 0, _, _, h => absurd h (Nat.not_lt_zero _)
  | k + 1, j, h1, h2 => by
    cases e : ltB t P[k]!.n with
    | true =>
      rw [atF_dn e] at h1
      by_cases hj : j = k
      · subst hj; exact e
      · exact atF_hi P t k j h1 (by omega)
    | false =>
      rw [atF_st e] at h1
      omega
theorem atF_lo (P : List Lab) (t : List UInt8) : ∀ k, 0 < atF P t k → ltB t P[atF P t k - 1]!.n = false
  | 0, h => absurd h (Nat.lt_irrefl 0)
  | k + 1, h => by
    cases e : ltB t P[k]!.n with
    | true => rw [atF_dn e] at h ⊢; exact atF_lo P t k h
    | false => rw [atF_st e]; exact e
theorem asc_sins {P : List Lab} (h : Asc P) (x : Lab) : Asc (sins P x) := by
  have hle := atF_le P x.n P.length
  have hhi := atF_hi P x.n P.length
  have hlo := atF_lo P x.n P.length
  unfold sins
  generalize atF P x.n P.length = k at hle hhi hlo
  have hp : (P.take k ++ P.drop k).Pairwise fun a b => ltB b.n a.n = false := by rw [List.take_append_drop]; exact h
  rw [List.pairwise_append] at hp
  obtain ⟨h1, h2, h3⟩ := hp
  have hx1 : ∀ a ∈ P.take k, ltB x.n a.n = false := fun a ha => by
    obtain ⟨i, hi, rfl⟩ := List.mem_iff_getElem.1 ha
    rw [List.length_take] at hi
    have hi' : i < k := by omega
    have hl := hlo (by omega)
    cases e : ltB x.n (P.take k)[i].n with
    | false => rfl
    | true =>
      rw [List.getElem_take] at e
      by_cases hik : i = k - 1
      · subst hik; rw [getElem!_pos P (k - 1) (by omega), e] at hl; cases hl
      · have hq := (List.pairwise_iff_getElem.1 h) i (k - 1) (by omega) (by omega) (by omega)
        have := lt_le e hq
        rw [getElem!_pos P (k - 1) (by omega), this] at hl; cases hl
  have hx2 : ∀ b ∈ P.drop k, ltB b.n x.n = false := fun b hb => by
    obtain ⟨i, hi, rfl⟩ := List.mem_iff_getElem.1 hb
    rw [List.length_drop] at hi
    have := hhi (k + i) (by omega) (by omega)
    rw [List.getElem_drop]
    rw [getElem!_pos P (k + i) (by omega)] at this
    exact ltB_asymm this
  unfold Asc
  rw [List.append_assoc, List.pairwise_append]
  refine ⟨h1, ?_, fun a ha b hb => ?_⟩
  · rw [List.singleton_append, List.pairwise_cons]
    exact ⟨fun b hb => hx2 b hb, h2⟩
  · rw [List.singleton_append, List.mem_cons] at hb
    rcases hb with rfl | hb
    · exact hx1 a ha
    · exact h3 a ha b hb
theorem asc_fold : ∀ (l P : List Lab), Asc P → Asc (l.foldl sins P)
  | [], _, h => h
  | x :: l, P, h => asc_fold l (sins P x) (asc_sins h x)
theorem asc_srt (l : List Lab) : Asc (srtL l) := asc_fold l [] List.Pairwise.nil
theorem uniq : ∀ (l m : List Lab), l.Pairwise (fun a b => ltB a.n b.n = true) → Asc m → m.Perm l → m = l
  | [], m, _, _, hp => List.Perm.eq_nil hp
  | a :: l, [], _, _, hp => absurd (List.Perm.length_eq hp) (by simp)
  | a :: l, b :: m, h1, h2, hp => by
    have h1' := List.pairwise_cons.1 h1
    have h2' := List.pairwise_cons.1 h2
    have e : b = a := by
      by_cases e : b = a
      · exact e
      · have hb : b ∈ l := by
          have := hp.subset (List.mem_cons_self (a := b) (l := m))
          rcases List.mem_cons.1 this with k | k
          · exact absurd k e
          · exact k
        have ha : a ∈ m := by
          have := hp.symm.subset (List.mem_cons_self (a := a) (l := l))
          rcases List.mem_cons.1 this with k | k
          · exact absurd k.symm e
          · exact k
        have g1 := h1'.1 b hb
        have g2 := h2'.1 a ha
        rw [g1] at g2; cases g2
    subst e
    rw [uniq l m h1'.2 h2'.2 (List.Perm.cons_inv hp)]
theorem right_pw {l : List Lab} (h : right l) : l.Pairwise fun a b => ltB a.n b.n = true := by
  rw [List.pairwise_iff_getElem]
  intro i j hi hj hij
  have key : ∀ (d i : Nat), i + d + 1 < l.length → ltB l[i]!.n l[i + d + 1]!.n = true := by
    intro d
    induction d with
    | zero =>
      intro i hi
      have := (of_decide_eq_true (h.2.2.1 (i + 0 + 1) hi)).2.2 (by omega)
      rw [show i + 0 + 1 - 1 = i by omega] at this
      exact this
    | succ d ih =>
      intro i hi
      have h1 := ih i (by omega)
      have h2 := (of_decide_eq_true (h.2.2.1 (i + (d + 1) + 1) hi)).2.2 (by omega)
      rw [show i + (d + 1) + 1 - 1 = i + d + 1 by omega] at h2
      exact ltB_trans h1 h2
  have := key (j - i - 1) i (by omega)
  rw [show i + (j - i - 1) + 1 = j by omega, getElem!_pos l i hi, getElem!_pos l j hj] at this
  exact this
theorem srt_right {l m : List Lab} (h : right l) (hp : m.Perm l) : srtL m = l := uniq l (srtL m) (right_pw h) (asc_srt m) (List.Perm.trans (perm_srt m) hp)
/-- from one on, round -/
def rot (l : List Lab) (k : Nat) : List Lab := l.drop k ++ l.take k
theorem rot_perm (l : List Lab) (k : Nat) : (rot l k).Perm l := by
  have := List.perm_append_comm (l₁ := l.drop k) (l₂ := l.take k)
  rwa [List.take_append_drop] at this
theorem rot_len (l : List Lab) (k : Nat) : (rot l k).length = l.length := (rot_perm l k).length_eq
theorem rot_at {l : List Lab} {k i : Nat} (hk : k ≤ l.length) (hi : i < l.length) : l[(i + k) % l.length]! = (rot l k)[i]! := by
  have hr := rot_len l k
  rw [getElem!_pos (rot l k) i (by omega), getElem!_pos l ((i + k) % l.length) (Nat.mod_lt _ (by omega))]
  unfold rot
  by_cases h : i < l.length - k
  · rw [List.getElem_append_left (by rw [List.length_drop]; exact h), List.getElem_drop]
    congr 1
    rw [Nat.mod_eq_of_lt (by omega)]; omega
  · rw [List.getElem_append_right (by rw [List.length_drop]; omega), List.getElem_take]
    congr 1
    rw [List.length_drop, Nat.mod_eq_sub_mod (by omega), Nat.mod_eq_of_lt (by omega)]; omega
end Lb
end Go.Proofs.Ytjncahmbllmllaa
/- The contracts of the package codec and of its reference: what is written, what is read. -/
set_option linter.unusedSimpArgs false
set_option linter.unusedVariables false
set_option linter.unusedSectionVars false
set_option maxRecDepth 20000
set_option maxHeartbeats 4000000
namespace Go.Proofs.Ytjncahmbllmllaa
open Go Go.J
attribute [local irreducible] At AtQ AtM AtM1 PR Ct Pu Rd Res.blk Res.own Res.ex RVs RV

namespace Cod
abbrev ptr (b : Nat) : Value := .pointer (some ⟨b, 0, none⟩)
def uintB (n : Nat) : List UInt8 := if n < 128 then [UInt8.ofNat n] else UInt8.ofNat (n % 128 + 128) :: uintB (n / 128)
termination_by n
decreasing_by omega
theorem uintB_lt {n : Nat} (h : n < 128) : uintB n = [UInt8.ofNat n] := by rw [uintB, if_pos h]
theorem uintB_ge {n : Nat} (h : ¬ n < 128) : uintB n = UInt8.ofNat (n % 128 + 128) :: uintB (n / 128) := by rw [uintB, if_neg h]
theorem uintB_pos (n : Nat) : 1 ≤ (uintB n).length := by
  by_cases h : n < 128
  · rw [uintB_lt h]; simp
  · rw [uintB_ge h]; simp
theorem uintB_len : ∀ (k n : Nat), n < 128 ^ k → (uintB n).length ≤ max k 1
  | 0, n, h => by rw [uintB_lt (by simp at h; omega)]; exact Nat.le_refl 1
  | k + 1, n, h => by
    by_cases h1 : n < 128
    · rw [uintB_lt h1]; show 1 ≤ max (k + 1) 1; omega
    · rw [uintB_ge h1, List.length_cons]
      have := uintB_len k (n / 128) (by rw [Nat.pow_succ] at h; omega)
      by_cases hk : k = 0
      · subst hk; simp at h; omega
      · omega
theorem uintB_len10 {n : Nat} (h : n < 18446744073709551616) : (uintB n).length ≤ 10 := by
  have := uintB_len 10 n (by omega)
  omega
theorem bI_of {n : Nat} (h : n < 256) : bI (UInt8.ofNat n) = (n : Int) := by
  unfold bI
  rw [UInt8.toNat_ofNat_of_lt' (by show n < 256; omega)]
theorem or128 (n : Nat) : bits .or .u8 ((n : Int) % 256) 128 = bI (UInt8.ofNat (n % 128 + 128)) := by
  rw [bI_of (by omega), u8_or _ _ (by omega) (by omega) (by omega) (by omega)]
  have e : ((n : Int) % 256).toNat = n % 256 := by omega
  rw [e, show ((128 : Int)).toNat = 128 from rfl]
  have : n % 256 ||| 128 = n % 128 + 128 := by
    have h2 : n % 256 % 128 ||| 128 = n % 256 % 128 + 128 := by rw [Nat.or_comm, nat_join 7 128 (n % 256 % 128) (by decide) (by omega)]; omega
    rcases Nat.lt_or_ge (n % 256) 128 with h | h
    · rw [Nat.mod_eq_of_lt h] at h2; rw [h2]; omega
    · have h3 : n % 256 = 128 + n % 256 % 128 := by omega
      have h4 : 128 ||| (n % 256 % 128) = 128 + n % 256 % 128 := nat_join 7 128 _ (by decide) (by omega)
      rw [h3, ← h4, Nat.or_assoc, Nat.or_comm _ 128, ← Nat.or_assoc, Nat.or_self, h4]; omega
  rw [this]

/-- a writer's block, and its bytes -/
abbrev wr (b : Nat) (p : Option Addr) (c : Nat) (L : List Int) : List Res := [.blk b 67 [.slice p L.length c], .own fb 1 5 p c L]
def W (b : Nat) (l : List UInt8) : Res := .ex (σ := Option Addr × Nat) (fun _ => True) (fun s => wr b s.1 s.2 (l.map bI))
theorem W.open {m : Mem} {f : FuncId} {args : Array Value} {b : Nat} {l : List UInt8} {Q : Value → Mem → List Res → Prop} (h : ∀ p c, Ct Try.prog f args m (wr b p c (l.map bI)) Q) : Ct Try.prog f args m [W b l] Q := Ct.openx fun s _ => by rw [List.append_nil]; exact h s.1 s.2
theorem W.close {b : Nat} {l : List UInt8} (p : Option Addr) (c : Nat) (L : List Int) (e : L = l.map bI) (Rest : List Res) : Ent (wr b p c L ++ Rest) (W b l :: Rest) := by
  subst e
  exact Ent.closex (A := fun s : Option Addr × Nat => wr b s.1 s.2 (l.map bI)) (p, c) trivial
theorem W.conv {m : Mem} {f : FuncId} {args : Array Value} {A : List Res} {b : Nat} {l' : List UInt8} {V : Value} (h : Ct Try.prog f args m A (fun v m' B => v = V ∧ m = m' ∧ ∃ p' c', B = wr b p' c' (l'.map bI))) :
    Ct Try.prog f args m A (fun v m' B => v = V ∧ m = m' ∧ B = [W b l']) :=
  Ct.conv h fun v m' B _ ⟨h1, h2, p', c', h3⟩ => ⟨[W b l'], ⟨h1, h2, rfl⟩, fun Rest => by subst h3; exact W.close p' c' _ rfl Rest⟩
theorem own0 (b : Nat) (Rest : List Res) : Ent (.blk b 67 [.slice none 0 0] :: Rest) (W b [] :: Rest) :=
  (Ent.cons _ (own_nil_ent fb 1 5 Rest)).trans (W.close (b := b) (l := []) none 0 [] rfl Rest)

structure US where
  n : Nat
  L : List Int
  p : Option Addr
  c : Nat
theorem uint0 {m : Mem} (b n : Nat) (p : Option Addr) (c : Nat) (l : List UInt8) (hn : n < 18446744073709551616) (hl : l.length ≤ 30000000000) :
    Ct Try.prog 34 #[ptr b, .int .u64 (n : Int)] m (wr b p c (l.map bI)) (fun v m' B => v = .tuple #[] ∧ m = m' ∧ ∃ p' c', B = wr b p' c' ((l ++ uintB n).map bI)) := by
  have h10 := uintB_len10 hn
  refine Ct.enterV (by rfl) Try.func34 rfl Try.ntmps34 rfl (fun w0 Rest => ?_)
  (repeat' (first | refine zss ?_ | refine zsO ?_ | (refine zsp ?_ ?_ <;> (intro hc; (try simp only [zhcs, reduceCtorEq] at hc); (try (exfalso; first | contradiction | omega | exact absurd rfl hc | exact absurd (by decide) hc))))))
  (refine At.loopk (σ := US) [0] (fun s F0 => (1, .int .u64 (s.n : Int)) :: F0) (fun s => m) (fun s => .blk b 67 [.slice s.p s.L.length s.c] :: .own fb 1 5 s.p s.c s.L :: Rest) (fun s => s.n < 18446744073709551616 ∧ s.L ++ (uintB s.n).map bI = (l ++ uintB n).map bI) (fun s => s.n) ⟨n, l.map bI, p, c⟩ (by rfl) ?_ zsubs zml zente ?_)
  · exact ⟨hn, by simp⟩
  intro s ⟨hs, he⟩
  have hlen : s.L.length + (uintB s.n).length = l.length + (uintB n).length := by
    have := congrArg List.length he
    simpa using this
  have hp := uintB_pos s.n
  by_cases hlt : s.n < 128
  · (repeat' (first | refine zss ?_ | ((first | (with_reducible first | apply At.val | apply AtQ.val)); (exact pr_conv ⟨_, by rfl⟩ (by rfl) (by rfl) (IntWalk.u8_in _ (by omega))); exact rfl) | refine zsO ?_ | ((with_reducible apply At.lit fb [_]); exact inferInstance; (iterate 7 exact rfl); intro _) | ((with_reducible apply At.apW (f := fb)); exact rfl; exact rfl; exact (by repeat constructor); exact inferInstance; exact zrdl; (iterate 4 exact rfl); exact zom; exact rfl; intro _ _) | (refine zsp ?_ ?_ <;> (intro hc; (try simp only [zhcs, reduceCtorEq] at hc); (try (exfalso; first | omega | contradiction | omega | exact absurd rfl hc | exact absurd (by decide) hc))))))
    rw [uintB_lt hlt, List.map_cons, List.map_nil, bI_of (by omega)] at he
    all_goals ((first | (with_reducible apply At.retB0 (B := [.blk b _ _, .own fb 1 5 _ _ (s.L ++ [_])])) | (with_reducible apply At.retR0 (B := [.blk b _ _, .own fb 1 5 _ _ (s.L ++ [_])]))); exact rfl; exact zml; exact zkp; exact ⟨rfl, rfl, _, _, by rw [← he]⟩)
  · (repeat' (first | refine zss ?_ | ((first | (with_reducible first | apply At.val | apply AtQ.val)); (exact pr_or (by rfl) (by rfl) (or128 _)); exact rfl) | refine zsO ?_ | ((with_reducible apply At.lit fb [_]); exact inferInstance; (iterate 7 exact rfl); intro _) | ((with_reducible apply At.apW (f := fb)); exact rfl; exact rfl; exact (by repeat constructor); exact inferInstance; exact zrdl; (iterate 4 exact rfl); exact zom; exact rfl; intro p2 c2) | (refine zsp ?_ ?_ <;> (intro hc; (try simp only [zhcs, reduceCtorEq] at hc); (try (exfalso; first | omega | contradiction | omega | exact absurd rfl hc | exact absurd (by decide) hc))))))
    all_goals ((with_reducible refine At.reachk (⟨s.n / 128, s.L ++ [bI (UInt8.ofNat (s.n % 128 + 128))], p2, c2⟩) ?_ ?_ ?_ ?_); exact zsubs; exact zml; exact zente; exact ⟨⟨by show s.n / 128 < _; omega, by rw [uintB_ge hlt] at he; show _ ++ _ ++ (uintB (s.n / 128)).map bI = _; rw [← he]; simp⟩, by show s.n / 128 < s.n; omega⟩)
theorem uint {m : Mem} (b n : Nat) (l : List UInt8) (hn : n < 18446744073709551616) (hl : l.length ≤ 30000000000) :
    Ct Try.prog 34 #[ptr b, .int .u64 (n : Int)] m [W b l] (fun v m' B => v = .tuple #[] ∧ m = m' ∧ B = [W b (l ++ uintB n)]) :=
  W.open fun p c => W.conv (uint0 b n p c l hn hl)

theorem xor_ones {k y : Nat} (h : y < 2 ^ k) : y ^^^ (2 ^ k - 1) = 2 ^ k - 1 - y := by
  apply Nat.eq_of_testBit_eq
  intro i
  rw [Nat.testBit_xor, Nat.testBit_two_pow_sub_one, show 2 ^ k - 1 - y = 2 ^ k - (y + 1) by omega, Nat.testBit_two_pow_sub_succ h]
  by_cases hi : i < k
  · simp [hi]
  · simp [hi, Nat.testBit_lt_two_pow (Nat.lt_of_lt_of_le h (Nat.pow_le_pow_right (by decide) (by omega : k ≤ i)))]
def zig (n : Int) : Nat := if n < 0 then (2 * (-(n + 1)) + 1).toNat else (2 * n).toNat
theorem zig_lt {n : Int} (hn : -9223372036854775808 ≤ n ∧ n ≤ 9223372036854775807) : zig n < 18446744073709551616 := by unfold zig; split <;> omega
theorem zigx0 {n : Int} (h0 : ¬ n < 0) (h : n ≤ 9223372036854775807) : bits .xor .u64 (n * 2) (n / 9223372036854775808) = (zig n : Int) := by
  have e : n / 9223372036854775808 = 0 := by omega
  rw [e, u64_xor _ _ (by omega) (by omega) (by omega) (by omega)]
  unfold zig
  rw [if_neg h0, show ((0 : Int)).toNat = 0 from rfl, Nat.xor_zero, Int.mul_comm]
theorem zigx1 {n : Int} (h0 : n < 0) (h : -9223372036854775808 ≤ n) : bits .xor .u64 ((n % 18446744073709551616 * 2) % 18446744073709551616) (n / 9223372036854775808 % 18446744073709551616) = (zig n : Int) := by
  have e : n / 9223372036854775808 % 18446744073709551616 = 18446744073709551615 := by omega
  have e2 : (n % 18446744073709551616 * 2) % 18446744073709551616 = 18446744073709551616 + 2 * n := by omega
  rw [e, e2, u64_xor _ _ (by omega) (by omega) (by omega) (by omega)]
  unfold zig
  rw [if_pos h0, show ((18446744073709551615 : Int)).toNat = 2 ^ 64 - 1 from rfl, xor_ones (by omega)]
  omega
theorem raw0 {m : Mem} (b : Nat) (p : Option Addr) (c : Nat) (l t : List UInt8) (hl : l.length + t.length ≤ 30000000000) :
    Ct Try.prog 52 #[ptr b, .string (str t)] m (wr b p c (l.map bI)) (fun v m' B => v = .tuple #[] ∧ m = m' ∧ ∃ p' c', B = wr b p' c' ((l ++ t).map bI)) := by
  refine Ct.enterV (by rfl) Try.func52 rfl Try.ntmps52 rfl (fun w0 Rest => ?_)
  (repeat' (first | refine zss ?_ | refine zsO ?_ | ((with_reducible apply At.append_str); exact rfl; exact rfl; exact (by repeat constructor); (iterate 3 exact rfl); exact zlq; exact zom; exact rfl; intro _ _) | (refine zsp ?_ ?_ <;> (intro hc; (try simp only [zhcs, reduceCtorEq] at hc); (try (exfalso; first | contradiction | omega | exact absurd rfl hc | exact absurd (by decide) hc))))))
  all_goals ((first | (with_reducible apply At.retB0 (B := [.blk b _ _, .own fb 1 5 _ _ _])) | (with_reducible apply At.retR0 (B := [.blk b _ _, .own fb 1 5 _ _ _]))); exact rfl; exact zml; exact zkp; exact ⟨rfl, rfl, _, _, by rw [List.map_append]⟩)
theorem raw {m : Mem} (b : Nat) (l t : List UInt8) (hl : l.length + t.length ≤ 30000000000) :
    Ct Try.prog 52 #[ptr b, .string (str t)] m [W b l] (fun v m' B => v = .tuple #[] ∧ m = m' ∧ B = [W b (l ++ t)]) :=
  W.open fun p c => W.conv (raw0 b p c l t hl)
def textB (t : List UInt8) : List UInt8 := uintB t.length ++ t
theorem text {m : Mem} (b : Nat) (l t : List UInt8) (hl : l.length ≤ 10000000000) (ht : t.length ≤ 10000000000) :
    Ct Try.prog 35 #[ptr b, .string (str t)] m [W b l] (fun v m' B => v = .tuple #[] ∧ m = m' ∧ B = [W b (l ++ textB t)]) := by
  have h10 := uintB_len10 (n := t.length) (by omega)
  refine Ct.enterV (by rfl) Try.func35 rfl Try.ntmps35 rfl (fun w0 Rest => ?_)
  (repeat' (first | refine zss ?_ | refine zs0 ?_ | ((with_reducible first | apply At.c1 | apply At.c0); exact rfl; exact rfl; exact uint b t.length l (by omega) (by omega); exact ztk; kernel_rfl; rintro v' m' B' hm' ⟨rfl, rfl, rfl⟩; skip; (try (have hq0 : hm' = Mem.le_refl _ := rfl; clear hq0 hm'))) | ((with_reducible first | apply At.c1 | apply At.c0); exact rfl; exact rfl; exact raw b (l ++ uintB t.length) t (by simp; omega); exact ztk; kernel_rfl; rintro v' m' B' hm' ⟨rfl, rfl, rfl⟩; skip; (try (have hq0 : hm' = Mem.le_refl _ := rfl; clear hq0 hm'))) | (refine zsp ?_ ?_ <;> (intro hc; (try simp only [zhcs, reduceCtorEq] at hc); (try (exfalso; first | contradiction | omega | exact absurd rfl hc | exact absurd (by decide) hc))))))
  all_goals ((first | (with_reducible apply At.retB0 (B := [W b _])) | (with_reducible apply At.retR0 (B := [W b _]))); exact rfl; exact zml; exact zkp; exact ⟨rfl, rfl, by unfold textB; rw [List.append_assoc]⟩)
theorem out {m : Mem} (b : Nat) (l : List UInt8) : Rd Try.prog 36 #[ptr b] m [W b l] (.string (str l)) :=
  Rd.openx fun s _ => by
    rw [List.append_nil]
    unfold Rd
    refine Ct.enterV (by rfl) Try.func36 rfl Try.ntmps36 rfl (fun w0 Rest => ?_)
    (repeat' (first | refine zss ?_ | refine zsO ?_ | (refine zsp ?_ ?_ <;> (intro hc; (try simp only [zhcs, reduceCtorEq] at hc); (try (exfalso; first | contradiction | omega | exact absurd rfl hc | exact absurd (by decide) hc))))))
    all_goals ((with_reducible apply At.retB1 (B := wr b s.1 s.2 (l.map bI))); exact rfl; exact rfl; exact zml; exact zkp; exact ⟨by rw [u8_map], rfl, rfl⟩)

def fixB (w : Int) (n : Nat) : List UInt8 := if 1 ≤ w ∧ w ≤ 8 then (List.range w.toNat).map (fun i => UInt8.ofNat (n / 256 ^ (w.toNat - 1 - i))) else []
theorem bI_mod (n : Nat) : bI (UInt8.ofNat n) = ((n % 256 : Nat) : Int) := by unfold bI; rfl
theorem fix_step (n k w : Nat) (h : k < w) : ((n : Int) / 2 ^ (8 * ((w : Int) - 1 - k)).toNat) % 256 = bI (UInt8.ofNat (n / 256 ^ (w - 1 - k))) := by
  rw [bI_mod, show (8 * ((w : Int) - 1 - k)).toNat = 8 * (w - 1 - k) by omega, show (256 : Nat) ^ (w - 1 - k) = 2 ^ (8 * (w - 1 - k)) by rw [Nat.pow_mul], Int.natCast_emod, Int.natCast_ediv, Int.natCast_pow]
  rfl
structure FS where
  k : Nat
  L : List Int
  p : Option Addr
  c : Nat
theorem fixed0 {m : Mem} (b n w : Nat) (p : Option Addr) (c : Nat) (l : List UInt8) (hn : n < 18446744073709551616) (hl : l.length ≤ 30000000000) (h1 : 1 ≤ w) (h8 : w ≤ 8) :
    Ct Try.prog 37 #[ptr b, .int .i64 (w : Int), .int .u64 (n : Int)] m (wr b p c (l.map bI)) (fun v m' B => v = .tuple #[] ∧ m = m' ∧ ∃ p' c', B = wr b p' c' ((l ++ fixB w n).map bI)) := by
  refine Ct.enterV (by rfl) Try.func37 rfl Try.ntmps37 rfl (fun w0 Rest => ?_)
  (repeat' (first | refine zss ?_ | refine zsO ?_ | (refine zsp ?_ ?_ <;> (intro hc; (try simp only [zhcs, reduceCtorEq] at hc); (try (exfalso; first | contradiction | omega | exact absurd rfl hc | exact absurd (by decide) hc))))))
  (refine At.loopk (σ := FS) [0, 2] (fun s F0 => (6, .int .i64 (8 * ((w : Int) - 1 - s.k))) :: F0) (fun s => m) (fun s => .blk b 67 [.slice s.p s.L.length s.c] :: .own fb 1 5 s.p s.c s.L :: Rest) (fun s => s.k ≤ w ∧ s.L = (l ++ (List.range s.k).map (fun i => UInt8.ofNat (n / 256 ^ (w - 1 - i)))).map bI) (fun s => w - s.k) ⟨0, l.map bI, p, c⟩ (by rfl) ?_ zsubs zml zente ?_)
  · exact ⟨Nat.zero_le _, by simp⟩
  intro s ⟨hs, he⟩
  have hlen : s.L.length = l.length + s.k := by rw [he]; simp
  by_cases hlt : s.k < w
  · (repeat' (first | ((with_reducible apply At.mixed (id := 4) 14 (.q 0 (.q 1 (.q 2 (.q 3 (.q 4 (.q 5 (.q 6 (.q 7 (.q 8 (.l 9 (.x 10 (.q 11 (.q 12 (.x 13 .done))))))))))))))); exact rfl; kernel_rfl; kernel_rfl; kernel_rfl) | refine zsx ?_ | refine zss ?_ | ((with_reducible apply AtM.bo); exact rfl; exact rfl; exact rfl) | ((first | (with_reducible first | apply At.val | apply AtQ.val) | ((with_reducible first | apply AtM1.valz | apply AtM1.val); exact rfl) | ((with_reducible apply AtM1.val); exact rfl)); (exact pr_conv ⟨_, by rfl⟩ (by rfl) (by rfl) ((IntKind.wrap_u8 _).trans (fix_step n s.k w hlt))); exact rfl) | refine zsO ?_ | refine zxO ?_ | ((with_reducible apply At.lit fb [_]); exact inferInstance; (iterate 7 exact rfl); intro _) | ((with_reducible apply At.apW (f := fb)); exact rfl; exact rfl; exact (by repeat constructor); exact inferInstance; exact zrdl; (iterate 4 exact rfl); exact zom; exact rfl; intro p2 c2) | (refine zsp ?_ ?_ <;> (intro hc; (try simp only [zhcs, reduceCtorEq] at hc); (try (exfalso; first | omega | contradiction | omega | exact absurd rfl hc | exact absurd (by decide) hc))))))
    all_goals ((with_reducible refine At.reachk (⟨s.k + 1, s.L ++ [bI (UInt8.ofNat (n / 256 ^ (w - 1 - s.k)))], p2, c2⟩) ?_ ?_ ?_ ?_); exact zsubs; exact zml; exact zente; exact ⟨⟨hlt, by show _ ++ _ = _; rw [he, List.range_succ]; simp⟩, by show w - (s.k + 1) < w - s.k; omega⟩)
  · (repeat' (first | refine zss ?_ | refine zsO ?_ | (refine zsp ?_ ?_ <;> (intro hc; (try simp only [zhcs, reduceCtorEq] at hc); (try (exfalso; first | omega | contradiction | omega | exact absurd rfl hc | exact absurd (by decide) hc))))))
    all_goals ((first | (with_reducible apply At.retB0 (B := [.blk b _ _, .own fb 1 5 _ _ s.L])) | (with_reducible apply At.retR0 (B := [.blk b _ _, .own fb 1 5 _ _ s.L]))); exact rfl; exact zml; exact zkp; exact ⟨rfl, rfl, _, _, by rw [he]; unfold fixB; rw [if_pos (by omega), show s.k = w by omega]; rfl⟩)
theorem fixed {m : Mem} (b n : Nat) (w : Int) (l : List UInt8) (hn : n < 18446744073709551616) (hl : l.length ≤ 30000000000) :
    Ct Try.prog 37 #[ptr b, .int .i64 w, .int .u64 (n : Int)] m [W b l] (fun v m' B => v = .tuple #[] ∧ m = m' ∧ B = [W b (l ++ fixB w n)]) := by
  by_cases hw : 1 ≤ w ∧ w ≤ 8
  · obtain ⟨k, rfl⟩ : ∃ k : Nat, w = k := ⟨w.toNat, by omega⟩
    exact W.open fun p c => W.conv (fixed0 b n k p c l hn hl (by omega) (by omega))
  · have e : fixB w n = [] := if_neg hw
    rw [e, List.append_nil]
    refine Ct.enterV (by rfl) Try.func37 rfl Try.ntmps37 rfl (fun w0 Rest => ?_)
    (repeat' (first | refine zss ?_ | refine zsO ?_ | (refine zsp ?_ ?_ <;> (intro hc; (try simp only [zhcs, reduceCtorEq] at hc); (try (exfalso; first | omega | contradiction | omega | exact absurd rfl hc | exact absurd (by decide) hc))))))
    all_goals ((first | (with_reducible apply At.retB0 (B := [W b l])) | (with_reducible apply At.retR0 (B := [W b l]))); exact rfl; exact zml; exact zkp; exact ⟨rfl, rfl, rfl⟩)

/-! ### the document's bytes -/
theorem zig_neg {n : Int} (h : n < 0) : (zig n : Int) = 2 * (0 - (n + 1)) + 1 := by unfold zig; rw [if_pos h]; omega
theorem zig_pos {n : Int} (h : ¬ n < 0) : (zig n : Int) = 2 * n := by unfold zig; rw [if_neg h]; omega
theorem fix_get (n w j : Nat) (h : j < w) (h1 : 1 ≤ w) (h8 : w ≤ 8) : ((fixB w n).map bI)[j]! = ((n / 256 ^ (w - 1 - j) % 256 : Nat) : Int) := by
  unfold fixB
  rw [if_pos (by omega), getElem!_pos _ j (by simp; omega)]
  simp [bI_mod]
theorem fix_len (n w : Nat) (h1 : 1 ≤ w) (h8 : w ≤ 8) : (fixB w n).length = w := by
  unfold fixB
  rw [if_pos (by omega)]; simp
structure GS where
  i : Nat
  d : Nat
  L : List Int
theorem fix_inv {n k d i : Nat} {L : List Int} (h0 : d = n / 256 ^ i) (h1 : i ≤ k) (h2 : L.length = k) (h3 : ∀ j, j < k → L[j]! = if k - i ≤ j then ((n / 256 ^ (k - 1 - j) % 256 : Nat) : Int) else 0) (h : i < k) :
    d / 256 = n / 256 ^ (i + 1) ∧ i + 1 ≤ k ∧ (L.set (k - 1 - i) ((d : Int) % 256)).length = k ∧ ∀ j, j < k → (L.set (k - 1 - i) ((d : Int) % 256))[j]! = if k - (i + 1) ≤ j then ((n / 256 ^ (k - 1 - j) % 256 : Nat) : Int) else 0 := by
  refine ⟨by rw [h0, Nat.div_div_eq_div_mul, Nat.pow_succ], h, by simpa using h2, fun j hj => ?_⟩
  by_cases e : j = k - 1 - i
  · subst e
    rw [getElem!_pos _ _ (by simp; omega), List.getElem_set_self, if_pos (by omega), show k - 1 - (k - 1 - i) = i by omega, ← h0]
    rfl
  · rw [getElem!_pos _ j (by simp; omega), List.getElem_set_ne (Ne.symm e), ← getElem!_pos L j (by omega), h3 j hj]
    by_cases e2 : k - i ≤ j
    · rw [if_pos e2, if_pos (by omega)]
    · rw [if_neg e2, if_neg (by omega)]
end Cod
end Go.Proofs.Ytjncahmbllmllaa
/- Labels as bytes: Bytes; Same. -/
set_option linter.unusedSimpArgs false
set_option linter.unusedVariables false
set_option linter.unusedSectionVars false
set_option maxRecDepth 20000
set_option maxHeartbeats 4000000
namespace Go.Proofs.Ytjncahmbllmllaa
open Go Go.J
attribute [local irreducible] At AtQ AtM AtM1 PR Ct Pu Rd Res.blk Res.own Res.ex RVs RV Cod.W
namespace Lb
theorem equal {m : Mem} (p : Option Addr) (c : Nat) (a : List Lab) (q : Option Addr) (d : Nat) (b : List Lab) (hl : a.length ≤ 1000000000) (hlb : b.length ≤ 1000000000) (sl0 : Sl m cells 2 p c a) (sl1 : Sl m cells 2 q d b) :
    Rd Try.prog 23 #[.slice p a.length c, .slice q b.length d] m [] (.bool (decide (a = b))) := by
  unfold Rd
  by_cases hlen : a.length = b.length
  · refine Ct.enterV (by rfl) Try.func23 rfl Try.ntmps23 rfl (fun w0 Rest => ?_)
    (repeat' (first | refine zss ?_ | refine zsM ?_ | (refine zsp ?_ ?_ <;> (intro hc; (try simp only [zhcs, reduceCtorEq] at hc); (try (exfalso; first | omega | contradiction | omega | exact absurd rfl hc | exact absurd (by decide) hc))))))
    (refine At.loopk (σ := Nat) [0, 1, 12] (fun s F0 => (13, .int .i64 (s : Int)) :: F0) (fun s => m) (fun s => Rest) (fun s => s ≤ a.length ∧ ∀ i, i < s → a[i]! = b[i]!) (fun s => a.length - s) 0 (by rfl) ?_ zsubs zml zente ?_)
    · exact ⟨Nat.zero_le _, fun i h => absurd h (Nat.not_lt_zero i)⟩
    rintro s ⟨hs, hn⟩
    by_cases h : s < a.length
    · by_cases e : a[s]! = b[s]!
      · have hnn : ∀ i, i < s + 1 → a[i]! = b[i]! := fun i hi => by
          by_cases e1 : i = s
          · subst e1; exact e
          · exact hn i (by omega)
        (repeat' (first | refine zss ?_ | ((first | (with_reducible first | apply At.val | apply AtQ.val)); (exact pr_lbne (by rfl) (by rfl)); exact rfl) | refine zsM ?_ | (refine zsp ?_ ?_ <;> (intro hc; (try simp only [zhcs, reduceCtorEq] at hc); (try (exfalso; first | (first | omega | exact absurd e hc) | contradiction | omega | exact absurd rfl hc | exact absurd (by decide) hc))))))
        all_goals ((with_reducible refine At.reachk ((s + 1)) ?_ ?_ ?_ ?_); exact zsubs; exact zml; exact zente; exact ⟨⟨h, hnn⟩, by omega⟩)
      · rw [decide_eq_false (show ¬ a = b from fun h => e (by rw [h]))]
        (repeat' (first | refine zss ?_ | ((first | (with_reducible first | apply At.val | apply AtQ.val)); (exact pr_lbne (by rfl) (by rfl)); exact rfl) | refine zsM ?_ | (refine zsp ?_ ?_ <;> (intro hc; (try simp only [zhcs, reduceCtorEq] at hc); (try (exfalso; first | (first | omega | exact absurd hc e) | contradiction | omega | exact absurd rfl hc | exact absurd (by decide) hc))))))
        all_goals ((with_reducible apply At.retB1 (B := [])); exact rfl; exact rfl; exact zml; exact zkp; exact ⟨rfl, rfl, rfl⟩)
    · rw [decide_eq_true (show a = b from Ls.ext! hlen fun i hi => hn i (by omega))]
      (repeat' (first | refine zss ?_ | refine zsM ?_ | (refine zsp ?_ ?_ <;> (intro hc; (try simp only [zhcs, reduceCtorEq] at hc); (try (exfalso; first | omega | contradiction | omega | exact absurd rfl hc | exact absurd (by decide) hc))))))
      all_goals ((with_reducible apply At.retB1 (B := [])); exact rfl; exact rfl; exact zml; exact zkp; exact ⟨rfl, rfl, rfl⟩)
  · rw [decide_eq_false (show ¬ a = b from fun h => hlen (by rw [h]))]
    refine Ct.enterV (by rfl) Try.func23 rfl Try.ntmps23 rfl (fun w0 Rest => ?_)
    (repeat' (first | refine zss ?_ | refine zsM ?_ | (refine zsp ?_ ?_ <;> (intro hc; (try simp only [zhcs, reduceCtorEq] at hc); (try (exfalso; first | omega | contradiction | omega | exact absurd rfl hc | exact absurd (by decide) hc))))))
    all_goals ((with_reducible apply At.retB1 (B := [])); exact rfl; exact rfl; exact zml; exact zkp; exact ⟨rfl, rfl, rfl⟩)
theorem same {m : Mem} (p : Option Addr) (c : Nat) (a : List Lab) (q : Option Addr) (d : Nat) (b : List Lab) (hl : a.length ≤ 1000000000) (hlb : b.length ≤ 1000000000) (sl0 : Sl m cells 2 p c a) (sl1 : Sl m cells 2 q d b) :
    Rd Try.prog 11 #[.slice p a.length c, .slice q b.length d] m [] (.bool (decide (a = b))) := by
  unfold Rd
  have h := fun (m' : Mem) (hm' : m.le m') => equal (m := m') p c a q d b hl hlb (sl0.mono hm') (sl1.mono hm')
  refine Ct.enterV (by rfl) Try.func11 rfl Try.ntmps11 rfl (fun w0 Rest => ?_)
  (repeat' (first | refine zss ?_ | refine zs0 ?_ | ((with_reducible first | apply AtM1.cr | apply AtQ.cr | apply At.cr); exact rfl; exact rfl; exact fun _ hmm => h _ hmm; exact ztk; kernel_rfl) | (refine zsp ?_ ?_ <;> (intro hc; (try simp only [zhcs, reduceCtorEq] at hc); (try (exfalso; first | contradiction | omega | exact absurd rfl hc | exact absurd (by decide) hc))))))
  all_goals ((with_reducible apply At.retB1 (B := [])); exact rfl; exact rfl; exact zml; exact zkp; exact ⟨rfl, rfl, rfl⟩)
open Cod
def oneL (x : Lab) : List UInt8 := textB x.n ++ textB x.v
def bodyL (l : List Lab) : List UInt8 := l.flatMap oneL
def bytesL (l : List Lab) : List UInt8 := uintB l.length ++ bodyL l
theorem body_snoc {l : List Lab} {i : Nat} (h : i < l.length) : bodyL (l.take (i + 1)) = bodyL (l.take i) ++ (textB l[i]!.n ++ textB l[i]!.v) := by
  unfold bodyL
  rw [Ls.take_snoc h, List.flatMap_append]
  simp [oneL]
theorem one_len {x : Lab} (h : x.n.length ≤ 64 ∧ x.v.length ≤ 128) : (oneL x).length ≤ 300 := by
  have h1 := uintB_len10 (n := x.n.length) (by omega)
  have h2 := uintB_len10 (n := x.v.length) (by omega)
  unfold oneL textB
  simp only [List.length_append]
  omega
theorem right_at {l : List Lab} (h : right l) {i : Nat} (hi : i < l.length) : l[i]!.n.length ≤ 64 ∧ l[i]!.v.length ≤ 128 := by
  have h1 := of_decide_eq_true (h.2.2.1 i hi)
  have h2 := of_decide_eq_true h1.1
  exact ⟨h2.2.1, h1.2.1⟩
theorem body_len {l : List Lab} (h : ∀ i, i < l.length → l[i]!.n.length ≤ 64 ∧ l[i]!.v.length ≤ 128) : ∀ i, i ≤ l.length → (bodyL (l.take i)).length ≤ 300 * i
  | 0, _ => by simp [bodyL]
  | i + 1, hi => by
    have := body_len h i (by omega)
    have h2 := one_len (h i (by omega))
    rw [body_snoc (by omega), List.length_append]
    unfold oneL at h2
    omega
theorem bytes {m : Mem} (p : Option Addr) (c : Nat) (l : List Lab) (hb : Mid l) (sl0 : Sl m cells 2 p c l) :
    Rd Try.prog 16 #[.slice p l.length c] m [] (.tuple #[.string (str (if right l then bytesL l else [])), .int .i64 (chk l)]) := by
  unfold Rd
  have hk := fun (m' : Mem) (hm' : m.le m') => check (m := m') p c l hb (sl0.mono hm')
  by_cases hr : right l
  · rw [if_pos hr, chk_ok hr]
    rw [chk_ok hr] at hk
    have hln : l.length ≤ 16 := hr.2.1
    have hbl := body_len (l := l) fun i hi => right_at hr hi
    have hu := uintB_len10 (n := l.length) (by omega)
    have k1 : ∀ (m : Mem) (b : Nat), Ct Try.prog 34 #[ptr b, .int .u64 (l.length : Int)] m [W b []] (fun v m' B => v = .tuple #[] ∧ m = m' ∧ B = [W b (uintB l.length ++ bodyL (l.take 0))]) := fun m b => by
      have := uint (m := m) b l.length [] (by omega) (by show 0 ≤ _; omega)
      rwa [show [] ++ uintB l.length = uintB l.length ++ bodyL (l.take 0) by simp [bodyL]] at this
    refine Ct.enterV (by rfl) Try.func16 rfl Try.ntmps16 rfl (fun w0 Rest => ?_)
    (repeat' (first | refine zss ?_ | refine zsM ?_ | (refine At.ent (own0 b5 _) ?_) | ((with_reducible first | apply AtM1.cr | apply AtQ.cr | apply At.cr); exact rfl; exact rfl; exact fun _ hmm => hk _ hmm; exact ztk; kernel_rfl) | ((with_reducible first | apply At.c1 | apply At.c0); exact rfl; exact rfl; exact k1 _ b5; exact ztk; kernel_rfl; rintro v' m' B' hm' ⟨rfl, rfl, rfl⟩; (try replace sl0 := sl0.mono hm'); (try (have hq0 : hm' = Mem.le_refl _ := rfl; clear hq0 hm'))) | ((with_reducible apply At.alloc (d := 5)); exact rfl; exact rfl; intro b5) | ((with_reducible apply At.alloc (d := 7)); exact rfl; exact rfl; intro b7) | (refine zsp ?_ ?_ <;> (intro hc; (try simp only [zhcs, reduceCtorEq] at hc); (try (exfalso; first | omega | contradiction | omega | exact absurd rfl hc | exact absurd (by decide) hc))))))
    (refine At.loopk (σ := Nat) [5, 17, 18] (fun s F0 => (19, .int .i64 (s : Int)) :: F0) (fun s => m) (fun s => W b5 (uintB l.length ++ bodyL (l.take s)) :: Rest) (fun s => s ≤ l.length) (fun s => l.length - s) 0 (by rfl) ?_ zsubs zml zente ?_)
    · exact Nat.zero_le _
    rintro s hs
    by_cases h : s < l.length
    · have hbs := hbl s (by omega)
      have hrr := right_at hr h
      have hu1 := uintB_len10 (n := l[s]!.n.length) (by omega)
      have e3 := body_snoc h
      have htl : (textB l[s]!.n).length ≤ 100 := by unfold textB; rw [List.length_append]; omega
      have k2 := fun m => text (m := m) b5 (uintB l.length ++ bodyL (l.take s)) (l[s]!.n) (by rw [List.length_append]; omega) (by omega)
      have k3 := fun m => text (m := m) b5 (uintB l.length ++ bodyL (l.take s) ++ textB l[s]!.n) (l[s]!.v) (by rw [List.length_append, List.length_append]; omega) (by omega)
      (repeat' (first | refine zss ?_ | refine zsM ?_ | ((with_reducible first | apply At.c1 | apply At.c0); exact rfl; exact rfl; exact k2 _; exact ztk; kernel_rfl; rintro v' m' B' hm' ⟨rfl, rfl, rfl⟩; (try replace sl0 := sl0.mono hm'); (try (have hq0 : hm' = Mem.le_refl _ := rfl; clear hq0 hm'))) | ((with_reducible first | apply At.c1 | apply At.c0); exact rfl; exact rfl; exact k3 _; exact ztk; kernel_rfl; rintro v' m' B' hm' ⟨rfl, rfl, rfl⟩; (try replace sl0 := sl0.mono hm'); (try (have hq0 : hm' = Mem.le_refl _ := rfl; clear hq0 hm'))) | ((with_reducible apply At.alloc (d := 5)); exact rfl; exact rfl; intro b5) | ((with_reducible apply At.alloc (d := 7)); exact rfl; exact rfl; intro b7) | (refine zsp ?_ ?_ <;> (intro hc; (try simp only [zhcs, reduceCtorEq] at hc); (try (exfalso; first | omega | contradiction | omega | exact absurd rfl hc | exact absurd (by decide) hc))))))
      all_goals rw [show uintB l.length ++ bodyL (l.take s) ++ textB l[s]!.n ++ textB l[s]!.v = uintB l.length ++ bodyL (l.take (s + 1)) by rw [e3]; simp only [List.append_assoc]]
      all_goals ((with_reducible refine At.reachk ((s + 1)) ?_ ?_ ?_ ?_); exact zsubs; exact zml; exact zente; exact ⟨h, by omega⟩)
    · rw [show l.take s = l from List.take_of_length_le (by omega)]
      (repeat' (first | refine zss ?_ | refine zsM ?_ | ((with_reducible first | apply AtM1.cr | apply AtQ.cr | apply At.cr); exact rfl; exact rfl; exact fun _ hmm => out b5 (uintB l.length ++ bodyL l); exact ztk; kernel_rfl) | ((with_reducible apply At.alloc (d := 5)); exact rfl; exact rfl; intro b5) | ((with_reducible apply At.alloc (d := 7)); exact rfl; exact rfl; intro b7) | (refine zsp ?_ ?_ <;> (intro hc; (try simp only [zhcs, reduceCtorEq] at hc); (try (exfalso; first | omega | contradiction | omega | exact absurd rfl hc | exact absurd (by decide) hc))))))
      all_goals ((with_reducible apply At.retV (B := [])); exact rfl; (repeat' (first | exact RVs.nil | (with_reducible apply RVs.cons) | exact rv_tmp (by rfl) | exact rv_cellN (by rfl) (by repeat constructor) (by rfl) (by rfl) (by rfl) | exact rv_cell1 (by rfl) (by repeat constructor) (by rfl) (by rfl))); exact zml; exact zkp; exact ⟨rfl, rfl, rfl⟩)
  · rw [if_neg hr]
    have hd : chk l ≠ 0 := fun k => hr (chk_right.1 k)
    generalize chk l = w at hk hd ⊢
    refine Ct.enterV (by rfl) Try.func16 rfl Try.ntmps16 rfl (fun w0 Rest => ?_)
    (repeat' (first | refine zss ?_ | refine zsM ?_ | ((with_reducible first | apply AtM1.cr | apply AtQ.cr | apply At.cr); exact rfl; exact rfl; exact fun _ hmm => hk _ hmm; exact ztk; kernel_rfl) | ((with_reducible apply At.alloc (d := 5)); exact rfl; exact rfl; intro b5) | ((with_reducible apply At.alloc (d := 7)); exact rfl; exact rfl; intro b7) | (refine zsp ?_ ?_ <;> (intro hc; (try simp only [zhcs, reduceCtorEq] at hc); (try (exfalso; first | (first | omega | exact absurd hc hd) | contradiction | omega | exact absurd rfl hc | exact absurd (by decide) hc))))))
    all_goals ((with_reducible apply At.retV (B := [])); exact rfl; (repeat' (first | exact RVs.nil | (with_reducible apply RVs.cons) | exact rv_tmp (by rfl) | exact rv_cellN (by rfl) (by repeat constructor) (by rfl) (by rfl) (by rfl) | exact rv_cell1 (by rfl) (by repeat constructor) (by rfl) (by rfl))); exact zml; exact zkp; exact ⟨rfl, rfl, rfl⟩)
end Lb
end Go.Proofs.Ytjncahmbllmllaa
/- From a contract to a law's row: what a law's call leaves of memory. -/
set_option linter.unusedSimpArgs false
set_option linter.unusedVariables false
set_option linter.unusedSectionVars false
set_option maxRecDepth 20000
namespace Go.J
open Go Go.ChangeShapes Go.WideShapes Go.ChangeAt Go.RowKit

def memOf (W : World) : Mem := fun k => W.heap[k]?

theorem HW.init (W : World) : HW W (memOf W) [] W :=
  ⟨rfl, rfl, rfl, Nat.le_refl _, fun _ _ h => h, fun _ => False, fun _ h => h, fun _ h => h.elim⟩

theorem HW.below {W w' : World} {m' : Mem} {Rs : List Res} (h : HW W m' Rs w') (hm : (memOf W).le m') : Below W.heap.size W w' :=
  ⟨h.os, h.tape, h.output, h.size, fun k hk => by
    have hk' : W.heap[k]? = some W.heap[k] := Array.getElem?_eq_getElem hk
    rw [hk']
    exact h.mem k _ (hm k _ hk')⟩

theorem law_calls {P : Program} {f : FuncId} {args : Array Value} {W : World} (h : Ct P f args (memOf W) [] (fun v _ _ => v = .bool true)) :
    Calls P f args W fun e W' => e = .returned (.bool true) ∧ Below W.heap.size W W' :=
  (h W [] W (HW.init W)).mono fun _ _ ⟨_, _, _, he, hm, hv, hw⟩ => ⟨by rw [he, hv], hw.below hm⟩

theorem law_calls_pu {P : Program} {f : FuncId} {args : Array Value} {W : World} (h : Pu P f args (.bool true)) :
    Calls P f args W fun e W' => e = .returned (.bool true) ∧ Below W.heap.size W W' :=
  law_calls ((h (memOf W)).mono fun _ _ _ _ ⟨hv, _, _⟩ => hv)

/-- the arguments read as they did -/
theorem trodAll_below {H : Type} {enc : TypeId × Value → H} {P : Program} (hl : laidOutB P = true) {W W' : World} (hb : Below W.heap.size W W') :
    ∀ (ts : List TypeId) (vs : List Value) (ds : List (DataW H)) (ps : List MemPlace), (ts.all fun t => P.readableRec t && decide (t < P.types.size)) = true →
      DataW.TrodAll enc P W 0 (fun _ => true) true ts vs ds ps → (∀ x ∈ ps, x.block < W.heap.size) → DataW.TrodAll enc P W' 0 (fun b => decide (b < W.heap.size)) true ts vs ds ps
  | [], vs, ds, ps, _, h, _ => by
    obtain ⟨rfl, rfl, rfl⟩ := trodAll_nil h
    exact trodAll_mk0
  | t :: ts, vs, ds, ps, hr, h, hlt => by
    obtain ⟨v, vs', d, ds', p, q, rfl, rfl, rfl, h0, h1⟩ := trodAll_cons h
    simp only [List.all_cons, Bool.and_eq_true, decide_eq_true_eq] at hr
    exact trodAll_cons_mk (Below.trod hl hr.1.1 hr.1.2 h0 hb (fun x hx => hlt x (by simp [hx]))) (trodAll_below hl hb ts vs' ds' q hr.2 h1 (fun x hx => hlt x (by simp [hx])))

end Go.J
/- A law's slices: opened into lists. -/
set_option linter.unusedSimpArgs false
set_option linter.unusedVariables false
set_option linter.unusedSectionVars false
set_option maxRecDepth 20000
namespace Go.J
open Go Go.ChangeShapes Go.WideShapes Go.ChangeAt Go.RowKit

theorem cell_cells {w : World} {a : Addr} {v : Value} (h : w.cell? a = some v) : a.spot = none ∧ ∃ E cs fz, w.heap[a.block]? = some (.cells cs E fz) ∧ cs[a.off]? = some v := by
  unfold World.cell? at h
  cases hb : w.heap[a.block]? with
  | none => rw [hb] at h; cases h
  | some o =>
    rw [hb] at h
    cases o <;> simp at h
    rename_i cs E fz
    exact ⟨by
      cases hs : a.spot with
      | none => rfl
      | some x => rw [hs] at h; simp at h, E, cs, fz, rfl, h.2⟩

theorem open_sl {α : Type} [Inhabited α] {f : α → List Value} {sz : Nat} (hf : Fl f sz) (φ : α → Prop) {H : Type} {enc : TypeId × Value → H} {P : Program} {W : World} {t e : TypeId} {fuel : Nat} {cs : List Value} {x : DataW H × List MemPlace}
    (ht : P.underlying t = some (.slice e)) (hc : P.cellsOf e = sz)
    (hdec : ∀ n cs' y, cs'.length = sz → DataW.trod enc P W 0 (fun _ => true) true n e cs' = some y → ∃ a, cs' = f a ∧ φ a)
    (h : DataW.trod enc P W 0 (fun _ => true) true fuel t cs = some x) : ∃ p c l, cs = [.slice p l.length c] ∧ Sl (memOf W) f sz p c l ∧ ∀ a ∈ l, φ a := by
  rcases Go.Deep.open_slice ht h with ⟨rfl, _⟩ | ⟨a, len, cap, m, n, D, Pl, rfl, _, hl, hm, hmm, _, hx⟩
  · exact ⟨none, 0, [], rfl, Sl.empty _ hf, fun a ha => by cases ha⟩
  · simp only [if_true] at hmm
    subst hmm
    obtain ⟨A, hA⟩ := Go.Deep.choose_lt (α := α) (n := m) (p := fun i y => W.cells? 0 (a.add (i * sz)) sz = some (f y) ∧ φ y) (fun i hi => by
      obtain ⟨cs', h1, h2⟩ := hx i hi
      rw [hc] at h1
      obtain ⟨_, hlen, _⟩ := World.cells?_some h1
      obtain ⟨y, rfl, hy⟩ := hdec n cs' _ hlen h2
      exact ⟨y, h1, hy⟩)
    have hll : ((List.range len).map A).length = len := by simp
    refine ⟨some a, m, (List.range len).map A, by rw [hll], ⟨hf, by rw [hll]; exact hl, hm, (fun e => by cases e), fun a' ha' hpos => ?_⟩, fun y hy => ?_⟩
    · cases ha'
      have hsz := hf.pos
      have hcell : ∀ i j, i < m → j < sz → W.cell? ((a.add (i * sz)).add j) = (f (A i))[j]? := fun i j hi hj => (World.cells?_some (hA i hi).1).2.2 j hj
      have hlen : ∀ i j, j < sz → ∃ v, (f (A i))[j]? = some v := fun i j hj => ⟨(f (A i))[j]'(by rw [hf.len]; exact hj), List.getElem?_eq_getElem _⟩
      obtain ⟨v0, hv0⟩ := hlen 0 0 hsz
      have h00 := hcell 0 0 hpos hsz
      rw [hv0] at h00
      have e0 : (a.add (0 * sz)).add 0 = a := by simp [Addr.add]
      rw [e0] at h00
      obtain ⟨hspot, E, cs, fz, hb, _⟩ := cell_cells h00
      have ea : ∀ k, a.add k = ⟨a.block, a.off + k, none⟩ := fun k => by cases a; simp only at hspot; subst hspot; exact Addr.add_eq _ _ _
      have hcell' : ∀ i j, i < m → j < sz → cs[a.off + (i * sz + j)]? = (f (A i))[j]? := fun i j hi hj => by
        have := hcell i j hi hj
        rw [ea, Addr.add_eq, World.cell_of hb] at this
        rw [← this, Nat.add_assoc]
      refine ⟨hspot, E, cs, fz, hb, ?_, fun i j hi hj => ?_⟩
      · obtain ⟨v, hv⟩ := hlen (m - 1) (sz - 1) (by omega)
        have h1 := hcell' (m - 1) (sz - 1) (by omega) (by omega)
        rw [hv] at h1
        have h2 := (Array.getElem?_eq_some_iff.1 h1).1
        have h3 : (m - 1) * sz + sz = m * sz := by
          have := Nat.succ_mul (m - 1) sz
          rw [show (m - 1).succ = m by omega] at this; omega
        omega
      · rw [hll] at hi
        rw [hcell' i j (by omega) hj]
        congr 2
        rw [List.getElem!_eq_getElem?_getD]; simp [hi]
    · obtain ⟨i, hi, rfl⟩ := List.mem_map.1 hy
      exact (hA i (by have := List.mem_range.1 hi; omega)).2

/-- a law's argument that is a slice -/
theorem open_sl_arg {α : Type} [Inhabited α] {f : α → List Value} {sz : Nat} (hf : Fl f sz) (φ : α → Prop) {H : Type} {enc : TypeId × Value → H} {P : Program} {W : World} {t e : TypeId} {v : Value} {d : DataW H} {ps : List MemPlace}
    (ht : P.underlying t = some (.slice e)) (hc : P.cellsOf e = sz)
    (hdec : ∀ n cs' y, cs'.length = sz → DataW.trod enc P W 0 (fun _ => true) true n e cs' = some y → ∃ a, cs' = f a ∧ φ a)
    (hsl : ∃ p l c, v = .slice p l c) (h : DataW.Trod enc P W 0 (fun _ => true) true t v d ps) : ∃ p c l, v = .slice p l.length c ∧ Sl (memOf W) f sz p c l ∧ ∀ a ∈ l, φ a := by
  obtain ⟨fuel, hfl⟩ := h
  obtain ⟨p0, l0, c0, rfl⟩ := hsl
  obtain ⟨p, c, l, h1, h2⟩ := open_sl hf φ ht hc hdec hfl
  refine ⟨p, c, l, ?_, h2⟩
  simpa [Value.cells] using h1

theorem dec_int {H : Type} {enc : TypeId × Value → H} {P : Program} {W : World} {e : TypeId} {k : IntKind} (he : P.underlying e = some (.int k)) : ∀ n cs' y, cs'.length = 1 → DataW.trod enc P W 0 (fun _ => true) true n e cs' = some y → ∃ a : Int, cs' = [.int k a] ∧ (Lit.int k a).wf = true := fun n cs' y _ h => by
  obtain ⟨a, h1, _, h3⟩ := DataW.trod_int he h
  exact ⟨a, h1, h3⟩
end Go.J
/- A law's arguments of any plain make: structs of whole numbers, truth values, texts, and slices, opened into their cells. -/
set_option linter.unusedSimpArgs false
set_option linter.unusedVariables false
set_option linter.unusedSectionVars false
set_option maxRecDepth 20000
namespace Go.J
open Go Go.ChangeShapes Go.WideShapes Go.ChangeAt Go.RowKit

inductive LK
  | int (k : IntKind)
  | bool
  | str
  | sl (t : TypeId)

section
variable {H : Type} {enc : TypeId × Value → H} {P : Program} {W : World}

def Fit1 (enc : TypeId × Value → H) (P : Program) (W : World) : LK → Value → Prop
  | .int k, v => ∃ a, v = .int k a ∧ (Lit.int k a).wf = true
  | .bool, v => ∃ b, v = .bool b
  | .str, v => ∃ l, v = .string (str l) ∧ l.length ≤ maxLen
  | .sl t, v => ∃ n y, DataW.trod enc P W 0 (fun _ => true) true n t [v] = some y
def Fit (enc : TypeId × Value → H) (P : Program) (W : World) : List LK → List Value → Prop
  | [], [] => True
  | k :: ks, v :: vs => Fit1 enc P W k v ∧ Fit enc P W ks vs
  | _, _ => False
theorem Fit.append : ∀ {a b : List LK} {x y : List Value}, Fit enc P W a x → Fit enc P W b y → Fit enc P W (a ++ b) (x ++ y)
  | [], _, [], _, _, h => h
  | _ :: _, _, _ :: _, _, ⟨h1, h2⟩, h => ⟨h1, Fit.append h2 h⟩
  | [], _, _ :: _, _, h, _ => h.elim
  | _ :: _, _, [], _, h, _ => h.elim

theorem Fit.cons {k : LK} {ks : List LK} {cs : List Value} (h : Fit enc P W (k :: ks) cs) : ∃ v vs, cs = v :: vs ∧ Fit1 enc P W k v ∧ Fit enc P W ks vs := by
  cases cs with
  | nil => exact h.elim
  | cons v vs => exact ⟨v, vs, rfl, h.1, h.2⟩
theorem Fit.nil {cs : List Value} (h : Fit enc P W [] cs) : cs = [] := by
  cases cs with
  | nil => rfl
  | cons v vs => exact h.elim
theorem Fit1.int {k : IntKind} {v : Value} (h : Fit1 enc P W (.int k) v) : ∃ a, v = .int k a ∧ (Lit.int k a).wf = true := h
theorem Fit1.bool {v : Value} (h : Fit1 enc P W .bool v) : ∃ b, v = .bool b := h
theorem Fit1.str {v : Value} (h : Fit1 enc P W .str v) : ∃ l, v = .string (J.str l) ∧ l.length ≤ maxLen := h

def leavesF (P : Program) (rec : TypeId → Option (List LK)) (total : Nat) : Nat → List Field → Option (List LK)
  | off, [] => match Nat.beq off total with
    | true => some []
    | false => none
  | off, f :: fs => match Nat.beq f.offset off with
    | true => match rec f.type with
      | some a => match leavesF P rec total (off + P.cellsOf f.type) fs with
        | some b => some (a ++ b)
        | none => none
      | none => none
    | false => none
def leavesB (P : Program) : Nat → TypeId → Option (List LK)
  | 0, _ => none
  | d + 1, t => match P.underlying t with
    | some (.int k) => some [.int k]
    | some .bool => some [.bool]
    | some .string => some [.str]
    | some (.slice _) => some [.sl t]
    | some (.struct fs) => leavesF P (leavesB P d) (P.cellsOf t) 0 fs.toList
    | some (.array n e) => match leavesB P d e with
      | some a => match Nat.beq (P.cellsOf t) (n * P.cellsOf e) with
        | true => some (List.replicate n a).flatten
        | false => none
      | none => none
    | _ => none

theorem trod_bool' {t : TypeId} {n : Nat} {cs : List Value} {x : DataW H × List MemPlace} (ht : P.underlying t = some .bool) (h : DataW.trod enc P W 0 (fun _ => true) true n t cs = some x) : ∃ b, cs = [.bool b] := by
  cases n with
  | zero => simp [DataW.trod] at h
  | succ n =>
    unfold DataW.trod at h
    rw [ht] at h
    split at h <;> simp_all

theorem trod_fit : ∀ (d n : Nat) (t : TypeId) (cs : List Value) (x : DataW H × List MemPlace) (ks : List LK), leavesB P d t = some ks → DataW.trod enc P W 0 (fun _ => true) true n t cs = some x → Fit enc P W ks cs
  | 0, _, _, _, _, _, h, _ => by cases h
  | d + 1, n, t, cs, x, ks, h, hx => by
    have ih := trod_fit d
    unfold leavesB at h
    cases hu : P.underlying t with
    | none => rw [hu] at h; cases h
    | some u =>
      rw [hu] at h
      cases u <;> simp only at h <;> try (cases h; done)
      case int k =>
        cases h
        obtain ⟨a, rfl, _, h3⟩ := DataW.trod_int hu hx
        exact ⟨⟨a, rfl, h3⟩, trivial⟩
      case bool =>
        cases h
        obtain ⟨b, rfl⟩ := trod_bool' hu hx
        exact ⟨⟨b, rfl⟩, trivial⟩
      case string =>
        cases h
        obtain ⟨s, rfl, _, h3⟩ := DataW.trod_string hu hx
        obtain ⟨l, rfl⟩ := str_of s
        exact ⟨⟨l, rfl, by rw [str_size] at h3; exact h3⟩, trivial⟩
      case slice e =>
        cases h
        have : ∃ v, cs = [v] := by
          rcases DataW.trod_slice hu hx with ⟨rfl, _⟩ | ⟨a, len, cap, _, _, _, _, rfl, _⟩
          · exact ⟨_, rfl⟩
          · exact ⟨_, rfl⟩
        obtain ⟨v, rfl⟩ := this
        exact ⟨⟨n, x, hx⟩, trivial⟩
      case array k e =>
        cases h1 : leavesB P d e with
        | none => rw [h1] at h; cases h
        | some a =>
          rw [h1] at h
          simp only at h
          cases hb : Nat.beq (P.cellsOf t) (k * P.cellsOf e) with
          | false => rw [hb] at h; cases h
          | true =>
            rw [hb] at h
            cases h
            have hl0 := Nat.eq_of_beq_eq_true hb
            obtain ⟨xs, m, _, _, hlen, hxl, hf⟩ := DataW.trod_array hu hx
            have key : ∀ i, i ≤ k → Fit enc P W ((List.replicate i a).flatten) (cs.drop ((k - i) * P.cellsOf e)) := by
              intro i
              induction i with
              | zero =>
                intro _
                rw [List.drop_eq_nil_of_le (by rw [hlen, hl0, Nat.sub_zero]; exact Nat.le_refl _)]
                trivial
              | succ i ih2 =>
                intro hi
                have e1 := hf (k - (i + 1)) (by omega)
                have hj : k - (i + 1) < xs.length := by omega
                rw [List.getElem?_eq_getElem hj] at e1
                have g1 := ih m e _ _ a h1 e1
                have g2 := ih2 (by omega)
                have e2 : (k - (i + 1)) * P.cellsOf e + P.cellsOf e = (k - i) * P.cellsOf e := by rw [← Nat.succ_mul]; congr 1; omega
                rw [List.replicate_succ, List.flatten_cons, show cs.drop ((k - (i + 1)) * P.cellsOf e) = (cs.drop ((k - (i + 1)) * P.cellsOf e)).take (P.cellsOf e) ++ cs.drop ((k - i) * P.cellsOf e) by
                  rw [← e2, ← List.drop_drop, List.take_append_drop]]
                exact Fit.append g1 g2
            have := key k (Nat.le_refl _)
            simpa using this
      case struct fs =>
        obtain ⟨xs, n', _, _, hlen, hxs, hf⟩ := DataW.trod_struct hu hx
        have hf' : ∀ f ∈ fs.toList, ∃ y, DataW.trod enc P W 0 (fun _ => true) true n' f.type ((cs.drop f.offset).take (P.cellsOf f.type)) = some y := fun f hm => by
          obtain ⟨i, hi, he⟩ := List.mem_iff_getElem.1 hm
          have hi' : i < fs.size := by simpa using hi
          have h1 : fs[i]? = some f := by
            rw [Array.getElem?_eq_getElem hi']
            congr 1
          exact ⟨xs[i], by rw [hf i f h1, List.getElem?_eq_getElem]⟩
        have key : ∀ (l : List Field) (off : Nat) (ks : List LK), (∀ f ∈ l, ∃ y, DataW.trod enc P W 0 (fun _ => true) true n' f.type ((cs.drop f.offset).take (P.cellsOf f.type)) = some y) →
            leavesF P (leavesB P d) (P.cellsOf t) off l = some ks → Fit enc P W ks (cs.drop off) := by
          intro l
          induction l with
          | nil =>
            intro off ks _ h
            unfold leavesF at h
            cases hb : Nat.beq off (P.cellsOf t) with
            | false => rw [hb] at h; cases h
            | true =>
              rw [hb] at h
              cases h
              have := Nat.eq_of_beq_eq_true hb
              rw [List.drop_eq_nil_of_le (by omega)]
              trivial
          | cons f l ihl =>
            intro off ks hl h
            unfold leavesF at h
            cases hb : Nat.beq f.offset off with
            | false => rw [hb] at h; cases h
            | true =>
              rw [hb] at h
              simp only at h
              have hoff := Nat.eq_of_beq_eq_true hb
              cases h1 : leavesB P d f.type with
              | none => rw [h1] at h; cases h
              | some a =>
                rw [h1] at h
                simp only at h
                cases h2 : leavesF P (leavesB P d) (P.cellsOf t) (off + P.cellsOf f.type) l with
                | none => rw [h2] at h; cases h
                | some b =>
                  rw [h2] at h
                  cases h
                  obtain ⟨y, hy⟩ := hl f (List.mem_cons_self ..)
                  rw [hoff] at hy
                  have g1 := ih n' f.type _ y a h1 hy
                  have g2 := ihl (off + P.cellsOf f.type) b (fun g hg => hl g (List.mem_cons_of_mem _ hg)) h2
                  rw [show cs.drop off = (cs.drop off).take (P.cellsOf f.type) ++ cs.drop (off + P.cellsOf f.type) by
                    rw [← List.drop_drop, List.take_append_drop]]
                  exact Fit.append g1 g2
        have := key fs.toList 0 ks hf' h
        simpa using this

/-- an element of a slice, by its leaves -/
theorem dec_flat {α : Type} {f : α → List Value} {φ : α → Prop} {e : TypeId} (ks : List LK) (hk : leavesB P 6 e = some ks) (h : ∀ cs, Fit enc P W ks cs → ∃ a, cs = f a ∧ φ a) :
    ∀ n cs' y, cs'.length = P.cellsOf e → DataW.trod enc P W 0 (fun _ => true) true n e cs' = some y → ∃ a, cs' = f a ∧ φ a := fun n cs' y _ hy =>
  h cs' (trod_fit 6 n e cs' y ks hk hy)
theorem dec_flat' {α : Type} {f : α → List Value} {φ : α → Prop} {e : TypeId} {sz : Nat} (ks : List LK) (hk : leavesB P 6 e = some ks) (h : ∀ cs, Fit enc P W ks cs → ∃ a, cs = f a ∧ φ a) :
    ∀ n cs' y, cs'.length = sz → DataW.trod enc P W 0 (fun _ => true) true n e cs' = some y → ∃ a, cs' = f a ∧ φ a := fun n cs' y _ hy =>
  h cs' (trod_fit 6 n e cs' y ks hk hy)
/-- an argument that is a struct -/
theorem open_flat_arg {α : Type} {f : α → List Value} {φ : α → Prop} {t : TypeId} {fs : Array Field} {base : Nat} {v : Value} {d : DataW H} {ps : List MemPlace} (ks : List LK) (ht : P.underlying t = some (.struct fs)) (hk : leavesB P 6 t = some ks)
    (h : ∀ cs, Fit enc P W ks cs → ∃ a, cs = f a ∧ φ a) {r : Reach} (hv : Value.okWide P W r base t v) (hx : DataW.Trod enc P W 0 (fun _ => true) true t v d ps) : ∃ a, v = .agg (f a).toArray ∧ φ a := by
  obtain ⟨cs, rfl, _⟩ := okWide_struct ht hv
  obtain ⟨fuel, hfl⟩ := hx
  obtain ⟨a, h1, h2⟩ := h _ (trod_fit 6 fuel t _ _ ks hk hfl)
  refine ⟨a, ?_, h2⟩
  have : cs.toList = f a := by simpa [Value.cells] using h1
  rw [← this]
/-- a slice that is part of something -/
theorem Fit1.sl {α : Type} [Inhabited α] {f : α → List Value} {sz : Nat} (hf : Fl f sz) (φ : α → Prop) {t e : TypeId} {v : Value} (ht : P.underlying t = some (.slice e)) (hc : P.cellsOf e = sz)
    (hdec : ∀ n cs' y, cs'.length = sz → DataW.trod enc P W 0 (fun _ => true) true n e cs' = some y → ∃ a, cs' = f a ∧ φ a) (h : Fit1 enc P W (.sl t) v) : ∃ p c l, v = .slice p l.length c ∧ Sl (memOf W) f sz p c l ∧ ∀ a ∈ l, φ a := by
  obtain ⟨n, y, hy⟩ := h
  obtain ⟨p, c, l, h1, h2⟩ := open_sl hf φ ht hc hdec hy
  exact ⟨p, c, l, by simpa using h1, h2⟩
end
end Go.J
/- Matchers (plain): labels that are asked for are hit; a law's arguments. -/
set_option linter.unusedSimpArgs false
set_option linter.unusedVariables false
set_option linter.unusedSectionVars false
set_option maxRecDepth 20000
set_option maxHeartbeats 4000000
namespace Go.Proofs.Ytjncahmbllmllaa
open Go Go.J
namespace Lb
theorem right_lt {l : List Lab} (h : right l) : ∀ (d i : Nat), i + d + 1 < l.length → ltB l[i]!.n l[i + d + 1]!.n = true
  | 0, i, hi => by
    have := (of_decide_eq_true (h.2.2.1 (i + 0 + 1) hi)).2.2 (by omega)
    simpa using this
  | d + 1, i, hi => by
    have h1 := right_lt h d i (by omega)
    have h2 := (of_decide_eq_true (h.2.2.1 (i + (d + 1) + 1) hi)).2.2 (by omega)
    have h3 : ltB l[i + d + 1]!.n l[i + (d + 1) + 1]!.n = true := by rw [show i + d + 1 = i + (d + 1) + 1 - 1 by omega]; exact h2
    exact ltB_trans h1 h3
theorem val_right {l : List Lab} (h : right l) {x : Lab} (hx : x ∈ l) : val l x.n = x.v := by
  obtain ⟨i, hi, rfl⟩ := List.mem_iff_getElem.1 hx
  have e : l[i]! = l[i] := getElem!_pos l i hi
  rw [← e]
  refine val_at hi rfl fun k hk => ?_
  have := right_lt h (i - k - 1) k (by omega)
  rw [show k + (i - k - 1) + 1 = i by omega] at this
  exact ltB_ne this
end Lb
namespace Mt
theorem all_snoc (ms : List Mat) (x : Mat) (l : List Lab) : all (ms ++ [x]) l = (all ms l && hit x l) := by
  rw [Bool.eq_iff_iff, Bool.and_eq_true]
  unfold all
  rw [decide_eq_true_eq, decide_eq_true_eq]
  constructor
  · intro h
    refine ⟨fun i hi => ?_, ?_⟩
    · have := h i (by simp; omega)
      rwa [getElem!_pos _ i (by simp; omega), List.getElem_append_left hi, ← getElem!_pos ms i hi] at this
    · have := h ms.length (by simp)
      rw [getElem!_pos _ ms.length (by simp), List.getElem_append_right (Nat.le_refl _)] at this
      simpa using this
  · rintro ⟨h1, h2⟩ i hi
    rw [getElem!_pos _ i hi]
    by_cases e : i < ms.length
    · rw [List.getElem_append_left e]
      have := h1 i e
      rwa [getElem!_pos ms i e] at this
    · rw [List.getElem_append_right (by omega)]
      simpa using h2
theorem ex_all {ms : List Mat} (h : exB ms = true) : all ms (exL ms) = true ∧ (exL ms).length = ms.length := by
  obtain ⟨h1, h2⟩ := of_decide_eq_true h
  have e := (ex_yes ⟨h1, h2⟩).2
  rw [e]
  refine ⟨decide_eq_true fun i hi => ?_, len_lab ms⟩
  rw [hit1 (h1 i hi).1]
  refine decide_eq_true ?_
  exact Lb.val_right (x := lab ms[i]!) h2 (Lb.mem_srt.2 (List.mem_map.2 ⟨_, Ls.mem! hi, rfl⟩))
theorem eq_other (x : Mat) (l : List Lab) : hit { x with k := 2 } l = !hit { x with k := 1 } l := by
  rw [hit1 (x := { x with k := 1 }) rfl, hit2 (x := { x with k := 2 }) rfl]
theorem eq_begins (x : Mat) (l : List Lab) (h : hit { x with k := 1 } l = true) : hit { x with k := 3 } l = true := by
  rw [hit1 (x := { x with k := 1 }) rfl] at h
  rw [hit3 (x := { x with k := 3 }) rfl]
  have := of_decide_eq_true h
  exact decide_eq_true (by rw [this]; exact List.prefix_refl _)
open Go.RowKit
theorem dec_lab {H : Type} {enc : TypeId × Value → H} {P : Program} {W : World} : ∀ cs, Go.J.Fit enc P W [.str, .str] cs → ∃ a : Lab, cs = Lb.cells a ∧ True := by
  intro cs h
  obtain ⟨_, _, rfl, h1, h⟩ := h.cons
  obtain ⟨_, _, rfl, h2, h⟩ := h.cons
  obtain rfl := h.nil
  obtain ⟨a, rfl, _⟩ := h1.str
  obtain ⟨t, rfl, _⟩ := h2.str
  exact ⟨⟨a, t⟩, rfl, trivial⟩
theorem dec_mat {H : Type} {enc : TypeId × Value → H} {P : Program} {W : World} : ∀ cs, Go.J.Fit enc P W [.int .u8, .str, .str] cs → ∃ a : Mat, cs = cells a ∧ a.k < 256 := by
  intro cs h
  obtain ⟨_, _, rfl, h0, h⟩ := h.cons
  obtain ⟨_, _, rfl, h1, h⟩ := h.cons
  obtain ⟨_, _, rfl, h2, h⟩ := h.cons
  obtain rfl := h.nil
  obtain ⟨k, rfl, wk⟩ := h0.int
  obtain ⟨a, rfl, _⟩ := h1.str
  obtain ⟨t, rfl, _⟩ := h2.str
  have hb : 0 ≤ k ∧ k ≤ 255 := by
    simp only [Lit.wf, IntKind.min, IntKind.max, IntKind.signed, IntKind.bits, Bool.and_eq_true, decide_eq_true_eq] at wk
    simpa using wk
  exact ⟨⟨k.toNat, a, t⟩, by show _ = [Value.int .u8 (k.toNat : Int), _, _]; rw [Int.toNat_of_nonneg hb.1], by show k.toNat < 256; omega⟩
theorem dec_lbs {H : Type} {enc : TypeId × Value → H} {W : World} : ∀ cs, Go.J.Fit enc Try.prog W [.sl 22] cs → ∃ x : SL, cs = Ls.fX x ∧ Sl (memOf W) Lb.cells 2 x.p x.c x.l := by
  intro cs h
  obtain ⟨v, _, rfl, h1, h⟩ := h.cons
  obtain rfl := h.nil
  obtain ⟨p, c, l, rfl, h2, _⟩ := Fit1.sl (f := Lb.cells) inferInstance (fun _ => True) Try.underlying22 (by rfl) (dec_flat' [.str, .str] (by kernel_rfl) dec_lab) h1
  exact ⟨⟨l, p, c⟩, rfl, h2⟩
end Mt
end Go.Proofs.Ytjncahmbllmllaa
/- TopExact: the plain law, and as it is walked. -/
set_option linter.unusedSimpArgs false
set_option linter.unusedVariables false
set_option linter.unusedSectionVars false
set_option maxRecDepth 20000
set_option maxHeartbeats 4000000
namespace Go.Proofs.Ytjncahmbllmllaa
open Go Go.J
attribute [local irreducible] At AtQ AtM AtM1 PR Ct Pu Rd Res.blk Res.own Res.ex RVs RV Cod.W
namespace Top3
open Lb (bytesL bodyL right few chk check chk_ok chk_right rot rot_perm rot_len rot_at srt_right val_right)
open Mt (SL exactC mids1 hitC Mids lab eqs hit hit1 all exL exB ex_yes pickI pickI_snoc Lbs)
abbrev lX : List Lab := [⟨[97], [120]⟩]
abbrev eX : Mat := ⟨1, [97], [120]⟩
abbrev bX : Mat := ⟨3, [98], []⟩
theorem mid_lX : Lb.Mid lX := fun i hi => by
  have : i = 0 := by simpa using hi
  subst this; exact ⟨by decide, by decide⟩
theorem bytes_lX : bytesL lX = [1, 1, 97, 1, 120] := by
  unfold bytesL bodyL
  rw [show lX.length = 1 from rfl, Cod.uintB_lt (by decide)]
  show _ ++ ((Cod.textB [97] ++ Cod.textB [120]) ++ []) = _
  unfold Cod.textB
  rw [show ([97] : List UInt8).length = 1 from rfl, show ([120] : List UInt8).length = 1 from rfl, Cod.uintB_lt (by decide)]
  rfl
theorem bytesC {m : Mem} (p : Option Addr) (c : Nat) (sl0 : Sl m Lb.cells 2 p c lX) :
    Rd Try.prog 16 #[.slice p 1 c] m [] (.tuple #[.string (str [1, 1, 97, 1, 120]), .int .i64 0]) := by
  have h := Lb.bytes p c lX mid_lX sl0
  rw [if_pos (by decide), chk_ok (by decide), bytes_lX] at h
  exact h
theorem sameC {m : Mem} (p : Option Addr) (c n : Nat) (a : List Lab) (q : Option Addr) (d k : Nat) (hl : a.length ≤ 1000000000) (hn : a.length = n) (hk : a.length = k) (sl0 : Sl m Lb.cells 2 p c a) (sl1 : Sl m Lb.cells 2 q d a) :
    Rd Try.prog 11 #[.slice p n c, .slice q k d] m [] (.bool true) := by
  have h := Lb.same p c a q d a hl hl sl0 sl1
  rw [decide_eq_true rfl] at h
  subst hn
  rw [← hk]; exact h
set_option maxHeartbeats 4000000 in
theorem begins : Pu Try.prog 5 #[] (.bool true) := Pu.of_le fun m => by
  refine Ct.enterV (by rfl) Try.func5 rfl Try.ntmps5 rfl (fun w0 Rest => ?_)
  (repeat' (first | refine zss ?_ | refine zsM ?_ | ((with_reducible apply At.litF Lb.cells lX); exact inferInstance; (iterate 7 exact rfl); intro b' m' hm' sl1; (try replace sl2 := sl2.mono hm'); (try replace sl5 := sl5.mono hm')) | ((with_reducible apply At.litF Mt.cells [eX]); exact inferInstance; (iterate 7 exact rfl); intro b' m' hm' sl2; (try replace sl1 := sl1.mono hm'); (try replace sl5 := sl5.mono hm')) | ((with_reducible first | apply AtM1.cr | apply AtQ.cr | apply At.cr); exact rfl; exact rfl; exact fun _ hmm => bytesC _ _ (sl1.mono hmm); exact ztk; kernel_rfl) | ((with_reducible first | apply At.c1 | apply At.c0); exact rfl; exact rfl; exact exactC _ _ 1 [eX] lX 1 true (by decide) (mids1 _ ⟨by decide, by decide⟩) rfl (by decide) (by decide) rfl sl2; exact ztk; kernel_rfl; rintro v' m' B' hm' ⟨rfl, p5, c5, rfl, sl5⟩; (try replace sl1 := sl1.mono hm'); (try replace sl2 := sl2.mono hm'); (try replace sl5 := sl5.mono hm'); (try (have hq0 : hm' = Mem.le_refl _ := rfl; clear hq0 hm'))) | ((with_reducible first | apply AtM1.cr | apply AtQ.cr | apply At.cr); exact rfl; exact rfl; exact fun _ hmm => sameC _ _ 1 lX _ _ 1 (by decide) rfl rfl (sl5.mono hmm) (sl1.mono hmm); exact ztk; kernel_rfl) | ((with_reducible first | apply AtM1.cr | apply AtQ.cr | apply At.cr); exact rfl; exact rfl; exact fun _ hmm => hitC bX _ _ 1 lX true (by decide) rfl (by decide) (sl1.mono hmm); exact ztk; kernel_rfl) | (refine zsp ?_ ?_ <;> (intro hc; (try simp only [zhcs, reduceCtorEq] at hc); (try (exfalso; first | contradiction | omega | exact absurd rfl hc | exact absurd (by decide) hc))))))
  all_goals ((with_reducible apply At.retB1 (B := [])); exact rfl; exact rfl; exact zml; exact zkp; exact ⟨rfl, zml, rfl⟩)
/-- a label's matcher -/
def mt (x : Lab) : Mat := ⟨1, x.n, x.v⟩
theorem lab_mt (l : List Lab) : (l.map mt).map lab = l := by
  rw [List.map_map]
  conv => rhs; rw [← List.map_id l]
  exact List.map_congr_left fun x _ => rfl
theorem eqs_mt {l : List Lab} (h : ∀ x ∈ l, x.v ≠ []) : eqs (l.map mt) := fun i hi => by
  rw [getElem!_pos _ i hi, List.getElem_map]
  rw [List.length_map] at hi
  exact ⟨rfl, h _ (List.getElem_mem hi)⟩
theorem hit_mt (x : Lab) (o : List Lab) : hit (mt x) o = decide (Lb.val o x.n = x.v) := hit1 rfl
theorem all_mem {ms : List Mat} {o : List Lab} : all ms o = true ↔ ∀ x ∈ ms, hit x o = true := by
  unfold all
  rw [decide_eq_true_eq]
  constructor
  · intro h x hx
    obtain ⟨i, hi, rfl⟩ := List.mem_iff_getElem.1 hx
    have := h i hi
    rwa [getElem!_pos ms i hi] at this
  · intro h i hi
    exact h _ (Ls.mem! hi)
theorem exact_rot {l : List Lab} (h : Lb.right l) (k : Nat) (hv : ∀ x ∈ l, x.v ≠ []) : exL ((rot l k).map mt) = l ∧ exB ((rot l k).map mt) = true := by
  have hs : Lb.srtL (((rot l k).map mt).map lab) = l := by rw [lab_mt]; exact srt_right h (rot_perm l k)
  have := ex_yes (ms := (rot l k).map mt) ⟨eqs_mt fun x hx => hv x ((rot_perm l k).subset hx), by rw [hs]; exact h⟩
  exact ⟨by rw [this.2, hs], this.1⟩
theorem all_self {l : List Lab} (h : Lb.right l) (k : Nat) : all ((rot l k).map mt) l = true := all_mem.2 fun x hx => by
  obtain ⟨y, hy, rfl⟩ := List.mem_map.1 hx
  rw [hit_mt]
  exact decide_eq_true (val_right h ((rot_perm l k).subset hy))
theorem all_nil {l : List Lab} (h : Lb.right l) (k : Nat) (hv : ∀ x ∈ l, x.v ≠ []) : all ((rot l k).map mt) [] = false := by
  cases e : all ((rot l k).map mt) [] with
  | false => rfl
  | true =>
    have h1 := h.1
    have hr := rot_len l k
    have hx : (rot l k)[0]! ∈ rot l k := Ls.mem! (by omega)
    have := all_mem.1 e _ (List.mem_map.2 ⟨_, hx, rfl⟩)
    rw [hit_mt] at this
    exact absurd (of_decide_eq_true this).symm (hv _ ((rot_perm l k).subset hx))
theorem chk_one {l : List Lab} (h : Lb.right l) {x : Lab} (hx : x ∈ l) : Lb.chk [x] = 0 := by
  obtain ⟨i, hi, rfl⟩ := List.mem_iff_getElem.1 hx
  have h1 := of_decide_eq_true (h.2.2.1 i hi)
  have h2 := Lb.tot_take_le l (i + 1)
  have h3 := Lb.tot_take hi
  have h4 := h.2.2.2
  rw [getElem!_pos l i hi] at h1 h3
  refine Lb.chk_ok ⟨Nat.le_refl 1, (by decide : 1 ≤ 16), fun j hj => ?_, ?_⟩
  · have : j = 0 := by simpa using hj
    subst this
    exact decide_eq_true ⟨h1.1, h1.2.1, fun k => absurd k (Nat.lt_irrefl 0)⟩
  · show (([l[i]].map fun x => x.n.length + x.v.length).sum ≤ 256)
    simp
    omega
theorem check_rot {l : List Lab} (h : Lb.right l) (k : Nat) : Mt.chk ((rot l k).map mt) = 0 := if_pos ⟨by rw [List.length_map, rot_len]; exact h.2.1, fun i hi => by
  rw [getElem!_pos _ i hi, List.getElem_map]
  rw [List.length_map] at hi
  exact decide_eq_true ⟨⟨Nat.le_refl 1, (by decide : 1 ≤ 3)⟩, chk_one h ((rot_perm l k).subset (List.getElem_mem hi))⟩⟩
theorem mids_rot {l : List Lab} (h : Lb.Mid l) (k : Nat) : Mids ((rot l k).map mt) := fun i hi => by
  rw [getElem!_pos _ i hi, List.getElem_map]
  rw [List.length_map] at hi
  exact h.to _ ((rot_perm l k).subset (List.getElem_mem hi))
def msA (r : List Lab) (i : Nat) : List Mat := (r.take i).map mt
theorem msA_snoc {r : List Lab} {i : Nat} (h : i < r.length) : msA r (i + 1) = msA r i ++ [mt r[i]!] := by
  unfold msA; rw [Ls.take_snoc h, List.map_append]; rfl
theorem picked {l o : List Lab} (h : Lb.right l) (k : Nat) (hv : ∀ x ∈ l, x.v ≠ []) (p q : Option Addr) (c d : Nat) :
    pickI ((rot l k).map mt) [⟨o, p, c⟩, ⟨l, q, d⟩, ⟨[], none, 0⟩] 3 = if all ((rot l k).map mt) o then [0, 1] else [1] := by
  have h1 := all_self h k
  have h2 := all_nil h k hv
  generalize (rot l k).map mt = M at *
  rw [pickI_snoc, pickI_snoc, pickI_snoc]
  rw [show all M ([⟨o, p, c⟩, ⟨l, q, d⟩, ⟨[], none, 0⟩] : List SL)[0]!.l = all M o from rfl, show all M ([⟨o, p, c⟩, ⟨l, q, d⟩, ⟨[], none, 0⟩] : List SL)[1]!.l = all M l from rfl, show all M ([⟨o, p, c⟩, ⟨l, q, d⟩, ⟨[], none, 0⟩] : List SL)[2]!.l = all M [] from rfl, h1, h2]
  cases all M o <;> rfl
theorem str_dec (a b : List UInt8) : decide (str a = str b) = decide (a = b) := by rw [decide_eq_decide]; exact str_inj
structure XS where
  (i : Nat) (p : Option Addr) (c : Nat)
abbrev owM (p : Option Addr) (c : Nat) (l : List Mat) : Res := .own Mt.cells 3 33 p c l
theorem lbs_3 {m : Mem} {p q : Option Addr} {c d : Nat} {o l : List Lab} (ho : o.length ≤ 1000000000) (hl : l.length ≤ 1000000000) (s1 : Sl m Lb.cells 2 p c o) (s2 : Sl m Lb.cells 2 q d l) : Lbs m [⟨o, p, c⟩, ⟨l, q, d⟩, ⟨[], none, 0⟩] := fun i hi => by
  have : i = 0 ∨ i = 1 ∨ i = 2 := by have : i < 3 := hi; omega
  rcases this with rfl | rfl | rfl
  · exact ⟨ho, s1⟩
  · exact ⟨hl, s2⟩
  · exact ⟨Nat.zero_le _, Sl.empty _ inferInstance⟩
set_option maxHeartbeats 8000000 in
theorem exactT {m : Mem} (p : Option Addr) (c : Nat) (l : List Lab) (q : Option Addr) (d : Nat) (o : List Lab) (at' : Int) (hat : -9223372036854775808 ≤ at' ∧ at' ≤ 9223372036854775807) (sl0 : Sl m Lb.cells 2 p c l) (sl1 : Sl m Lb.cells 2 q d o) :
    Ct Try.prog 3 #[.slice p l.length c, .slice q o.length d, .int .i64 at'] m [] (fun v m' B => v = .bool true ∧ B = []) := by
  have hbg := begins
  have hs1 := fun (m' : Mem) (hm' : m.le m') => Lb.small (m := m') p c l (sl0.mono hm')
  have hs2 := fun (m' : Mem) (hm' : m.le m') => Lb.small (m := m') q d o (sl1.mono hm')
  by_cases hf : few l
  rotate_left
  · rw [if_neg hf] at hs1
    refine Ct.enterV (by rfl) Try.func3 rfl Try.ntmps3 rfl (fun w0 Rest => ?_)
    (repeat' (first | refine zss ?_ | refine zsM ?_ | ((with_reducible first | apply AtM1.callp | apply AtQ.callp | apply At.callp); kernel_rfl; exact rfl; exact rfl; exact hbg) | ((with_reducible first | apply AtM1.cr | apply AtQ.cr | apply At.cr); exact rfl; exact rfl; exact fun _ hmm => hs1 _ hmm; exact ztk; kernel_rfl) | ((with_reducible apply At.alloc (d := 10)); exact rfl; exact rfl; intro b10) | (refine zsp ?_ ?_ <;> (intro hc; (try simp only [zhcs, reduceCtorEq] at hc); (try (exfalso; first | omega | contradiction | omega | exact absurd rfl hc | exact absurd (by decide) hc))))))
    all_goals ((with_reducible apply At.retB1 (B := [])); exact rfl; exact rfl; exact zml; exact zkp; exact ⟨rfl, rfl⟩)
  rw [if_pos hf] at hs1
  by_cases hfo : few o
  rotate_left
  · rw [if_neg hfo] at hs2
    refine Ct.enterV (by rfl) Try.func3 rfl Try.ntmps3 rfl (fun w0 Rest => ?_)
    (repeat' (first | refine zss ?_ | refine zsM ?_ | ((with_reducible first | apply AtM1.callp | apply AtQ.callp | apply At.callp); kernel_rfl; exact rfl; exact rfl; exact hbg) | ((with_reducible first | apply AtM1.cr | apply AtQ.cr | apply At.cr); exact rfl; exact rfl; exact fun _ hmm => hs1 _ hmm; exact ztk; kernel_rfl) | ((with_reducible first | apply AtM1.cr | apply AtQ.cr | apply At.cr); exact rfl; exact rfl; exact fun _ hmm => hs2 _ hmm; exact ztk; kernel_rfl) | ((with_reducible apply At.alloc (d := 10)); exact rfl; exact rfl; intro b10) | (refine zsp ?_ ?_ <;> (intro hc; (try simp only [zhcs, reduceCtorEq] at hc); (try (exfalso; first | omega | contradiction | omega | exact absurd rfl hc | exact absurd (by decide) hc))))))
    all_goals ((with_reducible apply At.retB1 (B := [])); exact rfl; exact rfl; exact zml; exact zkp; exact ⟨rfl, rfl⟩)
  rw [if_pos hfo] at hs2
  have hk := fun (m' : Mem) (hm' : m.le m') => check (m := m') p c l hf.mid (sl0.mono hm')
  by_cases hr : right l
  rotate_left
  · have hd : chk l ≠ 0 := fun k => hr (chk_right.1 k)
    generalize chk l = w at hk hd
    refine Ct.enterV (by rfl) Try.func3 rfl Try.ntmps3 rfl (fun w0 Rest => ?_)
    (repeat' (first | refine zss ?_ | refine zsM ?_ | ((with_reducible first | apply AtM1.callp | apply AtQ.callp | apply At.callp); kernel_rfl; exact rfl; exact rfl; exact hbg) | ((with_reducible first | apply AtM1.cr | apply AtQ.cr | apply At.cr); exact rfl; exact rfl; exact fun _ hmm => hs1 _ hmm; exact ztk; kernel_rfl) | ((with_reducible first | apply AtM1.cr | apply AtQ.cr | apply At.cr); exact rfl; exact rfl; exact fun _ hmm => hs2 _ hmm; exact ztk; kernel_rfl) | ((with_reducible first | apply AtM1.cr | apply AtQ.cr | apply At.cr); exact rfl; exact rfl; exact fun _ hmm => hk _ hmm; exact ztk; kernel_rfl) | ((with_reducible apply At.alloc (d := 10)); exact rfl; exact rfl; intro b10) | (refine zsp ?_ ?_ <;> (intro hc; (try simp only [zhcs, reduceCtorEq] at hc); (try (exfalso; first | (first | omega | exact absurd hc hd) | contradiction | omega | exact absurd rfl hc | exact absurd (by decide) hc))))))
    all_goals ((with_reducible apply At.retB1 (B := [])); exact rfl; exact rfl; exact zml; exact zkp; exact ⟨rfl, rfl⟩)
  rw [chk_ok hr] at hk
  by_cases ha : 0 ≤ at' ∧ at' ≤ l.length
  rotate_left
  · refine Ct.enterV (by rfl) Try.func3 rfl Try.ntmps3 rfl (fun w0 Rest => ?_)
    (repeat' (first | refine zss ?_ | refine zsM ?_ | ((with_reducible first | apply AtM1.callp | apply AtQ.callp | apply At.callp); kernel_rfl; exact rfl; exact rfl; exact hbg) | ((with_reducible first | apply AtM1.cr | apply AtQ.cr | apply At.cr); exact rfl; exact rfl; exact fun _ hmm => hs1 _ hmm; exact ztk; kernel_rfl) | ((with_reducible first | apply AtM1.cr | apply AtQ.cr | apply At.cr); exact rfl; exact rfl; exact fun _ hmm => hs2 _ hmm; exact ztk; kernel_rfl) | ((with_reducible first | apply AtM1.cr | apply AtQ.cr | apply At.cr); exact rfl; exact rfl; exact fun _ hmm => hk _ hmm; exact ztk; kernel_rfl) | ((with_reducible apply At.alloc (d := 10)); exact rfl; exact rfl; intro b10) | (refine zsp ?_ ?_ <;> (intro hc; (try simp only [zhcs, reduceCtorEq] at hc); (try (exfalso; first | omega | contradiction | omega | exact absurd rfl hc | exact absurd (by decide) hc))))))
    all_goals ((with_reducible apply At.retB1 (B := [])); exact rfl; exact rfl; exact zml; exact zkp; exact ⟨rfl, rfl⟩)
  obtain ⟨k, rfl⟩ : ∃ k : Nat, at' = (k : Int) := ⟨at'.toNat, by omega⟩
  have hln : l.length ≤ 16 := hr.2.1
  have hol : o.length ≤ 40 := hfo.1
  have hrl := rot_len l k
  obtain ⟨r, hR⟩ : ∃ r, rot l k = r := ⟨_, rfl⟩
  rw [hR] at hrl
  refine Ct.enterV (by rfl) Try.func3 rfl Try.ntmps3 rfl (fun w0 Rest => ?_)
  (repeat' (first | refine zss ?_ | refine zsM ?_ | ((with_reducible first | apply AtM1.callp | apply AtQ.callp | apply At.callp); kernel_rfl; exact rfl; exact rfl; exact hbg) | ((with_reducible first | apply AtM1.cr | apply AtQ.cr | apply At.cr); exact rfl; exact rfl; exact fun _ hmm => hs1 _ hmm; exact ztk; kernel_rfl) | ((with_reducible first | apply AtM1.cr | apply AtQ.cr | apply At.cr); exact rfl; exact rfl; exact fun _ hmm => hs2 _ hmm; exact ztk; kernel_rfl) | ((with_reducible first | apply AtM1.cr | apply AtQ.cr | apply At.cr); exact rfl; exact rfl; exact fun _ hmm => hk _ hmm; exact ztk; kernel_rfl) | ((with_reducible apply At.alloc (d := 10)); exact rfl; exact rfl; intro b10) | (refine zsp ?_ ?_ <;> (intro hc; (try simp only [zhcs, reduceCtorEq] at hc); (try (exfalso; first | omega | contradiction | omega | exact absurd rfl hc | exact absurd (by decide) hc))))))
  refine At.own_nil Mt.cells 3 33 ?_
  (refine At.loopk (σ := XS) [0, 1, 2, 40] (fun s F0 => (7, .slice s.p (msA r s.i).length s.c) :: (8, .bool (all (msA r s.i) o)) :: (41, .int .i64 (s.i : Int)) :: F0) (fun s => m) (fun s => owM s.p s.c (msA r s.i) :: Rest) (fun s => s.i ≤ l.length ∧ ∀ j, j < s.i → r[j]!.v ≠ []) (fun s => l.length - s.i) ⟨0, none, 0⟩ (by rfl) ?_ zsubs zml zente ?_)
  · exact ⟨Nat.zero_le _, fun j h => absurd h (Nat.not_lt_zero j)⟩
  rintro ⟨i, p1, c1⟩ ⟨hi, hn⟩
  dsimp only at hi hn ⊢
  by_cases h : i < l.length
  · have hx := rot_at (l := l) (k := k) (i := i) (by omega) h
    rw [hR] at hx
    have hw1 : IntKind.wrap .i64 ((i : Int) + (k : Int)) = ((i + k : Nat) : Int) := by rw [← Int.natCast_add]; exact IntWalk.i64_in _ (by omega)
    have hw2 : (((i + k : Nat) : Int)).tmod (l.length : Int) = (((i + k) % l.length : Nat) : Int) := by rw [Int.tmod_eq_emod_of_nonneg (by omega)]; rfl
    have hlt := Nat.mod_lt (i + k) (show l.length > 0 by omega)
    have hms := msA_snoc (r := r) (i := i) (by omega)
    have hv := fun (m' : Mem) (hm' : m.le m') => Lb.value (m := m') q d o r[i]!.n (by omega) (sl1.mono hm')
    have hal : all (msA r (i + 1)) o = (all (msA r i) o && decide (Lb.val o r[i]!.n = r[i]!.v)) := by rw [hms, Mt.all_snoc, hit_mt]
    have hml : (msA r i).length ≤ 16 := by unfold msA; rw [List.length_map, List.length_take]; omega
    generalize (i + k) % l.length = y at hx hw2 hlt
    rw [← hx] at hv hal hms
    generalize Lb.val o l[y]!.n = V at hv hal
    by_cases hvv : l[y]!.v = []
    · (repeat' (first | refine zss ?_ | ((first | (with_reducible first | apply At.val | apply AtQ.val)); (first | exact pr_add (by rfl) (by rfl) hw1 | exact pr_rem (by rfl) (by rfl) (by omega) hw2); exact rfl) | refine zsM ?_ | ((with_reducible apply At.alloc (d := 10)); exact rfl; exact rfl; intro b10) | (refine zsp ?_ ?_ <;> (intro hc; (try simp only [zhcs, reduceCtorEq] at hc); (try (exfalso; first | (first | omega | exact hc ((str_inj (b := [])).2 hvv)) | contradiction | omega | exact absurd rfl hc | exact absurd (by decide) hc))))))
      all_goals ((with_reducible apply At.retB1 (B := [])); exact rfl; exact rfl; exact zml; exact zkp; exact ⟨rfl, rfl⟩)
    · have hnn : ∀ j, j < i + 1 → r[j]!.v ≠ [] := fun j hj => by
        by_cases e : j = i
        · subst e; rw [← hx]; exact hvv
        · exact hn j (by omega)
      generalize msA r i = Y at hms hal hml ⊢
      cases hA : all Y o
      all_goals
        rw [hA] at hal
        first
          | (rw [Bool.false_and] at hal)
          | (rw [Bool.true_and] at hal)
        (repeat' (first | refine zss ?_ | ((first | (with_reducible first | apply At.val | apply AtQ.val)); (first | exact pr_add (by rfl) (by rfl) hw1 | exact pr_rem (by rfl) (by rfl) (by omega) hw2); exact rfl) | refine zsM ?_ | ((with_reducible first | apply AtM1.cr | apply AtQ.cr | apply At.cr); exact rfl; exact rfl; exact fun _ hmm => hv _ hmm; exact ztk; kernel_rfl) | ((with_reducible apply At.litF Mt.cells [mt l[y]!]); exact inferInstance; (iterate 7 exact rfl); intro b' m' hm' sl2; (try replace sl0 := sl0.mono hm'); (try replace sl1 := sl1.mono hm'); (try replace sl3 := sl3.mono hm'); (try replace sl4 := sl4.mono hm'); (try replace sl5 := sl5.mono hm'); (try replace sl6 := sl6.mono hm')) | ((with_reducible apply At.apW (f := Mt.cells) (l := Y)); exact rfl; exact rfl; exact (by repeat constructor); exact inferInstance; exact zrdl; (iterate 4 exact rfl); exact zom; exact rfl; intro p2 c2) | fail | ((with_reducible apply At.alloc (d := 10)); exact rfl; exact rfl; intro b10) | (refine zsp ?_ ?_ <;> (intro hc; (try simp only [zhcs, reduceCtorEq] at hc); (try (exfalso; first | (first | omega | exact absurd ((str_inj (b := [])).1 hc) hvv) | contradiction | omega | exact absurd rfl hc | exact absurd (by decide) hc))))))
        all_goals rw [← hms, ← hal]
        all_goals ((with_reducible refine At.reachk ((⟨i + 1, p2, c2⟩ : XS)) ?_ ?_ ?_ ?_); exact zsubs; exact zml; exact zente; exact ⟨⟨h, hnn⟩, by dsimp only; omega⟩)
  · have hi : i = l.length := by omega
    subst hi
    have hve : ∀ x ∈ l, x.v ≠ [] := fun x hx => by
      have hx' : x ∈ r := by rw [← hR]; exact (rot_perm l k).symm.subset hx
      obtain ⟨j, hj, rfl⟩ := List.mem_iff_getElem.1 hx'
      have := hn j (by omega)
      rwa [getElem!_pos r j hj] at this
    have hfull : msA r l.length = (rot l k).map mt := by unfold msA; rw [hR, List.take_of_length_le (by omega)]
    have g1 := exact_rot hr k hve
    have g2 := picked (o := o) hr k hve
    have g3 := check_rot hr k
    have g4 : Mids ((rot l k).map mt) := mids_rot hf.mid k
    rw [← hfull] at g1 g2 g3 g4
    have hml : (msA r l.length).length = l.length := by unfold msA; rw [List.length_map, List.length_take]; omega
    generalize msA r l.length = M at g1 g2 g3 g4 hml ⊢
    (refine At.own_freeze inferInstance (by repeat constructor) fun m' hm' sl3 => ?_; (try replace sl0 := sl0.mono hm'); (try replace sl1 := sl1.mono hm'); (try replace sl2 := sl2.mono hm'); (try replace sl4 := sl4.mono hm'); (try replace sl5 := sl5.mono hm'); (try replace sl6 := sl6.mono hm'))
    have h1 := fun (m1 : Mem) (h1 : m'.le m1) => Mt.exactC (m := m1) p1 c1 M.length M l l.length true (by omega) g4 rfl g1.1 g1.2 rfl (sl3.mono h1)
    have h2 := fun (m1 : Mem) (h1 : m'.le m1) => Mt.checkC (m := m1) p1 c1 M.length M 0 rfl (by omega) g4 g3 (sl3.mono h1)
    have h3 := fun (m1 : Mem) (h1 : m'.le m1) => Mt.allC (m := m1) q d o.length o p1 c1 M.length M (all M o) (by omega) (by omega) rfl rfl rfl (sl1.mono h1) (sl3.mono h1)
    have h4 := fun (m1 : Mem) (h1 : m'.le m1) q2 d2 (s2 : Sl m1 Ls.fX 1 q2 d2 [(⟨o, q, d⟩ : SL), ⟨l, p, c⟩, ⟨[], none, 0⟩]) => Mt.pickC (m := m1) p1 c1 M.length M q2 d2 3 [(⟨o, q, d⟩ : SL), ⟨l, p, c⟩, ⟨[], none, 0⟩] (if all M o then [0, 1] else [1]) (if all M o then [0, 1] else [1] : List Int).length (by omega) (Nat.le_of_ble_eq_true rfl) rfl rfl (g2 q p d c) rfl (sl3.mono h1) s2 (lbs_3 (by omega) (by omega) (sl1.mono h1) (sl0.mono h1))
    cases hA : all M o
    all_goals
      rw [hA] at h3 h4
      simp only [↓reduceIte, Bool.false_eq_true, List.length_cons, List.length_nil] at h4
      (repeat' (first | refine zss ?_ | refine zsM ?_ | ((with_reducible apply At.litF Ls.fX [(⟨o, q, d⟩ : SL), ⟨l, p, c⟩, ⟨[], none, 0⟩]); exact inferInstance; (iterate 7 exact rfl); intro b' m' hm' sl4; (try replace sl0 := sl0.mono hm'); (try replace sl1 := sl1.mono hm'); (try replace sl2 := sl2.mono hm'); (try replace sl3 := sl3.mono hm'); (try replace sl5 := sl5.mono hm'); (try replace sl6 := sl6.mono hm')) | ((with_reducible first | apply At.c1 | apply At.c0); exact rfl; exact rfl; exact h1 _ zml; exact ztk; kernel_rfl; rintro v' m' B' hm' ⟨rfl, p5, c5, rfl, sl5⟩; (try replace sl0 := sl0.mono hm'); (try replace sl1 := sl1.mono hm'); (try replace sl2 := sl2.mono hm'); (try replace sl3 := sl3.mono hm'); (try replace sl4 := sl4.mono hm'); (try replace sl5 := sl5.mono hm'); (try replace sl6 := sl6.mono hm'); (try (have hq0 : hm' = Mem.le_refl _ := rfl; clear hq0 hm'))) | ((with_reducible first | apply At.c1 | apply At.c0); exact rfl; exact rfl; exact h4 _ zml _ _ sl4; exact ztk; kernel_rfl; rintro v' m' B' hm' ⟨rfl, p6, c6, rfl, sl6⟩; (try replace sl0 := sl0.mono hm'); (try replace sl1 := sl1.mono hm'); (try replace sl2 := sl2.mono hm'); (try replace sl3 := sl3.mono hm'); (try replace sl4 := sl4.mono hm'); (try replace sl5 := sl5.mono hm'); (try replace sl6 := sl6.mono hm'); (try (have hq0 : hm' = Mem.le_refl _ := rfl; clear hq0 hm'))) | ((with_reducible first | apply AtM1.cr | apply AtQ.cr | apply At.cr); exact rfl; exact rfl; exact fun _ hmm => sameC p5 c5 l.length l p c l.length (by omega) rfl rfl (sl5.mono hmm) (sl0.mono hmm); exact ztk; kernel_rfl) | ((with_reducible first | apply AtM1.cr | apply AtQ.cr | apply At.cr); exact rfl; exact rfl; exact fun _ hmm => h2 _ (Mem.le_trans zml hmm); exact ztk; kernel_rfl) | ((with_reducible first | apply AtM1.cr | apply AtQ.cr | apply At.cr); exact rfl; exact rfl; exact fun _ hmm => h3 _ (Mem.le_trans zml hmm); exact ztk; kernel_rfl) | ((with_reducible apply At.alloc (d := 10)); exact rfl; exact rfl; intro b10) | (refine zsp ?_ ?_ <;> (intro hc; (try simp only [zhcs, reduceCtorEq] at hc); (try (exfalso; first | (first | omega | exact absurd rfl hc) | contradiction | omega | exact absurd rfl hc | exact absurd (by decide) hc))))))
      all_goals ((with_reducible apply At.retB1 (B := [])); exact rfl; exact rfl; exact zml; exact zkp; exact ⟨rfl, rfl⟩)
end Top3
end Go.Proofs.Ytjncahmbllmllaa
/- What is read: the contracts of codec's reader and of the document's. -/
set_option linter.unusedSimpArgs false
set_option linter.unusedVariables false
set_option linter.unusedSectionVars false
set_option maxRecDepth 20000
set_option maxHeartbeats 4000000
namespace Go.Proofs.Ytjncahmbllmllaa
open Go Go.J
attribute [local irreducible] At AtQ AtM AtM1 PR Ct Pu Rd Res.blk Res.own Res.ex RVs RV Cod.W
namespace Cod
/-- a number's bytes, from the i-th one on -/
def dec : Nat → List UInt8 → Option (Nat × List UInt8)
  | _, [] => none
  | i, c :: r => if 9 < i ∨ (i = 9 ∧ 1 < c.toNat) then none else if 128 ≤ c.toNat then (match dec (i + 1) r with
      | some x => some (c.toNat % 128 + 128 * x.1, x.2)
      | none => none) else if c.toNat = 0 ∧ 0 < i then none else some (c.toNat, r)
theorem dec_ten (l : List UInt8) (i : Nat) (h : 9 < i) : dec i l = none := by
  cases l with
  | nil => rfl
  | cons c r => rw [dec, if_pos (.inl h)]
theorem ofNat_toNat (c : UInt8) : UInt8.ofNat c.toNat = c := by simp
theorem dec_spec : ∀ (l : List UInt8) (i n : Nat) (s : List UInt8), dec i l = some (n, s) → l = uintB n ++ s ∧ n < 2 ^ (64 - 7 * i) ∧ (0 < i → n ≠ 0) ∧ i ≤ 9
  | [], _, _, _, h => by cases h
  | c :: r, i, n, s, h => by
    have hc := c.toNat_lt
    unfold dec at h
    by_cases h1 : 9 < i ∨ (i = 9 ∧ 1 < c.toNat)
    · rw [if_pos h1] at h; cases h
    · rw [if_neg h1] at h
      by_cases h2 : 128 ≤ c.toNat
      · rw [if_pos h2] at h
        cases hd : dec (i + 1) r with
        | none => rw [hd] at h; cases h
        | some x =>
          obtain ⟨n', s'⟩ := x
          rw [hd] at h
          simp only [Option.some.injEq, Prod.mk.injEq] at h
          obtain ⟨h3, rfl⟩ := h
          obtain ⟨g1, g2, g3, g4⟩ := dec_spec r (i + 1) n' s' hd
          have g5 := g3 (by omega)
          have hpow : 2 ^ (64 - 7 * i) = 128 * 2 ^ (64 - 7 * (i + 1)) := by
            rw [show (128 : Nat) = 2 ^ 7 from rfl, ← Nat.pow_add]; congr 1; omega
          refine ⟨?_, by rw [hpow]; omega, fun _ => by omega, by omega⟩
          subst h3
          rw [uintB_ge (by omega), g1, show (c.toNat % 128 + 128 * n') % 128 + 128 = c.toNat by omega, show (c.toNat % 128 + 128 * n') / 128 = n' by omega, ofNat_toNat]
          rfl
      · rw [if_neg h2] at h
        by_cases h3 : c.toNat = 0 ∧ 0 < i
        · rw [if_pos h3] at h; cases h
        · rw [if_neg h3] at h
          simp only [Option.some.injEq, Prod.mk.injEq] at h
          obtain ⟨rfl, rfl⟩ := h
          refine ⟨by rw [uintB_lt (by omega), ofNat_toNat]; rfl, ?_, fun hi => by omega, by omega⟩
          by_cases h9 : i = 9
          · subst h9
            show _ < 2
            omega
          · have : 2 ^ 7 ≤ 2 ^ (64 - 7 * i) := Nat.pow_le_pow_right (by decide) (by omega)
            omega
theorem dec_back : ∀ (k n i : Nat) (s : List UInt8), 9 - i = k → i ≤ 9 → n < 2 ^ (64 - 7 * i) → (0 < i → n ≠ 0) → dec i (uintB n ++ s) = some (n, s)
  | 0, n, i, s, hk, h0, h1, h2 => by
    have h9 : i = 9 := by omega
    subst h9
    have hn : n < 2 := h1
    rw [uintB_lt (by omega), List.singleton_append, dec]
    have e : (UInt8.ofNat n).toNat = n := by
      have := bI_of (n := n) (by omega)
      unfold bI at this; omega
    rw [e, if_neg (by omega), if_neg (by omega), if_neg (by have := h2 (by omega); omega)]
  | k + 1, n, i, s, hk, h0, h1, h2 => by
    by_cases hn : n < 128
    · rw [uintB_lt hn, List.singleton_append, dec]
      have e : (UInt8.ofNat n).toNat = n := by
        have := bI_of (n := n) (by omega)
        unfold bI at this; omega
      rw [e, if_neg (by omega), if_neg (by omega), if_neg (by intro h; have := h2 h.2; omega)]
    · have hpow : 2 ^ (64 - 7 * i) = 128 * 2 ^ (64 - 7 * (i + 1)) := by
        rw [show (128 : Nat) = 2 ^ 7 from rfl, ← Nat.pow_add]; congr 1; omega
      have := dec_back k (n / 128) (i + 1) s (by omega) (by omega) (by rw [hpow] at h1; omega) (fun _ => by omega)
      rw [uintB_ge hn, List.cons_append, dec, this]
      have e : (UInt8.ofNat (n % 128 + 128)).toNat = n % 128 + 128 := by
        have := bI_of (n := n % 128 + 128) (by omega)
        unfold bI at this; omega
      rw [e, if_neg (by omega), if_pos (by omega)]
      simp only [Option.some.injEq, Prod.mk.injEq, and_true]
      omega
theorem dec_uint {n : Nat} (h : n < 18446744073709551616) (s : List UInt8) : dec 0 (uintB n ++ s) = some (n, s) := dec_back 9 n 0 s rfl (by decide) h (fun h => absurd h (by decide))

abbrev RS := List UInt8 × Bool
def rU (s : RS) : Nat × RS := match dec 0 s.1 with
  | some x => (x.1, (x.2, s.2))
  | none => (0, ([], true))
theorem rU_lt (s : RS) : (rU s).1 < 18446744073709551616 := by
  unfold rU
  cases h : dec 0 s.1 with
  | none => simp
  | some x =>
    obtain ⟨n, r⟩ := x
    have := (dec_spec _ _ _ _ h).2.1
    simpa using this
abbrev rd (b : Nat) (s : RS) : Res := .blk b 84 [.string (str s.1), .bool s.2]
abbrev rv (s : RS) : Value := .agg #[.string (str s.1), .bool s.2]

theorem fail {m : Mem} (b : Nat) (s : RS) : Ct Try.prog 50 #[ptr b] m [rd b s] (fun v m' B => v = .tuple #[] ∧ m = m' ∧ B = [rd b ([], true)]) := by
  refine Ct.enterV (by rfl) Try.func50 rfl Try.ntmps50 rfl (fun w0 Rest => ?_)
  (repeat' (first | refine zss ?_ | refine zs0 ?_ | (refine zsp ?_ ?_ <;> (intro hc; (try simp only [zhcs, reduceCtorEq] at hc); (try (exfalso; first | contradiction | omega | exact absurd rfl hc | exact absurd (by decide) hc))))))
  all_goals ((first | (with_reducible apply At.retB0 (B := [.blk b _ _])) | (with_reducible apply At.retR0 (B := [.blk b _ _]))); exact rfl; exact zml; exact zkp; exact ⟨rfl, rfl, rfl⟩)

/-- what is had of the first i bytes, none of which is the last one -/
structure Part (l : List UInt8) (i A : Nat) : Prop where
  le : i ≤ l.length
  lt : A < 128 ^ i
  dec : dec 0 l = (match dec i (l.drop i) with
    | some x => some (A + 128 ^ i * x.1, x.2)
    | none => none)
  pre : ∀ n', n' ≠ 0 ∨ i = 0 → uintB (A + 128 ^ i * n') = l.take i ++ uintB n'
theorem Part.zero (l : List UInt8) : Part l 0 0 := by
  refine ⟨Nat.zero_le _, by decide, ?_, fun n' _ => by simp⟩
  rw [List.drop_zero]
  cases Cod.dec 0 l with
  | none => rfl
  | some x => simp
theorem drop_cons {l : List UInt8} {i : Nat} (h : i < l.length) : l.drop i = l[i]! :: l.drop (i + 1) := by
  rw [getElem!_pos l i h, List.drop_eq_getElem_cons h]
theorem take_snoc {l : List UInt8} {i : Nat} (h : i < l.length) : l.take (i + 1) = l.take i ++ [l[i]!] := by
  rw [List.take_add_one, getElem!_pos l i h]; simp [h]
theorem Part.none1 {l : List UInt8} {i A : Nat} (h : Part l i A) (hi : l.length ≤ i ∨ 9 < i) : Cod.dec 0 l = none := by
  rw [h.dec]
  have : Cod.dec i (l.drop i) = none := by
    rcases hi with hi | hi
    · rw [List.drop_eq_nil_of_le hi]; rfl
    · exact dec_ten _ _ hi
  rw [this]
theorem Part.none2 {l : List UInt8} {i A : Nat} (h : Part l i A) (hi : i < l.length) (hc : (i = 9 ∧ 1 < (l[i]!).toNat) ∨ ((l[i]!).toNat = 0 ∧ 0 < i)) : Cod.dec 0 l = none := by
  rw [h.dec, drop_cons hi]
  have : Cod.dec i (l[i]! :: l.drop (i + 1)) = none := by
    unfold Cod.dec
    rcases hc with hc | hc
    · rw [if_pos (.inr hc)]
    · by_cases h9 : 9 < i ∨ (i = 9 ∧ 1 < (l[i]!).toNat)
      · rw [if_pos h9]
      · rw [if_neg h9, if_neg (by omega), if_pos hc]
  rw [this]
theorem Part.some1 {l : List UInt8} {i A : Nat} (h : Part l i A) (hi : i < l.length) (h9 : ¬ (9 < i ∨ (i = 9 ∧ 1 < (l[i]!).toNat))) (h1 : (l[i]!).toNat < 128) (h2 : ¬ ((l[i]!).toNat = 0 ∧ 0 < i)) :
    Cod.dec 0 l = some (A + 128 ^ i * (l[i]!).toNat, l.drop (i + 1)) ∧ uintB (A + 128 ^ i * (l[i]!).toNat) = l.take (i + 1) := by
  refine ⟨?_, ?_⟩
  · rw [h.dec, drop_cons hi]
    unfold Cod.dec
    rw [if_neg h9, if_neg (by omega), if_neg h2]
  · rw [h.pre _ (by omega), uintB_lt h1, take_snoc hi, ofNat_toNat]
theorem Part.more {l : List UInt8} {i A : Nat} (h : Part l i A) (hi : i < l.length) (h9 : ¬ (9 < i ∨ (i = 9 ∧ 1 < (l[i]!).toNat))) (h1 : 128 ≤ (l[i]!).toNat) : Part l (i + 1) (A + 128 ^ i * ((l[i]!).toNat % 128)) := by
  have hc := (l[i]!).toNat_lt
  refine ⟨hi, ?_, ?_, fun n' hn => ?_⟩
  · have := h.lt
    have h2 : 128 ^ i * ((l[i]!).toNat % 128) ≤ 128 ^ i * 127 := Nat.mul_le_mul_left _ (by omega)
    rw [Nat.pow_succ]; omega
  · rw [h.dec, drop_cons hi]
    conv => lhs; unfold Cod.dec
    rw [if_neg h9, if_pos h1]
    cases Cod.dec (i + 1) (l.drop (i + 1)) with
    | none => rfl
    | some x =>
      simp only [Option.some.injEq, Prod.mk.injEq, and_true]
      rw [Nat.pow_succ, Nat.mul_add, Nat.add_assoc, Nat.mul_assoc]
  · have hn' : n' ≠ 0 := by omega
    have := h.pre ((l[i]!).toNat % 128 + 128 * n') (by omega)
    rw [uintB_ge (n := (l[i]!).toNat % 128 + 128 * n') (by omega), show ((l[i]!).toNat % 128 + 128 * n') % 128 + 128 = (l[i]!).toNat by omega, show ((l[i]!).toNat % 128 + 128 * n') / 128 = n' by omega, ofNat_toNat] at this
    rw [Nat.pow_succ, Nat.add_assoc, Nat.mul_assoc, ← Nat.mul_add, this, take_snoc hi, List.append_assoc]
    rfl
theorem pow7 (i : Nat) : (2 : Nat) ^ (7 * i) = 128 ^ i := by rw [Nat.pow_mul]
theorem pow7I (i : Nat) : (2 : Int) ^ (7 * (i : Int)).toNat = ((128 ^ i : Nat) : Int) := by
  rw [show (7 * (i : Int)).toNat = 7 * i by omega, ← pow7, Int.natCast_pow]; rfl
theorem pow_le9 {i : Nat} (h : i ≤ 9) : 128 ^ i ≤ 9223372036854775808 := Nat.le_trans (Nat.pow_le_pow_right (by decide) h) (by decide)
theorem pow_le8 {i : Nat} (h : i ≤ 8) : 128 ^ i ≤ 72057594037927936 := Nat.le_trans (Nat.pow_le_pow_right (by decide) h) (by decide)
theorem part_bd {i c : Nat} (hi : i ≤ 9) (h9 : ¬ (i = 9 ∧ 1 < c)) (hc : c < 256) : 128 ^ i * (c % 128) ≤ 9223372036854775808 := by
  by_cases h : i ≤ 8
  · exact Nat.le_trans (Nat.mul_le_mul (pow_le8 h) (show c % 128 ≤ 127 by omega)) (by decide)
  · have e : i = 9 := by omega
    subst e
    exact Nat.le_trans (Nat.mul_le_mul (pow_le9 (Nat.le_refl 9)) (show c % 128 ≤ 1 by omega)) (by decide)
theorem shl7 {i c : Nat} (hi : i ≤ 9) (h9 : ¬ (i = 9 ∧ 1 < c)) (hc : c < 256) : IntKind.u64.wrap (((c % 128 : Nat) : Int) * 2 ^ (7 * (i : Int)).toNat) = ((128 ^ i * (c % 128) : Nat) : Int) := by
  rw [pow7I, IntKind.wrap_u64, ← Int.natCast_mul, Nat.mul_comm]
  have := part_bd hi h9 hc
  have hy : 128 ^ i * (c % 128) < 18446744073709551616 := by omega
  exact Int.emod_eq_of_lt (Int.natCast_nonneg _) (Int.ofNat_lt.2 hy)
theorem andnot128 (c : UInt8) : bits .andNot .u8 (bI c) 128 = ((c.toNat % 128 : Nat) : Int) := by
  have := bI_bd c
  rw [u8_andNot _ _ (by omega) (by omega) (by omega) (by omega)]
  have e : (bI c).toNat = c.toNat := by unfold bI; omega
  rw [e]
  congr 1
  exact Nat.and_two_pow_sub_one_eq_mod c.toNat 7
theorem and128 (c : UInt8) : bits .and .u8 (bI c) 128 = 128 * ((c.toNat / 128 : Nat) : Int) := by
  have := bI_bd c
  have hc := c.toNat_lt
  rw [u8_and _ _ (by omega) (by omega) (by omega) (by omega)]
  have e : (bI c).toNat = c.toNat := by unfold bI; omega
  rw [e, show ((128 : Int)).toNat = 2 ^ 7 from rfl, nat_bit]
  show ((c.toNat / 128 % 2 * 128 : Nat) : Int) = _
  omega
theorem or_part {i A x : Nat} (hi : i ≤ 9) (hA : A < 128 ^ i) (hx : 128 ^ i * x < 18446744073709551616) : bits .or .u64 (A : Int) ((128 ^ i * x : Nat) : Int) = ((A + 128 ^ i * x : Nat) : Int) := by
  have := pow_le9 hi
  rw [u64_or_nat _ _ (by omega) (by omega), Nat.or_comm, nat_join (7 * i) _ _ (by rw [pow7]; exact Nat.mul_mod_right _ _) (by rw [pow7]; exact hA), Nat.add_comm]

structure RI where
  i : Nat
  A : Nat
theorem ruintP {m : Mem} (b : Nat) (s : RS) (hl : s.1.length ≤ 30000000000) : Ct Try.prog 30 #[ptr b] m [rd b s] (fun v m' B => v = .int .u64 ((rU s).1 : Int) ∧ m = m' ∧ B = [rd b (rU s).2]) := by
  refine Ct.enterV (by rfl) Try.func30 rfl Try.ntmps30 rfl (fun w0 Rest => ?_)
  (repeat' (first | refine zss ?_ | refine zsO ?_ | (refine zsp ?_ ?_ <;> (intro hc; (try simp only [zhcs, reduceCtorEq] at hc); (try (exfalso; first | contradiction | omega | exact absurd rfl hc | exact absurd (by decide) hc))))))
  (refine At.loopk (σ := RI) [0, 11] (fun q F0 => (3, .int .u64 (q.A : Int)) :: (12, .int .i64 (q.i : Int)) :: F0) (fun q => m) (fun q => rd b s :: Rest) (fun q => (q.i : Int) ≤ min (s.1.length : Int) 10 ∧ Part s.1 q.i q.A) (fun q => 10 - q.i) ⟨0, 0⟩ (by rfl) ?_ zsubs zml zente ?_)
  · exact ⟨by show (0 : Int) ≤ _; omega, Part.zero _⟩
  intro q ⟨hi, hp⟩
  by_cases hlt : (q.i : Int) < min (s.1.length : Int) 10
  · have hi2 : q.i < s.1.length := by omega
    have hbI : bI (s.1[q.i]!) = ((s.1[q.i]!).toNat : Int) := rfl
    have hcb := (s.1[q.i]!).toNat_lt
    by_cases h9 : q.i = 9 ∧ 1 < (s.1[q.i]!).toNat
    · have hn := hp.none2 hi2 (.inl h9)
      have e : rU s = (0, ([], true)) := by unfold rU; rw [hn]
      rw [e]
      (repeat' (first | refine zss ?_ | ((first | (with_reducible first | apply At.val | apply AtQ.val)); (first | exact pr_andnot (by rfl) (by rfl) (andnot128 _) | exact pr_and (by rfl) (by rfl) (and128 _)); exact rfl) | refine zsO ?_ | ((with_reducible first | apply At.c1 | apply At.c0); exact rfl; exact rfl; exact fail b s; exact ztk; kernel_rfl; rintro v' m' B' hm' ⟨rfl, rfl, rfl⟩; skip; (try (have hq0 : hm' = Mem.le_refl _ := rfl; clear hq0 hm'))) | (refine zsp ?_ ?_ <;> (intro hc; (try simp only [zhcs, reduceCtorEq] at hc); (try (exfalso; first | omega | contradiction | omega | exact absurd rfl hc | exact absurd (by decide) hc))))))
      all_goals ((with_reducible apply At.retB1 (B := [.blk b _ _])); exact rfl; exact rfl; exact zml; exact zkp; exact ⟨rfl, rfl, rfl⟩)
    · have hbd := part_bd (c := (s.1[q.i]!).toNat) (show q.i ≤ 9 by omega) h9 hcb
      have hp9 := pow_le9 (show q.i ≤ 9 by omega)
      have hlt' := hp.lt
      (repeat' (first | refine zss ?_ | ((first | (with_reducible first | apply At.val | apply AtQ.val)); (first | exact pr_andnot (by rfl) (by rfl) (andnot128 _) | exact pr_and (by rfl) (by rfl) (and128 _) | exact pr_shlv (by rfl) (by rfl) (by omega) (by simp only [IntKind.bits]; omega) (shl7 (by omega) h9 hcb) | exact pr_or (by rfl) (by rfl) (or_part (by omega) hlt' (by omega))); exact rfl) | refine zsO ?_ | ((with_reducible first | apply At.c1 | apply At.c0); exact rfl; exact rfl; exact fail b s; exact ztk; kernel_rfl; rintro v' m' B' hm' ⟨rfl, rfl, rfl⟩; skip; (try (have hq0 : hm' = Mem.le_refl _ := rfl; clear hq0 hm'))) | (refine zsp ?_ ?_ <;> (intro hc; (try simp only [zhcs, reduceCtorEq] at hc); (try (exfalso; first | omega | contradiction | omega | exact absurd rfl hc | exact absurd (by decide) hc))))))
      all_goals first
        | (have hn := hp.none2 hi2 (.inr (by omega)); have e : rU s = (0, ([], true)) := (by unfold rU; rw [hn]); rw [e]; ((with_reducible apply At.retB1 (B := [.blk b _ _])); exact rfl; exact rfl; exact zml; exact zkp; exact ⟨rfl, rfl, rfl⟩))
        | (have hs1 := (hp.some1 hi2 (by omega) (by omega) (by omega)).1; have e : rU s = (q.A + 128 ^ q.i * (s.1[q.i]!).toNat, (s.1.drop (q.i + 1), s.2)) := (by unfold rU; rw [hs1]); rw [e]; ((with_reducible apply At.retB1 (B := [.blk b _ _])); exact rfl; exact rfl; exact zml; exact zkp; exact ⟨by rw [Nat.mod_eq_of_lt (by omega)], rfl, rfl⟩))
        | ((with_reducible refine At.reachk (⟨q.i + 1, q.A + 128 ^ q.i * ((s.1[q.i]!).toNat % 128)⟩) ?_ ?_ ?_ ?_); exact zsubs; exact zml; exact zente; exact ⟨⟨by show ((q.i + 1 : Nat) : Int) ≤ _; omega, hp.more hi2 (by omega) (by omega)⟩, by show 10 - (q.i + 1) < 10 - q.i; omega⟩)
  · have hn := hp.none1 (by omega)
    have e : rU s = (0, ([], true)) := by unfold rU; rw [hn]
    rw [e]
    (repeat' (first | refine zss ?_ | refine zsO ?_ | ((with_reducible first | apply At.c1 | apply At.c0); exact rfl; exact rfl; exact fail b s; exact ztk; kernel_rfl; rintro v' m' B' hm' ⟨rfl, rfl, rfl⟩; skip; (try (have hq0 : hm' = Mem.le_refl _ := rfl; clear hq0 hm'))) | (refine zsp ?_ ?_ <;> (intro hc; (try simp only [zhcs, reduceCtorEq] at hc); (try (exfalso; first | omega | contradiction | omega | exact absurd rfl hc | exact absurd (by decide) hc))))))
    all_goals ((with_reducible apply At.retB1 (B := [.blk b _ _])); exact rfl; exact rfl; exact zml; exact zkp; exact ⟨rfl, rfl, rfl⟩)
theorem left {m : Mem} (b : Nat) (s : RS) : Rd Try.prog 33 #[ptr b] m [rd b s] (.int .i64 (s.1.length : Int)) := by
  unfold Rd
  refine Ct.enterV (by rfl) Try.func33 rfl Try.ntmps33 rfl (fun w0 Rest => ?_)
  (repeat' (first | refine zss ?_ | refine zs0 ?_ | (refine zsp ?_ ?_ <;> (intro hc; (try simp only [zhcs, reduceCtorEq] at hc); (try (exfalso; first | contradiction | omega | exact absurd rfl hc | exact absurd (by decide) hc))))))
  all_goals ((with_reducible apply At.retB1 (B := [.blk b _ _])); exact rfl; exact rfl; exact zml; exact zkp; exact ⟨rfl, rfl, rfl⟩)
theorem bad {m : Mem} (b : Nat) (s : RS) : Rd Try.prog 31 #[ptr b] m [rd b s] (.bool s.2) := by
  unfold Rd
  refine Ct.enterV (by rfl) Try.func31 rfl Try.ntmps31 rfl (fun w0 Rest => ?_)
  (repeat' (first | refine zss ?_ | refine zs0 ?_ | (refine zsp ?_ ?_ <;> (intro hc; (try simp only [zhcs, reduceCtorEq] at hc); (try (exfalso; first | contradiction | omega | exact absurd rfl hc | exact absurd (by decide) hc))))))
  all_goals ((with_reducible apply At.retB1 (B := [.blk b _ _])); exact rfl; exact rfl; exact zml; exact zkp; exact ⟨rfl, rfl, rfl⟩)
theorem open_ {m : Mem} (l : List UInt8) : Ct Try.prog 29 #[.string (str l)] m [] (fun v m' B => m = m' ∧ ∃ b, v = ptr b ∧ B = [rd b (l, false)]) := by
  refine Ct.enterV (by rfl) Try.func29 rfl Try.ntmps29 rfl (fun w0 Rest => ?_)
  (repeat' (first | refine zss ?_ | refine zs0 ?_ | ((with_reducible apply At.box (d := 5)); exact rfl; exact rfl; exact rfl; intro b5) | (refine zsp ?_ ?_ <;> (intro hc; (try simp only [zhcs, reduceCtorEq] at hc); (try (exfalso; first | contradiction | omega | exact absurd rfl hc | exact absurd (by decide) hc))))))
  all_goals ((with_reducible apply At.retB1 (B := [.blk _ _ _])); exact rfl; exact rfl; exact zml; exact zkp; exact ⟨rfl, _, rfl, rfl⟩)

def rR (n : Int) (s : RS) : List UInt8 × RS := if s.2 = true ∨ n < 0 ∨ (s.1.length : Int) < n then ([], ([], true)) else (s.1.take n.toNat, (s.1.drop n.toNat, false))
theorem rawR {m : Mem} (b : Nat) (s : RS) (n : Int) (hl : s.1.length ≤ 30000000000) : Ct Try.prog 51 #[ptr b, .int .i64 n] m [rd b s] (fun v m' B => v = .string (str (rR n s).1) ∧ m = m' ∧ B = [rd b (rR n s).2]) := by
  obtain ⟨l, bd⟩ := s
  by_cases hbad : bd = true ∨ n < 0 ∨ (l.length : Int) < n
  · have e : rR n (l, bd) = ([], ([], true)) := if_pos hbad
    rw [e]
    cases bd with
    | true =>
      refine Ct.enterV (by rfl) Try.func51 rfl Try.ntmps51 rfl (fun w0 Rest => ?_)
      (repeat' (first | refine zss ?_ | refine zs0 ?_ | ((with_reducible first | apply At.c1 | apply At.c0); exact rfl; exact rfl; exact fail b (l, true); exact ztk; kernel_rfl; rintro v' m' B' hm' ⟨rfl, rfl, rfl⟩; skip; (try (have hq0 : hm' = Mem.le_refl _ := rfl; clear hq0 hm'))) | (refine zsp ?_ ?_ <;> (intro hc; (try simp only [zhcs, reduceCtorEq] at hc); (try (exfalso; first | contradiction | omega | exact absurd rfl hc | exact absurd (by decide) hc))))))
      all_goals ((with_reducible apply At.retB1 (B := [.blk b _ _])); exact rfl; exact rfl; exact zml; exact zkp; exact ⟨rfl, rfl, rfl⟩)
    | false =>
      refine Ct.enterV (by rfl) Try.func51 rfl Try.ntmps51 rfl (fun w0 Rest => ?_)
      (repeat' (first | refine zss ?_ | refine zs0 ?_ | ((with_reducible first | apply At.c1 | apply At.c0); exact rfl; exact rfl; exact fail b (l, false); exact ztk; kernel_rfl; rintro v' m' B' hm' ⟨rfl, rfl, rfl⟩; skip; (try (have hq0 : hm' = Mem.le_refl _ := rfl; clear hq0 hm'))) | (refine zsp ?_ ?_ <;> (intro hc; (try simp only [zhcs, reduceCtorEq] at hc); (try (exfalso; first | (simp at hbad; omega) | contradiction | omega | exact absurd rfl hc | exact absurd (by decide) hc))))))
      all_goals ((with_reducible apply At.retB1 (B := [.blk b _ _])); exact rfl; exact rfl; exact zml; exact zkp; exact ⟨rfl, rfl, rfl⟩)
  · have e : rR n (l, bd) = (l.take n.toNat, (l.drop n.toNat, false)) := if_neg hbad
    rw [e]
    obtain rfl : bd = false := by cases bd <;> simp_all
    have hb2 : 0 ≤ n ∧ n ≤ (l.length : Int) := by simp at hbad; omega
    refine Ct.enterV (by rfl) Try.func51 rfl Try.ntmps51 rfl (fun w0 Rest => ?_)
    (repeat' (first | refine zss ?_ | refine zs0 ?_ | (refine zsp ?_ ?_ <;> (intro hc; (try simp only [zhcs, reduceCtorEq] at hc); (try (exfalso; first | omega | contradiction | omega | exact absurd rfl hc | exact absurd (by decide) hc))))))
    all_goals ((with_reducible apply At.retB1 (B := [.blk b _ _])); exact rfl; exact rfl; exact zml; exact zkp; exact ⟨rfl, rfl, rfl⟩)
def unzig (n : Nat) : Int := if n % 2 = 1 then -((n / 2 : Nat) : Int) - 1 else ((n / 2 : Nat) : Int)
def rI (s : RS) : Int × RS := (unzig (rU s).1, (rU s).2)
theorem unzig_bd {n : Nat} (h : n < 18446744073709551616) : -9223372036854775808 ≤ unzig n ∧ unzig n ≤ 9223372036854775807 := by unfold unzig; split <;> omega
theorem i64_xor0 {y : Int} (h0 : 0 ≤ y) (h1 : y < 9223372036854775808) : bits .xor .i64 y 0 = y := by
  unfold bits
  simp only
  have : (BitVec.ofInt IntKind.i64.bits y ^^^ BitVec.ofInt IntKind.i64.bits 0) = BitVec.ofInt IntKind.i64.bits y := by simp
  rw [this, BitVec.toNat_ofInt, IntKind.wrap_i64]
  simp only [IntKind.bits]
  omega
theorem i64_xorm {y : Int} (h0 : 0 ≤ y) (h1 : y < 9223372036854775808) : bits .xor .i64 y (-1) = -y - 1 := by
  unfold bits
  simp only
  have : (BitVec.ofInt IntKind.i64.bits y ^^^ BitVec.ofInt IntKind.i64.bits (-1)) = ~~~ BitVec.ofInt IntKind.i64.bits y := by
    have e : BitVec.ofInt IntKind.i64.bits (-1) = BitVec.allOnes IntKind.i64.bits := by show BitVec.ofInt 64 (-1) = BitVec.allOnes 64; decide
    rw [e]
    exact BitVec.xor_allOnes
  rw [this, BitVec.toNat_not, BitVec.toNat_ofInt, IntKind.wrap_i64]
  simp only [IntKind.bits]
  omega
theorem rU_le (s : RS) : (rU s).2.1.length ≤ s.1.length := by
  unfold rU
  cases h : dec 0 s.1 with
  | none => simp
  | some x =>
    obtain ⟨n, r⟩ := x
    have := congrArg List.length (dec_spec _ _ _ _ h).1
    simp at this ⊢; omega
def rT (most : Int) (s : RS) : List UInt8 × RS := if most < 0 ∨ most < ((rU s).1 : Int) ∨ ((rU s).2.1.length : Int) < ((rU s).1 : Int) then ([], ([], true)) else rR ((rU s).1 : Int) (rU s).2
theorem textR {m : Mem} (b : Nat) (s : RS) (most : Int) (hm : -9223372036854775808 ≤ most ∧ most ≤ 9223372036854775807) (hl : s.1.length ≤ 30000000000) : Ct Try.prog 32 #[ptr b, .int .i64 most] m [rd b s] (fun v m' B => v = .string (str (rT most s).1) ∧ m = m' ∧ B = [rd b (rT most s).2]) := by
  have hU := rU_lt s
  have hle := rU_le s
  by_cases hc0 : most < 0 ∨ most < ((rU s).1 : Int) ∨ ((rU s).2.1.length : Int) < ((rU s).1 : Int)
  · have e : rT most s = ([], ([], true)) := if_pos hc0
    rw [e]
    refine Ct.enterV (by rfl) Try.func32 rfl Try.ntmps32 rfl (fun w0 Rest => ?_)
    (repeat' (first | refine zss ?_ | refine zs0 ?_ | ((with_reducible first | apply At.c1 | apply At.c0); exact rfl; exact rfl; exact ruintP b s hl; exact ztk; kernel_rfl; rintro v' m' B' hm' ⟨rfl, rfl, rfl⟩; skip; (try (have hq0 : hm' = Mem.le_refl _ := rfl; clear hq0 hm'))) | ((with_reducible first | apply At.c1 | apply At.c0); exact rfl; exact rfl; exact fail b (rU s).2; exact ztk; kernel_rfl; rintro v' m' B' hm' ⟨rfl, rfl, rfl⟩; skip; (try (have hq0 : hm' = Mem.le_refl _ := rfl; clear hq0 hm'))) | (refine zsp ?_ ?_ <;> (intro hc; (try simp only [zhcs, reduceCtorEq] at hc); (try (exfalso; first | omega | contradiction | omega | exact absurd rfl hc | exact absurd (by decide) hc))))))
    all_goals ((with_reducible apply At.retB1 (B := [.blk b _ _])); exact rfl; exact rfl; exact zml; exact zkp; exact ⟨rfl, rfl, rfl⟩)
  · have e : rT most s = rR ((rU s).1 : Int) (rU s).2 := if_neg hc0
    rw [e]
    refine Ct.enterV (by rfl) Try.func32 rfl Try.ntmps32 rfl (fun w0 Rest => ?_)
    (repeat' (first | refine zss ?_ | refine zs0 ?_ | ((with_reducible first | apply At.c1 | apply At.c0); exact rfl; exact rfl; exact ruintP b s hl; exact ztk; kernel_rfl; rintro v' m' B' hm' ⟨rfl, rfl, rfl⟩; skip; (try (have hq0 : hm' = Mem.le_refl _ := rfl; clear hq0 hm'))) | ((with_reducible first | apply At.c1 | apply At.c0); exact rfl; exact rfl; exact rawR b (rU s).2 ((rU s).1 : Int) (by omega); exact ztk; kernel_rfl; rintro v' m' B' hm' ⟨rfl, rfl, rfl⟩; skip; (try (have hq0 : hm' = Mem.le_refl _ := rfl; clear hq0 hm'))) | (refine zsp ?_ ?_ <;> (intro hc; (try simp only [zhcs, reduceCtorEq] at hc); (try (exfalso; first | omega | contradiction | omega | exact absurd rfl hc | exact absurd (by decide) hc))))))
    all_goals ((with_reducible apply At.retB1 (B := [.blk b _ _])); exact rfl; exact rfl; exact zml; exact zkp; exact ⟨rfl, rfl, rfl⟩)
/-- a fixed number out of its bytes -/
def num (l : List UInt8) : Nat := l.foldl (fun n c => 256 * n + c.toNat) 0
theorem num_snoc (l : List UInt8) (c : UInt8) : num (l ++ [c]) = 256 * num l + c.toNat := by simp [num]
theorem num_lt : ∀ l : List UInt8, num l < 256 ^ l.length := fun l => by
  have : ∀ (k : Nat) (l : List UInt8), l.length = k → num l < 256 ^ k := by
    intro k
    induction k with
    | zero => intro l h; rw [List.eq_nil_of_length_eq_zero h]; decide
    | succ k ih =>
      intro l h
      have hne : l ≠ [] := by intro e; subst e; simp at h
      have e := List.dropLast_concat_getLast hne
      rw [← e, num_snoc, Nat.pow_succ]
      have := ih l.dropLast (by simp [h])
      have := (l.getLast hne).toNat_lt
      omega
  exact this _ _ rfl
def rF (w : Int) (s : RS) : Nat × RS := if 1 ≤ w ∧ w ≤ 8 then (num (rR w s).1, (rR w s).2) else (0, ([], true))
structure FI where
  i : Nat
  a : Nat
theorem shl8_or {a c : Nat} (ha : a < 72057594037927936) (hc : c < 256) : bits .or .u64 ((a : Int) * 256) (c : Int) = ((256 * a + c : Nat) : Int) := by
  rw [show (a : Int) * 256 = ((256 * a : Nat) : Int) by omega, u64_or_nat _ _ (by omega) (by omega), nat_join 8 _ _ (by show 256 * a % 256 = 0; omega) (by show c < 256; omega)]
theorem shl8_or' {a c : Nat} {y : Int} (hy : y = (c : Int)) (ha : a < 72057594037927936) (hc : c < 256) : bits .or .u64 ((a : Int) * 2 ^ Int.toNat 8) y = ((256 * a + c : Nat) : Int) := by
  subst hy
  rw [show (2 : Int) ^ Int.toNat 8 = 256 from rfl]
  exact shl8_or ha hc
theorem num_take {l : List UInt8} {i : Nat} (h : i < l.length) : num (l.take (i + 1)) = 256 * num (l.take i) + (l[i]!).toNat := by rw [take_snoc h, num_snoc]
theorem num_bd {l : List UInt8} {i : Nat} (h : i < l.length) (h8 : l.length ≤ 8) : num (l.take i) < 72057594037927936 := by
  have h1 := num_lt (l.take i)
  have h2 : 256 ^ (l.take i).length ≤ 256 ^ 7 := Nat.pow_le_pow_right (by decide) (by simp; omega)
  exact Nat.lt_of_lt_of_le h1 (Nat.le_trans h2 (by decide))
theorem map_get {l : List UInt8} {i : Nat} (h : i < l.length) : (l.map bI)[i]! = ((l[i]!).toNat : Int) := by
  rw [getElem!_pos _ i (by simpa using h), getElem!_pos l i h, List.getElem_map]; rfl
theorem rR_len {w : Int} {s : RS} (hw : 1 ≤ w ∧ w ≤ 8) : (rR w s).1.length ≤ 8 := by
  unfold rR
  split
  · simp
  · simp; omega
/-! ### the document's reader -/
structure RJ where
  i : Nat
  A : Nat
end Cod
end Go.Proofs.Ytjncahmbllmllaa
/- Labels as bytes: Of. -/
set_option linter.unusedSimpArgs false
set_option linter.unusedVariables false
set_option linter.unusedSectionVars false
set_option maxRecDepth 20000
set_option maxHeartbeats 4000000
namespace Go.Proofs.Ytjncahmbllmllaa
open Go Go.J
attribute [local irreducible] At AtQ AtM AtM1 PR Ct Pu Rd Res.blk Res.own Res.ex RVs RV Cod.W
namespace Lb
open Cod
/-- one label, as it is read -/
def rdO (s : RS) : Lab := ⟨(rT 64 s).1, (rT 128 (rT 64 s).2).1⟩
def rdS (s : RS) : RS := (rT 128 (rT 64 s).2).2
def rdl : Nat → Nat → List Lab → RS → List Lab × RS
  | 0, _, o, s => (o, s)
  | f + 1, n, o, s => if 0 < n ∧ s.2 = false then rdl f (n - 1) (o ++ [rdO s]) (rdS s) else (o, s)
/-- the labels of bytes, or why there are none -/
def ofR (t : List UInt8) : List Lab × RS := rdl 17 (rU (t, false)).1 [] (rU (t, false)).2
def okOf (t : List UInt8) : Prop := (ofR t).2.2 = false ∧ (ofR t).2.1 = [] ∧ right (ofR t).1
instance (t : List UInt8) : Decidable (okOf t) := by unfold okOf; infer_instance
def ofL (t : List UInt8) : List Lab := if okOf t then (ofR t).1 else []
def ofE (t : List UInt8) : Int := if okOf t then 0 else 4
theorem rT_len (most : Int) (s : RS) (hm : 0 ≤ most) : ((rT most s).1.length : Int) ≤ most := by
  unfold rT
  split
  · exact hm
  · rename_i h
    unfold rR
    split
    · exact hm
    · rename_i h2
      dsimp only
      rw [List.length_take, Int.toNat_natCast]
      omega
theorem rT_le (n : Int) (s : RS) : (rT n s).2.1.length ≤ s.1.length := by
  unfold rT
  split
  · simp
  · unfold rR
    split
    · simp
    · have := rU_le s
      simp only [List.length_drop]
      omega
theorem rdS_le (s : RS) : (rdS s).1.length ≤ s.1.length := Nat.le_trans (rT_le _ _) (rT_le _ _)
structure OS where
  (f n : Nat) (o : List Lab) (s : RS) (p : Option Addr) (c : Nat)
def PostO (l : List Lab) (w : Int) : Value → Mem → List Res → Prop := fun v m' B => B = [] ∧ ∃ p c, v = .tuple #[.slice p l.length c, .int .i64 w] ∧ Sl m' cells 2 p c l
theorem rdO_bd (s : RS) : (rdO s).n.length ≤ 64 ∧ (rdO s).v.length ≤ 128 := by
  have h1 := rT_len 64 s (by decide)
  have h2 := rT_len 128 (rT 64 s).2 (by decide)
  unfold rdO
  exact ⟨by show (rT 64 s).1.length ≤ 64; omega, by show (rT 128 (rT 64 s).2).1.length ≤ 128; omega⟩
set_option maxHeartbeats 1000000 in
theorem of_ {m : Mem} (t : List UInt8) (hl : t.length ≤ 10000000000) :
    Ct Try.prog 15 #[.string (str t)] m [] (PostO (ofL t) (ofE t)) := by
  have hU := rU_lt (t, false)
  have hUl := rU_le (t, false)
  have hR : rdl 17 (rU (t, false)).1 [] (rU (t, false)).2 = ofR t := rfl
  have k0 := fun m => ruintP (m := m)
  refine Ct.enterV (by rfl) Try.func15 rfl Try.ntmps15 rfl (fun w0 Rest => ?_)
  (repeat' (first | refine zss ?_ | refine zs0 ?_ | ((with_reducible first | apply At.c1 | apply At.c0); exact rfl; exact rfl; exact open_ t; exact ztk; kernel_rfl; rintro v' m' B' hm' ⟨rfl, b4, rfl, rfl⟩; (try replace sl2 := sl2.mono hm'); (try replace sl3 := sl3.mono hm'); (try (have hq0 : hm' = Mem.le_refl _ := rfl; clear hq0 hm'))) | ((with_reducible first | apply At.c1 | apply At.c0); exact rfl; exact rfl; exact k0 _ b4 (t, false) (by show t.length ≤ _; omega); exact ztk; kernel_rfl; rintro v' m' B' hm' ⟨rfl, rfl, rfl⟩; (try replace sl2 := sl2.mono hm'); (try replace sl3 := sl3.mono hm'); (try (have hq0 : hm' = Mem.le_refl _ := rfl; clear hq0 hm'))) | (refine zsp ?_ ?_ <;> (intro hc; (try simp only [zhcs, reduceCtorEq] at hc); (try (exfalso; first | contradiction | omega | exact absurd rfl hc | exact absurd (by decide) hc))))))
  generalize (rU (t, false)).1 = n0 at hU hR ⊢
  generalize (rU (t, false)).2 = s0 at hUl hR ⊢
  refine At.own_nil cells 2 29 ?_
  (refine At.loopk (σ := OS) [4] (fun s F0 => (5, .slice s.p s.o.length s.c) :: (6, .int .u64 (s.n : Int)) :: F0) (fun s => m) (fun s => .own cells 2 29 s.p s.c s.o :: rd b4 s.s :: Rest) (fun s => s.f + s.o.length = 17 ∧ s.n < 18446744073709551616 ∧ s.s.1.length ≤ t.length ∧ rdl s.f s.n s.o s.s = ofR t ∧ (∀ x ∈ s.o, x.n.length ≤ 1000000000000 ∧ x.v.length ≤ 1000000000000)) (fun s => s.f) ⟨17, n0, [], s0, none, 0⟩ (by rfl) ?_ zsubs zml zente ?_)
  · exact ⟨rfl, hU, hUl, hR, fun x hx => by cases hx⟩
  rintro ⟨f, n, o, ⟨r, bd⟩, p, c⟩ ⟨h1, h2, h3, h4, h5⟩
  dsimp only at h1 h2 h3 h4 h5 ⊢
  by_cases hgo : 0 < f ∧ 0 < n ∧ bd = false
  · obtain ⟨f, rfl⟩ : ∃ k, f = k + 1 := ⟨f - 1, by omega⟩
    obtain ⟨n, rfl⟩ : ∃ k, n = k + 1 := ⟨n - 1, by omega⟩
    obtain ⟨-, -, rfl⟩ := hgo
    have h4' : rdl f n (o ++ [rdO (r, false)]) (rdS (r, false)) = ofR t := by
      rw [← h4]; show _ = (if _ then _ else _); rw [if_pos ⟨by omega, rfl⟩, Nat.add_sub_cancel]
    have hb := fun m => bad (m := m) b4 (r, false)
    have k1 := fun m => textR (m := m) b4 (r, false) 64 (by decide) (by show r.length ≤ _; omega)
    have hT1 := rT_le 64 (r, false)
    have hT2 := rdS_le (r, false)
    have hbd := rdO_bd (r, false)
    have k2 := fun m => textR (m := m) b4 (rT 64 (r, false)).2 128 (by decide) (by have : (r, false).1.length = r.length := rfl; omega)
    have hw : IntKind.wrap .u64 (((n + 1 : Nat) : Int) - 1) = (n : Int) := by rw [show ((n + 1 : Nat) : Int) - 1 = (n : Int) by omega]; exact IntWalk.u64_in _ (by omega)
    change rdl f n (o ++ [⟨(rT 64 (r, false)).1, (rT 128 (rT 64 (r, false)).2).1⟩]) (rT 128 (rT 64 (r, false)).2).2 = ofR t at h4'
    change (rT 128 (rT 64 (r, false)).2).2.1.length ≤ _ at hT2
    change (rT 64 (r, false)).1.length ≤ 64 ∧ (rT 128 (rT 64 (r, false)).2).1.length ≤ 128 at hbd
    generalize (rT 64 (r, false)).1 = X at *
    generalize (rT 64 (r, false)).2 = s1 at *
    generalize (rT 128 s1).1 = Y at *
    generalize (rT 128 s1).2 = s2 at *
    (repeat' (first | refine zss ?_ | ((first | (with_reducible first | apply At.val | apply AtQ.val)); (exact pr_sub (by rfl) (by rfl) hw); exact rfl) | refine zsO ?_ | ((with_reducible first | apply AtM1.cr | apply AtQ.cr | apply At.cr); exact rfl; exact rfl; exact fun _ hmm => hb _; exact ztk; kernel_rfl) | ((with_reducible first | apply At.c1 | apply At.c0); exact rfl; exact rfl; exact k1 _; exact ztk; kernel_rfl; rintro v' m' B' hm' ⟨rfl, rfl, rfl⟩; (try replace sl2 := sl2.mono hm'); (try replace sl3 := sl3.mono hm'); (try (have hq0 : hm' = Mem.le_refl _ := rfl; clear hq0 hm'))) | ((with_reducible first | apply At.c1 | apply At.c0); exact rfl; exact rfl; exact k2 _; exact ztk; kernel_rfl; rintro v' m' B' hm' ⟨rfl, rfl, rfl⟩; (try replace sl2 := sl2.mono hm'); (try replace sl3 := sl3.mono hm'); (try (have hq0 : hm' = Mem.le_refl _ := rfl; clear hq0 hm'))) | ((with_reducible apply At.litF cells [(⟨X, Y⟩ : Lab)]); exact inferInstance; (iterate 7 exact rfl); intro b' m' hm' sl2; (try replace sl3 := sl3.mono hm')) | ((with_reducible apply At.apW (f := cells) (l := o)); exact rfl; exact rfl; exact (by repeat constructor); exact inferInstance; exact zrdl; (iterate 4 exact rfl); exact zom; exact rfl; intro p2 c2) | (refine zsp ?_ ?_ <;> (intro hc; (try simp only [zhcs, reduceCtorEq] at hc); (try (exfalso; first | omega | contradiction | omega | exact absurd rfl hc | exact absurd (by decide) hc))))))
    all_goals ((with_reducible refine At.reachk ((⟨f, n, o ++ [⟨X, Y⟩], s2, p2, c2⟩ : OS)) ?_ ?_ ?_ ?_); exact zsubs; exact zml; exact zente; exact ⟨⟨by dsimp only; rw [List.length_append]; simp; omega, by dsimp only; omega, by dsimp only at hT2 ⊢; omega, h4', fun x hx => by
      rcases List.mem_append.1 hx with hx | hx
      · exact h5 x hx
      · rw [List.mem_singleton.1 hx]; exact ⟨by dsimp only; omega, by dsimp only; omega⟩⟩, by dsimp only; omega⟩)
  · have hfin : ofR t = (o, (r, bd)) := by
      rw [← h4]
      cases f with
      | zero => rfl
      | succ f => show (if _ then _ else _) = _; rw [if_neg fun k => hgo ⟨by omega, k.1, k.2⟩]
    have hb := fun m => bad (m := m) b4 (r, bd)
    have hlf := fun m => left (m := m) b4 (r, bd)
    have hck := fun (m' : Mem) sl => check (m := m') p c o (Mid.of h5) sl
    have hgo2 : bd = false → ¬ (0 < f ∧ 0 < n) := fun e k => hgo ⟨k.1, k.2, e⟩
    (refine At.own_freeze inferInstance (by repeat constructor) fun m' hm' sl3 => ?_; (try replace sl2 := sl2.mono hm'))
    have hok : okOf t ↔ bd = false ∧ r = [] ∧ right o := by unfold okOf; rw [hfin]
    have hoL : ofL t = if okOf t then o else [] := by unfold ofL; rw [hfin]
    by_cases hk : okOf t
    · rw [hoL, if_pos hk, show ofE t = 0 from if_pos hk]
      obtain ⟨rfl, rfl, hr⟩ := hok.1 hk
      rw [chk_ok hr] at hck
      have hg3 := hgo2 rfl
      (repeat' (first | (refine At.cutp (id := 4) (False) 22 [4, 5, 6] (by rfl) ?_ ?_) | refine zss ?_ | refine zs0 ?_ | ((with_reducible first | apply AtM1.cr | apply AtQ.cr | apply At.cr); exact rfl; exact rfl; exact fun _ hmm => hb _; exact ztk; kernel_rfl) | ((with_reducible first | apply AtM1.cr | apply AtQ.cr | apply At.cr); exact rfl; exact rfl; exact fun _ hmm => hlf _; exact ztk; kernel_rfl) | ((with_reducible first | apply AtM1.cr | apply AtQ.cr | apply At.cr); exact rfl; exact rfl; exact fun _ hmm => hck _ (sl3.mono hmm); exact ztk; kernel_rfl) | ((with_reducible apply At.endp); exact rfl; exact zsubs; exact zml; exact zente; (first | exact ⟨fun h => Bool.noConfusion h, fun h => h.elim⟩ | (simp only [decide_eq_true_eq, iff_false]; omega))) | (refine zsp ?_ ?_ <;> (intro hc; (try simp only [zhcs, reduceCtorEq] at hc); (try (exfalso; first | (first | omega | exact absurd hc (by decide)) | contradiction | omega | exact absurd rfl hc | exact absurd (by decide) hc))))))
      all_goals ((with_reducible apply At.retV (B := [])); exact rfl; (repeat' (first | exact RVs.nil | (with_reducible apply RVs.cons) | exact rv_tmp (by rfl) | exact rv_cellN (by rfl) (by repeat constructor) (by rfl) (by rfl) (by rfl) | exact rv_cell1 (by rfl) (by repeat constructor) (by rfl) (by rfl))); exact zml; exact zkp; exact ⟨rfl, p, c, rfl, sl3⟩)
    · rw [hoL, if_neg hk, show ofE t = 4 from if_neg hk]
      have hno : ¬ (bd = false ∧ r = [] ∧ right o) := fun k => hk (hok.2 k)
      have hcz : chk o = 0 → right o := fun k => chk_right.1 k
      generalize chk o = w at hck hcz
      cases bd
      all_goals
        first
          | have hg3 := hgo2 rfl
          | skip
        (repeat' (first | (refine At.cutp (id := 4) (False) 22 [4, 5, 6] (by rfl) ?_ ?_) | refine zss ?_ | refine zs0 ?_ | ((with_reducible first | apply AtM1.cr | apply AtQ.cr | apply At.cr); exact rfl; exact rfl; exact fun _ hmm => hb _; exact ztk; kernel_rfl) | ((with_reducible first | apply AtM1.cr | apply AtQ.cr | apply At.cr); exact rfl; exact rfl; exact fun _ hmm => hlf _; exact ztk; kernel_rfl) | ((with_reducible first | apply AtM1.cr | apply AtQ.cr | apply At.cr); exact rfl; exact rfl; exact fun _ hmm => hck _ (sl3.mono hmm); exact ztk; kernel_rfl) | ((with_reducible apply At.endp); exact rfl; exact zsubs; exact zml; exact zente; (first | exact ⟨fun h => Bool.noConfusion h, fun h => h.elim⟩ | (simp only [decide_eq_true_eq, iff_false]; omega))) | (refine zsp ?_ ?_ <;> (intro hc; (try simp only [zhcs, reduceCtorEq] at hc); (try (exfalso; first | (first | omega | exact absurd hc (by decide) | (rename_i hz; exact hno ⟨rfl, List.eq_nil_of_length_eq_zero (by have h9 : (([] : List UInt8), false).1.length = 0 := rfl; omega), hcz (by assumption)⟩)) | contradiction | omega | exact absurd rfl hc | exact absurd (by decide) hc))))))
        all_goals ((with_reducible apply At.retV (B := [])); exact rfl; (repeat' (first | exact RVs.nil | (with_reducible apply RVs.cons) | exact rv_tmp (by rfl) | exact rv_cellN (by rfl) (by repeat constructor) (by rfl) (by rfl) (by rfl) | exact rv_cell1 (by rfl) (by repeat constructor) (by rfl) (by rfl))); exact zml; exact zkp; exact ⟨rfl, none, 0, rfl, Sl.empty _ inferInstance⟩)
end Lb
end Go.Proofs.Ytjncahmbllmllaa
/- Labels' bytes there and back (plain). -/
set_option linter.unusedSimpArgs false
set_option linter.unusedVariables false
set_option linter.unusedSectionVars false
set_option maxRecDepth 20000
set_option maxHeartbeats 4000000
namespace Go.Proofs.Ytjncahmbllmllaa
open Go Go.J
namespace Lb
open Cod
theorem rU_bk {n : Nat} (h : n < 18446744073709551616) (r : List UInt8) : rU (uintB n ++ r, false) = (n, (r, false)) := by unfold rU; rw [dec_uint h r]
theorem rT_bk {t : List UInt8} {most : Int} (h : (t.length : Int) ≤ most) (h2 : t.length < 10000000000) (r : List UInt8) : rT most (textB t ++ r, false) = (t, (r, false)) := by
  unfold rT textB
  rw [List.append_assoc, rU_bk (by omega)]
  rw [if_neg (by simp only [List.length_append]; omega)]
  unfold rR
  rw [if_neg (by simp only [List.length_append]; exact fun h => h.elim (fun h => by cases h) (fun h => by omega))]
  simp
theorem rT_fwd {k : Int} {l : List UInt8} (h : (rT k (l, false)).2.2 = false) : l = textB (rT k (l, false)).1 ++ (rT k (l, false)).2.1 := by
  unfold rT at h ⊢
  split at h
  · cases h
  rename_i hc
  rw [if_neg hc]
  unfold rR at h ⊢
  split at h
  · cases h
  rename_i hr
  rw [if_neg hr]
  dsimp only
  cases hd : Cod.dec 0 l with
  | none =>
    exfalso
    have : (rU (l, false)).2.2 = true := by unfold rU; rw [hd]
    exact hr (.inl this)
  | some x =>
    obtain ⟨n, r⟩ := x
    have hs := dec_spec l 0 n r hd
    have e : rU (l, false) = (n, (r, false)) := by unfold rU; rw [hd]
    rw [e] at hc hr ⊢
    dsimp only at hc hr ⊢
    rw [Int.toNat_natCast]
    unfold textB
    rw [List.length_take, show min n r.length = n by omega, List.append_assoc, List.take_append_drop]
    exact hs.1
theorem rT_badin {k : Int} {l : List UInt8} : (rT k (l, true)).2.2 = true := by
  unfold rT
  split
  · rfl
  unfold rR
  have : (rU (l, true)).2.2 = true := by
    unfold rU
    cases Cod.dec 0 l <;> rfl
  rw [if_pos (.inl this)]
theorem rdS_fwd {l : List UInt8} (h : (rdS (l, false)).2 = false) : l = oneL (rdO (l, false)) ++ (rdS (l, false)).1 := by
  unfold rdS at h ⊢
  unfold rdO oneL
  cases hb : (rT 64 (l, false)).2.2 with
  | true =>
    have : (rT 64 (l, false)).2 = ((rT 64 (l, false)).2.1, true) := Prod.ext rfl hb
    rw [this, rT_badin] at h
    cases h
  | false =>
    have e1 := rT_fwd hb
    have e2 : (rT 64 (l, false)).2 = ((rT 64 (l, false)).2.1, false) := Prod.ext rfl hb
    have h2 := h
    rw [e2] at h2
    have e3 := rT_fwd h2
    rw [← e2] at e3
    dsimp only
    rw [List.append_assoc, ← e3, ← e1]
theorem rdl_fwd : ∀ (f n : Nat) (o : List Lab) (l : List UInt8), (rdl f n o (l, false)).2.2 = false →
    ∃ new, (rdl f n o (l, false)).1 = o ++ new ∧ l = bodyL new ++ (rdl f n o (l, false)).2.1 ∧ (new.length = n ∨ new.length = f)
  | 0, n, o, l, _ => ⟨[], by simp [rdl], by simp [rdl, bodyL], .inr rfl⟩
  | f + 1, n, o, l, h => by
    by_cases hn : 0 < n
    · have e : rdl (f + 1) n o (l, false) = rdl f (n - 1) (o ++ [rdO (l, false)]) (rdS (l, false)) := by show (if _ then _ else _) = _; rw [if_pos ⟨hn, rfl⟩]
      rw [e] at h ⊢
      cases hb : (rdS (l, false)).2 with
      | true =>
        exfalso
        have : (rdl f (n - 1) (o ++ [rdO (l, false)]) (rdS (l, false))).2.2 = true := by
          cases f with
          | zero => exact hb
          | succ f => show (if _ then _ else _ : List Lab × RS).2.2 = true; rw [if_neg fun k => by rw [hb] at k; cases k.2]; exact hb
        rw [this] at h; cases h
      | false =>
        have e2 : rdS (l, false) = ((rdS (l, false)).1, false) := Prod.ext rfl hb
        have e3 := rdS_fwd hb
        rw [e2] at h
        obtain ⟨new, g1, g2, g3⟩ := rdl_fwd f (n - 1) (o ++ [rdO (l, false)]) _ h
        rw [← e2] at g1 g2
        refine ⟨rdO (l, false) :: new, ?_, ?_, ?_⟩
        · rw [g1, List.append_assoc]; rfl
        · show l = (oneL (rdO (l, false)) ++ bodyL new) ++ _
          rw [List.append_assoc, ← g2, ← e3]
        · rw [List.length_cons]; omega
    · refine ⟨[], ?_, ?_, .inl (by simp; omega)⟩
      · show (if _ then _ else _ : List Lab × RS).1 = _
        rw [if_neg fun k => hn k.1, List.append_nil]
      · show l = _ ++ (if _ then _ else _ : List Lab × RS).2.1
        rw [if_neg fun k => hn k.1]; rfl
/-- what is had of bytes has these -/
theorem of_bytes {t : List UInt8} (h : okOf t) : bytesL (ofL t) = t ∧ right (ofL t) := by
  have e : ofL t = (ofR t).1 := if_pos h
  obtain ⟨h1, h2, h3⟩ := h
  rw [e]
  refine ⟨?_, h3⟩
  unfold ofR at *
  cases hd : Cod.dec 0 t with
  | none =>
    exfalso
    have e0 : rU (t, false) = (0, ([], true)) := by unfold rU; rw [hd]
    rw [e0] at h1
    have : (rdl 17 0 [] ([], true)).2.2 = true := rfl
    rw [this] at h1; cases h1
  | some x =>
    obtain ⟨n, r⟩ := x
    have hs := dec_spec t 0 n r hd
    have e0 : rU (t, false) = (n, (r, false)) := by unfold rU; rw [hd]
    rw [e0] at h1 h2 h3 ⊢
    dsimp only at h1 h2 h3 ⊢
    obtain ⟨new, g1, g2, g3⟩ := rdl_fwd 17 n [] r h1
    rw [h2, List.append_nil] at g2
    rw [List.nil_append] at g1
    rw [g1] at h3 ⊢
    have h16 := h3.2.1
    unfold bytesL
    rw [show new.length = n by omega, ← g2]
    exact hs.1.symm
theorem rdl_back : ∀ (new : List Lab) (f : Nat) (o : List Lab), new.length ≤ f → (∀ x ∈ new, x.n.length ≤ 64 ∧ x.v.length ≤ 128) → rdl f new.length o (bodyL new, false) = (o ++ new, ([], false))
  | [], f, o, _, _ => by
    rw [List.append_nil]
    cases f with
    | zero => rfl
    | succ f => show (if _ then _ else _) = _; rw [if_neg fun k => absurd k.1 (Nat.lt_irrefl 0)]; rfl
  | x :: new, 0, o, h, _ => absurd h (by simp)
  | x :: new, f + 1, o, h, hx => by
    have hb := hx x (List.mem_cons_self ..)
    have e1 : rT 64 (textB x.n ++ (textB x.v ++ bodyL new), false) = (x.n, (textB x.v ++ bodyL new, false)) := rT_bk (by omega) (by omega) _
    have e2 : rT 128 (textB x.v ++ bodyL new, false) = (x.v, (bodyL new, false)) := rT_bk (by omega) (by omega) _
    have e3 : bodyL (x :: new) = textB x.n ++ (textB x.v ++ bodyL new) := by
      show oneL x ++ bodyL new = _
      unfold oneL
      rw [List.append_assoc]
    rw [e3]
    show (if _ then _ else _) = _
    rw [if_pos ⟨by simp, rfl⟩, List.length_cons, Nat.add_sub_cancel]
    have e4 : rdO (textB x.n ++ (textB x.v ++ bodyL new), false) = x := by unfold rdO; rw [e1]; dsimp only; rw [e2]
    have e5 : rdS (textB x.n ++ (textB x.v ++ bodyL new), false) = (bodyL new, false) := by unfold rdS; rw [e1]; dsimp only; rw [e2]
    rw [e4, e5, rdl_back new f (o ++ [x]) (by simpa using h) (fun y hy => hx y (List.mem_cons_of_mem _ hy)), List.append_assoc]
    rfl
/-- right labels are had of their bytes -/
theorem of_back {l : List Lab} (h : right l) : ofL (bytesL l) = l ∧ ofE (bytesL l) = 0 := by
  have hln := h.2.1
  have e : ofR (bytesL l) = (l, ([], false)) := by
    unfold ofR bytesL
    rw [rU_bk (by omega)]
    dsimp only
    rw [rdl_back l 17 [] (by omega) (fun x hx => by
      obtain ⟨i, hi, rfl⟩ := List.mem_iff_getElem.1 hx
      have := right_at h hi
      rwa [getElem!_pos l i hi] at this)]
    rfl
  have hok : okOf (bytesL l) := by unfold okOf; rw [e]; exact ⟨rfl, rfl, h⟩
  exact ⟨by show (if _ then _ else _) = _; rw [if_pos hok, e], if_pos hok⟩
theorem bytes_inj {a b : List Lab} (ha : right a) (hb : right b) (h : bytesL a = bytesL b) : a = b := by
  rw [← (of_back ha).1, ← (of_back hb).1, h]
end Lb
end Go.Proofs.Ytjncahmbllmllaa
/- Check sums: the plain law. A step can be turned back, and four bytes are told from the sum. -/
set_option linter.unusedSimpArgs false
set_option linter.unusedVariables false
set_option linter.unusedSectionVars false
set_option maxRecDepth 20000
set_option maxHeartbeats 4000000
namespace Go.Proofs.Ytjncahmbllmllaa
open Go Go.J
namespace Seal
/-- one halving -/
def half (r : Nat) : Nat := r / 2 ^^^ (if r % 2 = 1 then 2197175160 else 0)
def R : Nat → Nat
  | 0 => 1
  | k + 1 => half (R k)
/-- one round of the table, so many places of it -/
def inn (s r : Nat) : Nat → List Nat → List Nat
  | 0, l => l
  | n + 1, l => (inn s r n l).set (2 * s * n + s) ((inn s r n l)[2 * s * n]! ^^^ r)
def T : Nat → List Nat
  | 0 => List.replicate 256 0
  | k + 1 => inn (128 / 2 ^ k) (R (k + 1)) (2 ^ k) (T k)
def tab : List Nat := T 8
theorem inn_len (s r : Nat) : ∀ (n : Nat) (l : List Nat), (inn s r n l).length = l.length
  | 0, _ => rfl
  | n + 1, l => by rw [inn, List.length_set, inn_len s r n l]
theorem T_len : ∀ k, (T k).length = 256
  | 0 => by simp [T]
  | k + 1 => by rw [T, inn_len, T_len k]
theorem half_lt {r : Nat} (h : r < 4294967296) : half r < 4294967296 := by
  unfold half
  refine Nat.xor_lt_two_pow (n := 32) (by omega) ?_
  split <;> decide
theorem R_lt : ∀ k, R k < 4294967296
  | 0 => by decide
  | k + 1 => half_lt (R_lt k)
theorem all_set {l : List Nat} {i v b : Nat} (h : ∀ x ∈ l, x < b) (hv : v < b) : ∀ x ∈ l.set i v, x < b := fun x hx => by
  rcases List.mem_or_eq_of_mem_set hx with h1 | h1
  · exact h x h1
  · rw [h1]; exact hv
theorem get_lt {l : List Nat} {b : Nat} (h : ∀ x ∈ l, x < b) (hb : 0 < b) (i : Nat) : l[i]! < b := by
  by_cases hi : i < l.length
  · rw [getElem!_pos l i hi]; exact h _ (List.getElem_mem hi)
  · rw [getElem!_neg l i hi]; exact hb
theorem inn_lt {s r : Nat} (hr : r < 4294967296) : ∀ (n : Nat) (l : List Nat), (∀ x ∈ l, x < 4294967296) → ∀ x ∈ inn s r n l, x < 4294967296
  | 0, _, h => h
  | n + 1, l, h => by
    have ih := inn_lt (s := s) hr n l h
    exact all_set ih (Nat.xor_lt_two_pow (n := 32) (get_lt ih (by decide) _) hr)
theorem T_lt : ∀ k, ∀ x ∈ T k, x < 4294967296
  | 0 => fun x hx => by rw [T] at hx; rw [(List.mem_replicate.1 hx).2]; decide
  | k + 1 => inn_lt (R_lt _) _ _ (T_lt k)
theorem tab_lt (i : Nat) : tab[i]! < 4294967296 := get_lt (T_lt 8) (by decide) i
theorem tab_len : tab.length = 256 := T_len 8
/-- no two bytes of the table have one upper byte -/
theorem tab_top : ∀ i, i < 256 → ∀ j, j < 256 → tab[i]! / 16777216 = tab[j]! / 16777216 → i = j := by
  have h : (tab.map (· / 16777216)).Nodup := by decide +kernel
  intro i hi j hj e
  have li : i < (tab.map (· / 16777216)).length := by rw [List.length_map, tab_len]; exact hi
  have lj : j < (tab.map (· / 16777216)).length := by rw [List.length_map, tab_len]; exact hj
  rw [getElem!_pos tab i (by rw [tab_len]; exact hi), getElem!_pos tab j (by rw [tab_len]; exact hj)] at e
  have := List.getElem_map (f := (· / 16777216)) (l := tab) (i := i) (h := li)
  exact (List.getElem_inj (h₀ := li) (h₁ := lj) h).1 (by rw [List.getElem_map, List.getElem_map]; exact e)
def stp (r : Nat) (c : UInt8) : Nat := r / 256 ^^^ tab[r % 256 ^^^ c.toNat]!
def sum (l : List UInt8) : Nat := l.foldl stp 4294967295 ^^^ 4294967295
theorem stp_lt {r : Nat} (h : r < 4294967296) (c : UInt8) : stp r c < 4294967296 := Nat.xor_lt_two_pow (n := 32) (by omega) (tab_lt _)
theorem fold_lt : ∀ (l : List UInt8) {r : Nat}, r < 4294967296 → l.foldl stp r < 4294967296
  | [], _, h => h
  | c :: l, _, h => fold_lt l (stp_lt h c)
theorem sum_lt (l : List UInt8) : sum l < 4294967296 := Nat.xor_lt_two_pow (n := 32) (fold_lt l (by decide)) (by decide)
theorem xor_div (a b n : Nat) : (a ^^^ b) / 2 ^ n = a / 2 ^ n ^^^ b / 2 ^ n := by
  rw [← Nat.shiftRight_eq_div_pow, ← Nat.shiftRight_eq_div_pow, ← Nat.shiftRight_eq_div_pow, Nat.shiftRight_xor_distrib]
theorem xor_right {a b c : Nat} (h : a ^^^ c = b ^^^ c) : a = b := by
  have := congrArg (· ^^^ c) h
  simpa [Nat.xor_assoc] using this
theorem xor_left {a b c : Nat} (h : c ^^^ a = c ^^^ b) : a = b := xor_right (c := c) (by rw [Nat.xor_comm, h, Nat.xor_comm])
theorem ix_lt (r : Nat) (c : UInt8) : r % 256 ^^^ c.toNat < 256 := Nat.xor_lt_two_pow (n := 8) (Nat.mod_lt _ (by decide)) c.toNat_lt
/-- what the upper bytes of a step tell -/
theorem stp_top {r r' : Nat} {c c' : UInt8} (hr : r < 4294967296) (hr' : r' < 4294967296) {j : Nat} (hj : j ≤ 3) (h : stp r c / 2 ^ (8 * j) = stp r' c' / 2 ^ (8 * j)) : r % 256 ^^^ c.toNat = r' % 256 ^^^ c'.toNat ∧ r / 2 ^ (8 * (j + 1)) = r' / 2 ^ (8 * (j + 1)) := by
  have h24 : stp r c / 2 ^ 24 = stp r' c' / 2 ^ 24 := by
    have e : 2 ^ 24 = 2 ^ (8 * j) * 2 ^ (24 - 8 * j) := by rw [← Nat.pow_add]; congr 1; omega
    rw [e, ← Nat.div_div_eq_div_mul, ← Nat.div_div_eq_div_mul, h]
  have top : ∀ {r : Nat} {c : UInt8}, r < 4294967296 → stp r c / 2 ^ 24 = tab[r % 256 ^^^ c.toNat]! / 16777216 := fun {r c} hr => by
    unfold stp
    rw [xor_div, Nat.div_div_eq_div_mul, Nat.div_eq_of_lt (by omega : r < 256 * 2 ^ 24), Nat.zero_xor]
  have hk := tab_top _ (ix_lt r c) _ (ix_lt r' c') (by rw [← top hr, ← top hr', h24])
  refine ⟨hk, ?_⟩
  unfold stp at h
  rw [hk, xor_div, xor_div] at h
  have := xor_right h
  rw [Nat.div_div_eq_div_mul, Nat.div_div_eq_div_mul] at this
  rw [show 8 * (j + 1) = 8 + 8 * j by omega, Nat.pow_add]
  exact this
theorem stp_inj {r r' : Nat} {c : UInt8} (hr : r < 4294967296) (hr' : r' < 4294967296) (h : stp r c = stp r' c) : r = r' := by
  obtain ⟨h1, h2⟩ := stp_top (j := 0) hr hr' (by decide) (by rw [h])
  have h3 := xor_right h1
  omega
theorem fold_inj : ∀ (l : List UInt8) {r r' : Nat}, r < 4294967296 → r' < 4294967296 → l.foldl stp r = l.foldl stp r' → r = r'
  | [], _, _, _, _, h => h
  | c :: l, _, _, hr, hr', h => stp_inj hr hr' (fold_inj l (stp_lt hr c) (stp_lt hr' c) h)
theorem byte_of {r : Nat} {c c' : UInt8} (h : r % 256 ^^^ c.toNat = r % 256 ^^^ c'.toNat) : c = c' := UInt8.toNat_inj.1 (xor_left h)
theorem four {r : Nat} {a b c d a' b' c' d' : UInt8} (hr : r < 4294967296) (h : [a, b, c, d].foldl stp r = [a', b', c', d'].foldl stp r) : a = a' ∧ b = b' ∧ c = c' ∧ d = d' := by
  simp only [List.foldl_cons, List.foldl_nil] at h
  have l1 := stp_lt hr a; have l1' := stp_lt hr a'
  have l2 := stp_lt l1 b; have l2' := stp_lt l1' b'
  have l3 := stp_lt l2 c; have l3' := stp_lt l2' c'
  obtain ⟨k4, g3⟩ := stp_top (j := 0) l3 l3' (by decide) (by rw [h])
  obtain ⟨k3, g2⟩ := stp_top (j := 1) l2 l2' (by decide) g3
  obtain ⟨k2, g1⟩ := stp_top (j := 2) l1 l1' (by decide) g2
  obtain ⟨k1, _⟩ := stp_top (j := 3) hr hr (by decide) g1
  have ea := byte_of k1
  subst ea
  have eb := byte_of k2
  subst eb
  have ec := byte_of k3
  subst ec
  exact ⟨rfl, rfl, rfl, byte_of k4⟩
/-- four bytes, one behind the other, are told -/
theorem found {p q : List UInt8} {a b c d a' b' c' d' : UInt8} (h : sum (p ++ [a, b, c, d] ++ q) = sum (p ++ [a', b', c', d'] ++ q)) : a = a' ∧ b = b' ∧ c = c' ∧ d = d' := by
  unfold sum at h
  have h1 := xor_right h
  rw [List.foldl_append, List.foldl_append, List.foldl_append, List.foldl_append] at h1
  have hp := fold_lt p (r := 4294967295) (by decide)
  exact four hp (fold_inj q (fold_lt _ hp) (fold_lt _ hp) h1)
end Seal
end Go.Proofs.Ytjncahmbllmllaa
/- Check sums, as the program makes them: Table, Sum, mark. -/
set_option linter.unusedSimpArgs false
set_option linter.unusedVariables false
set_option linter.unusedSectionVars false
set_option maxRecDepth 20000
set_option maxHeartbeats 4000000
namespace Go.Proofs.Ytjncahmbllmllaa
open Go Go.J
attribute [local irreducible] At AtQ AtM AtM1 PR Ct Pu Rd Res.blk Res.own Res.byt Res.ex RVs RV
namespace Seal
abbrev gq : Nat → Value := fun x => .int .u32 (x : Int)
theorem all_gq (l : List Nat) : (l.map gq).all oneCell = true := by
  rw [List.all_map, List.all_eq_true]; intro x _; rfl
theorem half_eq {r : Nat} (h : r < 4294967296) : bits .xor .u32 ((r : Int) / 2) (bits .and .u32 2197175160 ((0 - ((r % 2 : Nat) : Int)) % 4294967296)) = ((half r : Nat) : Int) := by
  unfold half
  rw [show (r : Int) / 2 = ((r / 2 : Nat) : Int) by omega]
  by_cases e : r % 2 = 1
  · rw [if_pos e, e]
    rw [show (0 - ((1 : Nat) : Int)) % 4294967296 = ((4294967295 : Nat) : Int) by decide, show (2197175160 : Int) = ((2197175160 : Nat) : Int) from rfl, u32_and_nat _ _ (by decide) (by decide), show 2197175160 &&& 4294967295 = 2197175160 by decide, u32_xor_nat _ _ (by omega) (by decide)]
  · rw [if_neg e, show r % 2 = 0 by omega]
    rw [show (0 - ((0 : Nat) : Int)) % 4294967296 = ((0 : Nat) : Int) by decide, show (2197175160 : Int) = ((2197175160 : Nat) : Int) from rfl, u32_and_nat _ _ (by decide) (by decide), show 2197175160 &&& 0 = 0 by decide, u32_xor_nat _ _ (by omega) (by decide)]
theorem and1 {r : Nat} (h : r < 4294967296) : bits .and .u32 (r : Int) 1 = ((r % 2 : Nat) : Int) := by
  rw [show (1 : Int) = ((1 : Nat) : Int) from rfl, u32_and_nat _ _ h (by decide), Nat.and_one_is_mod]
theorem steps : ∀ k, k < 8 → 1 ≤ 128 / 2 ^ k ∧ 128 / 2 ^ k ≤ 128 ∧ 2 * (128 / 2 ^ k) * 2 ^ k = 256 ∧ 128 / 2 ^ k / 2 = 128 / 2 ^ (k + 1) := by decide
set_option maxHeartbeats 2000000 in
theorem table : Pu Try.prog 59 #[] (.agg (tab.map gq).toArray) := Pu.intro fun m => by
  refine Ct.enterV (by rfl) Try.func59 rfl Try.ntmps59 rfl (fun w0 Rest => ?_)
  (repeat' (first | refine zss ?_ | ((first | (with_reducible first | apply At.val | apply AtQ.val)); (exact zprA); exact rfl) | refine zs0 ?_ | ((with_reducible apply At.alloc (d := 0)); exact rfl; exact rfl; intro b0) | ((with_reducible apply At.alloc (d := 1)); exact rfl; exact rfl; intro b1) | (refine zsp ?_ ?_ <;> (intro hc; (try simp only [zhcs, reduceCtorEq] at hc); (try (exfalso; first | contradiction | omega | exact absurd rfl hc | exact absurd (by decide) hc))))))
  change At _ w0 _ m (Res.blk b1 92 ((T 0).map gq) :: Res.blk b0 92 ((T 0).map gq) :: Rest) _
  (refine At.loopk (σ := Nat) [0, 1] (fun s F0 => (2, .int .i64 ((128 / 2 ^ s : Nat) : Int)) :: (3, .int .u32 ((R s : Nat) : Int)) :: F0) (fun s => m) (fun s => .blk b1 92 ((T s).map gq) :: .blk b0 92 ((T 0).map gq) :: Rest) (fun s => s ≤ 8) (fun s => 8 - s) 0 (by rfl) ?_ zsubs zml zente ?_)
  · exact Nat.zero_le _
  intro k hs
  have hR := R_lt k
  by_cases h : k < 8
  · obtain ⟨q1, q2, q3, q4⟩ := steps k h
    generalize hst : 128 / 2 ^ k = st at q1 q2 q3 q4
    have hR1 := R_lt (k + 1)
    have hx := half_eq hR
    rw [show half (R k) = R (k + 1) from rfl] at hx
    have hT : T (k + 1) = inn st (R (k + 1)) (2 ^ k) (T k) := by rw [← hst]; rfl
    obtain ⟨r, hr⟩ : ∃ r, R (k + 1) = r := ⟨_, rfl⟩
    rw [hr] at hR1 hx hT
    have w2 : IntKind.wrap .i64 (2 * (st : Int)) = ((2 * st : Nat) : Int) := by rw [show (2 * (st : Int)) = ((2 * st : Nat) : Int) by omega]; exact IntWalk.i64_in _ (by omega)
    have w0' : IntKind.wrap .i64 0 = 0 := rfl
    (repeat' (first | refine zss ?_ | ((first | (with_reducible first | apply At.val | apply AtQ.val)); (first | exact pr_and (by rfl) (by rfl) (and1 hR) | exact pr_xor (by rfl) (by rfl) hx | exact zprA); exact rfl) | refine zs0 ?_ | ((with_reducible apply At.alloc (d := 0)); exact rfl; exact rfl; intro b0) | ((with_reducible apply At.alloc (d := 1)); exact rfl; exact rfl; intro b1) | (refine zsp ?_ ?_ <;> (intro hc; (try simp only [zhcs, reduceCtorEq] at hc); (try (exfalso; first | omega | contradiction | omega | exact absurd rfl hc | exact absurd (by decide) hc))))))
    (refine At.loopk (σ := Nat) [0, 1, 2, 3] (fun s F0 => (4, .int .i64 ((2 * st * s : Nat) : Int)) :: F0) (fun s => m) (fun s => .blk b1 92 ((inn st r s (T k)).map gq) :: .blk b0 92 ((T 0).map gq) :: Rest) (fun s => s ≤ 2 ^ k) (fun s => 2 ^ k - s) 0 (by rfl) ?_ zsubs zml zente ?_)
    · exact Nat.zero_le _
    intro z hz
    have hlen := inn_len st r z (T k)
    rw [T_len] at hlen
    have hmul : 2 * st * (z + 1) = 2 * st * z + 2 * st := Nat.mul_succ _ _
    by_cases hz2 : z < 2 ^ k
    · have hle : 2 * st * (z + 1) ≤ 2 * st * 2 ^ k := Nat.mul_le_mul_left _ hz2
      have hin : inn st r (z + 1) (T k) = (inn st r z (T k)).set (2 * st * z + st) ((inn st r z (T k))[2 * st * z]! ^^^ r) := rfl
      have hlt := get_lt (inn_lt (s := st) hR1 z _ (T_lt k)) (by decide) (2 * st * z)
      obtain ⟨i, hi⟩ : ∃ i, 2 * st * z = i := ⟨_, rfl⟩
      rw [hi] at hmul hin hlt
      rw [hi]
      have w1 : IntKind.wrap .i64 ((i : Int) + (st : Int)) = ((i + st : Nat) : Int) := by rw [show ((i : Int) + (st : Int)) = ((i + st : Nat) : Int) by omega]; exact IntWalk.i64_in _ (by omega)
      have w3 : IntKind.wrap .i64 ((i : Int) + ((2 * st : Nat) : Int)) = ((i + 2 * st : Nat) : Int) := by rw [show ((i : Int) + ((2 * st : Nat) : Int)) = ((i + 2 * st : Nat) : Int) by omega]; exact IntWalk.i64_in _ (by omega)
      have hxr := u32_xor_nat _ _ hlt hR1
      (repeat' (first | refine zss ?_ | ((first | (with_reducible first | apply At.val | apply AtQ.val)); (first | exact pr_add (by rfl) (by rfl) w1 | exact pr_add (by rfl) (by rfl) w3 | exact pr_mul (by rfl) (by rfl) w2 | exact pr_xor (by rfl) (by rfl) hxr | exact zprA); exact rfl) | refine zs0 ?_ | ((with_reducible apply At.storeArr (g := gq) (((inn st r z (T k))[i]! ^^^ r))); exact rfl; exact rfl; exact rfl; exact rfl; exact rfl; exact rfl; exact (by repeat constructor); (first | omega | (simp only [lns] <;> omega))) | ((with_reducible apply At.alloc (d := 0)); exact rfl; exact rfl; intro b0) | ((with_reducible apply At.alloc (d := 1)); exact rfl; exact rfl; intro b1) | (refine zsp ?_ ?_ <;> (intro hc; (try simp only [zhcs, reduceCtorEq] at hc); (try (exfalso; first | omega | contradiction | omega | exact absurd rfl hc | exact absurd (by decide) hc))))))
      rw [← hin, ← hmul]
      ((with_reducible refine At.reachk ((z + 1)) ?_ ?_ ?_ ?_); exact zsubs; exact zml; exact zente; exact ⟨hz2, by omega⟩)
    · have e8 : z = 2 ^ k := by omega
      subst e8
      rw [q3]
      (repeat' (first | refine zss ?_ | ((first | (with_reducible first | apply At.val | apply AtQ.val)); (exact zprA); exact rfl) | refine zs0 ?_ | ((with_reducible apply At.alloc (d := 0)); exact rfl; exact rfl; intro b0) | ((with_reducible apply At.alloc (d := 1)); exact rfl; exact rfl; intro b1) | (refine zsp ?_ ?_ <;> (intro hc; (try simp only [zhcs, reduceCtorEq] at hc); (try (exfalso; first | omega | contradiction | omega | exact absurd rfl hc | exact absurd (by decide) hc))))))
      rw [← hT]
      ((with_reducible refine At.reachk ((k + 1)) ?_ ?_ ?_ ?_); exact zsubs; exact zml; exact zente; exact ⟨h, by omega⟩)
  · have e8 : k = 8 := by omega
    subst e8
    have hl := T_len 8
    have hl0 := T_len 0
    (repeat' (first | refine zss ?_ | ((first | (with_reducible first | apply At.val | apply AtQ.val)); (exact zprA); exact rfl) | refine zs0 ?_ | ((with_reducible apply At.storeA); exact rfl; exact rfl; exact rfl; exact all_gq _; exact (by repeat constructor); (first | exact rfl | (first | omega | (simp only [lns] <;> omega))); (first | exact rfl | (first | omega | (simp only [lns] <;> omega)))) | ((with_reducible apply At.alloc (d := 0)); exact rfl; exact rfl; intro b0) | ((with_reducible apply At.alloc (d := 1)); exact rfl; exact rfl; intro b1) | (refine zsp ?_ ?_ <;> (intro hc; (try simp only [zhcs, reduceCtorEq] at hc); (try (exfalso; first | omega | contradiction | omega | exact absurd rfl hc | exact absurd (by decide) hc))))))
    all_goals ((with_reducible apply At.retV (B := [])); exact rfl; (repeat' (first | exact RVs.nil | (with_reducible apply RVs.cons) | exact rv_tmp (by rfl) | exact rv_cellN (by rfl) (by repeat constructor) (by rfl) (by rfl) (by rfl) | exact rv_cell1 (by rfl) (by repeat constructor) (by rfl) (by rfl) | exact rv_cellA (by rfl) (by repeat constructor) (by rfl) (by rfl) zlq)); exact zml; exact zkp; exact ⟨rfl, rfl, rfl⟩)
end Seal
end Go.Proofs.Ytjncahmbllmllaa
/- Check sums, as the program makes them: Sum, mark. -/
set_option linter.unusedSimpArgs false
set_option linter.unusedVariables false
set_option linter.unusedSectionVars false
set_option maxRecDepth 20000
set_option maxHeartbeats 4000000
namespace Go.Proofs.Ytjncahmbllmllaa
open Go Go.J
attribute [local irreducible] At AtQ AtM AtM1 PR Ct Pu Rd Res.blk Res.own Res.byt Res.ex RVs RV Cod.W
namespace Seal
theorem ix_xor (r : Nat) (c : UInt8) {y : Int} (hy : y = (c.toNat : Int)) : bits .xor .u8 ((r : Int) % 256) y = ((r % 256 ^^^ c.toNat : Nat) : Int) := by
  subst hy
  have := c.toNat_lt
  rw [show (r : Int) % 256 = ((r % 256 : Nat) : Int) by omega, u8_xor_nat _ _ (by omega) (by omega)]
theorem stp_xor {r : Nat} (hr : r < 4294967296) (c : UInt8) : bits .xor .u32 ((r : Int) / 256) ((tab[r % 256 ^^^ c.toNat]! : Nat) : Int) = ((stp r c : Nat) : Int) := by
  rw [show (r : Int) / 256 = ((r / 256 : Nat) : Int) by omega, u32_xor_nat _ _ (by omega) (tab_lt _)]
  rfl
theorem end_xor (l : List UInt8) : bits .xor .u32 ((l.foldl stp 4294967295 : Nat) : Int) 4294967295 = ((sum l : Nat) : Int) := by
  rw [show (4294967295 : Int) = ((4294967295 : Nat) : Int) from rfl, u32_xor_nat _ _ (fold_lt l (by decide)) (by decide)]
  rfl
theorem fold_snoc {l : List UInt8} {i r : Nat} (h : i < l.length) : (l.take (i + 1)).foldl stp r = stp ((l.take i).foldl stp r) (l[i]!) := by
  rw [Cod.take_snoc h, List.foldl_append]; rfl
set_option maxHeartbeats 1000000 in
theorem sumP (l : List UInt8) (hl : l.length ≤ 30000000000) : Pu Try.prog 53 #[.string (str l)] (.int .u32 ((sum l : Nat) : Int)) := Pu.of_le fun m => by
  have ht := tab_len
  refine Ct.enterV (by rfl) Try.func53 rfl Try.ntmps53 rfl (fun w0 Rest => ?_)
  (repeat' (first | refine zss ?_ | ((first | (with_reducible first | apply At.val | apply AtQ.val)); (exact zprA); exact rfl) | refine zs0 ?_ | ((with_reducible first | apply AtM1.callp | apply AtQ.callp | apply At.callp); kernel_rfl; exact rfl; exact rfl; exact table) | ((with_reducible apply At.storeA); exact rfl; exact rfl; exact rfl; exact all_gq _; exact (by repeat constructor); (first | exact rfl | (first | omega | (simp only [lns] <;> omega))); (first | exact rfl | (first | omega | (simp only [lns] <;> omega)))) | ((with_reducible apply At.str_bytes); (iterate 4 exact rfl); exact zom; exact rfl; intro p' c' m' hm' sl0; skip) | ((with_reducible apply At.alloc (d := 3)); exact rfl; exact rfl; intro b3) | (refine zsp ?_ ?_ <;> (intro hc; (try simp only [zhcs, reduceCtorEq] at hc); (try (exfalso; first | contradiction | omega | exact absurd rfl hc | exact absurd (by decide) hc))))))
  have hml : (l.map bI).length = l.length := by simp
  (refine At.loopk (σ := Nat) [3, 9, 10] (fun s F0 => (4, .int .u32 (((l.take s).foldl stp 4294967295 : Nat) : Int)) :: (11, .int .i64 (s : Int)) :: F0) (fun s => m') (fun s => .blk b3 92 (tab.map gq) :: Rest) (fun s => s ≤ l.length) (fun s => l.length - s) 0 (by rfl) ?_ zsubs zml zente ?_)
  · exact Nat.zero_le _
  intro s hs
  have hr := fold_lt (l.take s) (r := 4294967295) (by decide)
  by_cases h : s < l.length
  · have hx8 := fun r => ix_xor r (l[s]!) (Cod.map_get h)
    have hx := fun (r : Nat) (hr : r < 4294967296) => stp_xor hr (l[s]!)
    have hsn := fold_snoc (r := 4294967295) h
    have hlt := fun r => ix_lt r (l[s]!)
    obtain ⟨r, er⟩ : ∃ r, (l.take s).foldl stp 4294967295 = r := ⟨_, rfl⟩
    rw [er] at hr hsn
    rw [er]
    have hlt := hlt r
    have hx8 := hx8 r
    have hx := hx r hr
    (repeat' (first | refine zss ?_ | ((first | (with_reducible first | apply At.val | apply AtQ.val)); (first | exact pr_xor (by rfl) (by rfl) hx8 | exact pr_xor (by rfl) (by rfl) hx | exact zprA); exact rfl) | refine zsM ?_ | ((with_reducible apply At.alloc (d := 3)); exact rfl; exact rfl; intro b3) | (refine zsp ?_ ?_ <;> (intro hc; (try simp only [zhcs, reduceCtorEq] at hc); (try (exfalso; first | omega | contradiction | omega | exact absurd rfl hc | exact absurd (by decide) hc))))))
    rw [← hsn]
    ((with_reducible refine At.reachk ((s + 1)) ?_ ?_ ?_ ?_); exact zsubs; exact zml; exact zente; exact ⟨h, by omega⟩)
  · have hx := end_xor l
    rw [List.take_of_length_le (by omega)]
    (repeat' (first | refine zss ?_ | ((first | (with_reducible first | apply At.val | apply AtQ.val)); (first | exact pr_xor (by rfl) (by rfl) hx | exact zprA); exact rfl) | refine zsM ?_ | ((with_reducible apply At.alloc (d := 3)); exact rfl; exact rfl; intro b3) | (refine zsp ?_ ?_ <;> (intro hc; (try simp only [zhcs, reduceCtorEq] at hc); (try (exfalso; first | omega | contradiction | omega | exact absurd rfl hc | exact absurd (by decide) hc))))))
    all_goals ((with_reducible apply At.retB1 (B := [])); exact rfl; exact rfl; exact zml; exact zkp; exact ⟨rfl, hm', rfl⟩)
/-- a sum's bytes -/
def mk (n : Nat) : List UInt8 := (List.range 4).map fun j => UInt8.ofNat (n / 256 ^ j)
def mkL (n s : Nat) : List Int := (List.range 4).map fun j => if j < s then ((n / 256 ^ j % 256 : Nat) : Int) else 0
theorem mkL_len (n s : Nat) : (mkL n s).length = 4 := by simp [mkL]
theorem mkL_set (n : Nat) : ∀ s, s < 4 → (mkL n s).set s ((n / 256 ^ s % 256 : Nat) : Int) = mkL n (s + 1) := by
  intro s hs
  match s, hs with
  | 0, _ => rfl
  | 1, _ => rfl
  | 2, _ => rfl
  | 3, _ => rfl
theorem mkL_u8 (n : Nat) : (mkL n 4).map u8 = mk n := by
  have e : ∀ x : Nat, u8 ((x % 256 : Nat) : Int) = UInt8.ofNat x := fun x => by
    rw [← Cod.bI_mod]; exact u8_bI _
  unfold mkL mk
  rw [List.map_map]
  apply List.map_congr_left
  intro j hj
  have := List.mem_range.1 hj
  show u8 (if j < 4 then _ else _) = _
  rw [if_pos this, e]
theorem mark_conv {n s : Nat} : IntKind.wrap .u8 ((n : Int) / 2 ^ (8 * (s : Int)).toNat) = ((n / 256 ^ s % 256 : Nat) : Int) := by
  rw [show (8 * (s : Int)).toNat = 8 * s by omega, IntKind.wrap_u8, show (2 : Int) ^ (8 * s) = ((256 ^ s : Nat) : Int) by rw [Nat.pow_mul' 2 8 s |> fun _ => show (256 ^ s : Nat) = 2 ^ (8 * s) by rw [Nat.pow_mul]]; norm_cast]
  norm_cast
abbrev gb : Int → Value := fun x => .int .u8 x
set_option maxHeartbeats 1000000 in
theorem markP (l : List UInt8) (hl : l.length ≤ 30000000000) : Pu Try.prog 38 #[.string (str l)] (.string (str (mk (sum l)))) := Pu.of_le fun m => by
  have hs := sumP l hl
  have hn := sum_lt l
  obtain ⟨n, en⟩ : ∃ n, sum l = n := ⟨_, rfl⟩
  rw [en] at hs hn
  rw [en]
  refine Ct.enterV (by rfl) Try.func38 rfl Try.ntmps38 rfl (fun w0 Rest => ?_)
  (repeat' (first | refine zss ?_ | ((first | (with_reducible first | apply At.val | apply AtQ.val)); (exact zprA); exact rfl) | refine zs0 ?_ | ((with_reducible first | apply AtM1.callp | apply AtQ.callp | apply At.callp); kernel_rfl; exact rfl; exact rfl; exact hs) | ((with_reducible apply At.alloc (d := 4)); exact rfl; exact rfl; intro b4) | (refine zsp ?_ ?_ <;> (intro hc; (try simp only [zhcs, reduceCtorEq] at hc); (try (exfalso; first | contradiction | omega | exact absurd rfl hc | exact absurd (by decide) hc))))))
  (refine At.loopk (σ := Nat) [3, 4] (fun s F0 => (8, .int .i64 (s : Int)) :: F0) (fun s => m) (fun s => .blk b4 89 ((mkL n s).map gb) :: Rest) (fun s => s ≤ 4) (fun s => 4 - s) 0 (by rfl) ?_ zsubs zml zente ?_)
  · exact Nat.zero_le _
  intro s hs4
  have hlen := mkL_len n s
  by_cases h : s < 4
  · have hcv := mark_conv (n := n) (s := s)
    have hst := mkL_set n s h
    (repeat' (first | refine zss ?_ | ((first | (with_reducible first | apply At.val | apply AtQ.val)); (first | exact pr_conv ⟨_, rfl⟩ (by rfl) (by rfl) hcv | exact zprA); exact rfl) | refine zs0 ?_ | ((with_reducible apply At.storeArr (g := gb) (((n / 256 ^ s % 256 : Nat) : Int))); exact rfl; exact rfl; exact rfl; exact rfl; exact rfl; exact rfl; exact (by repeat constructor); (first | omega | (simp only [lns] <;> omega))) | ((with_reducible apply At.alloc (d := 4)); exact rfl; exact rfl; intro b4) | (refine zsp ?_ ?_ <;> (intro hc; (try simp only [zhcs, reduceCtorEq] at hc); (try (exfalso; first | omega | contradiction | omega | exact absurd rfl hc | exact absurd (by decide) hc))))))
    rw [hst]
    ((with_reducible refine At.reachk ((s + 1)) ?_ ?_ ?_ ?_); exact zsubs; exact zml; exact zente; exact ⟨h, by omega⟩)
  · have e4 : s = 4 := by omega
    subst e4
    have hu := mkL_u8 n
    (repeat' (first | refine zss ?_ | ((first | (with_reducible first | apply At.val | apply AtQ.val)); (first | exact pr_slice_arr (by rfl) (by rfl) (by rfl) | exact pr_bytes_str (by rfl) (by rfl) (by rfl) (by rfl) (blk_rdb (by repeat constructor) hlen) (by rfl) | exact zprA); exact rfl) | refine zs0 ?_ | ((with_reducible apply At.alloc (d := 4)); exact rfl; exact rfl; intro b4) | (refine zsp ?_ ?_ <;> (intro hc; (try simp only [zhcs, reduceCtorEq] at hc); (try (exfalso; first | omega | contradiction | omega | exact absurd rfl hc | exact absurd (by decide) hc))))))
    rw [hu]
    all_goals ((with_reducible apply At.retB1 (B := [])); exact rfl; exact rfl; exact zml; exact zkp; exact ⟨rfl, Mem.le_refl _, rfl⟩)
end Seal
end Go.Proofs.Ytjncahmbllmllaa
/- Frames, as the program makes and opens them. -/
set_option linter.unusedSimpArgs false
set_option linter.unusedVariables false
set_option linter.unusedSectionVars false
set_option maxRecDepth 20000
set_option maxHeartbeats 4000000
namespace Go.Proofs.Ytjncahmbllmllaa
open Go Go.J
attribute [local irreducible] At AtQ AtM AtM1 PR Ct Pu Rd Res.blk Res.own Res.byt Res.ex RVs RV Cod.W
namespace Seal
open Cod
theorem allocW {n : Nat} {w0 : World} {F : Fr} {m : Mem} {Rs : List Res} {Q : Exit → Go.Act → World → Prop} {ops : Array Oper} {rest : List Oper} {d : Nat} {ty : TypeId} {pos : String} {aft : Array Edge} (hd : Nat.blt d n = true)
    (h : ∀ b, At n w0 ((d, ptr b) :: F) m (W b [] :: Rs) (wpList Try.prog ops Q rest)) : At n w0 F m Rs (wpList Try.prog ops Q (⟨some d, .alloc 67, ty, pos, aft, none⟩ :: rest)) :=
  At.alloc (by rfl) hd (fun b => At.ent (own0 b Rs) (h b))
/-- a frame ahead of its sum -/
def head (k : Nat) (t : List UInt8) : List UInt8 := fixB 1 k ++ textB t
def frame (k : Nat) (t : List UInt8) : List UInt8 := head k t ++ mk (sum (head k t))
theorem head_len {k : Nat} {t : List UInt8} (h : t.length ≤ 4194304) : (head k t).length ≤ 5000000 := by
  have h1 := uintB_len10 (n := t.length) (by omega)
  have h2 := fix_len k 1 (by decide) (by decide)
  have h3 : ((1 : Nat) : Int) = 1 := rfl
  unfold head textB
  rw [List.length_append, List.length_append]
  rw [h3] at h2
  omega
theorem frameP (k : Nat) (t : List UInt8) (hk : k < 256) (ht : t.length ≤ 10000000000) :
    Pu Try.prog 17 #[.int .u8 (k : Int), .string (str t)] (if t.length ≤ 4194304 then .tuple #[.string (str (frame k t)), .int .i64 0] else .tuple #[.string (str []), .int .i64 6]) := Pu.of_le fun m => by
  by_cases h : t.length ≤ 4194304
  · rw [if_pos h]
    have hl := head_len (k := k) h
    have hm := markP (head k t) (by omega)
    have h1 := fun b => fixed (m := m) b k 1 [] (by omega) (by decide)
    have h2 := fun b => text (m := m) b (fixB 1 k) t (by rw [show (fixB 1 k).length = 1 from fix_len k 1 (by decide) (by decide)]; decide) (by omega)
    have h3 := fun (m : Mem) b => out (m := m) b (head k t)
    have hc : IntKind.wrap .u64 (k : Int) = (k : Int) := IntWalk.u64_in _ (by omega)
    simp only [List.nil_append] at h1
    rw [show frame k t = head k t ++ mk (sum (head k t)) from rfl]
    have hml : (mk (sum (head k t))).length = 4 := by simp [mk]
    obtain ⟨H, eH⟩ : ∃ H, fixB 1 k ++ textB t = H := ⟨_, rfl⟩
    rw [show head k t = H from eH] at hm h3 hml hl ⊢
    rw [eH] at h2
    refine Ct.enterV (by rfl) Try.func17 rfl Try.ntmps17 rfl (fun w0 Rest => ?_)
    (repeat' (first | refine zss ?_ | ((first | (with_reducible first | apply At.val | apply AtQ.val)); (exact pr_conv ⟨_, rfl⟩ (by rfl) (by rfl) hc); exact rfl) | refine zs0 ?_ | ((with_reducible apply Seal.allocW); exact rfl; intro bw) | ((with_reducible first | apply At.c1 | apply At.c0); exact rfl; exact rfl; exact h1 _; exact ztk; kernel_rfl; rintro v' m' B' hm' ⟨rfl, rfl, rfl⟩; skip; (try (have hq0 : hm' = Mem.le_refl _ := rfl; clear hq0 hm'))) | ((with_reducible first | apply At.c1 | apply At.c0); exact rfl; exact rfl; exact h2 _; exact ztk; kernel_rfl; rintro v' m' B' hm' ⟨rfl, rfl, rfl⟩; skip; (try (have hq0 : hm' = Mem.le_refl _ := rfl; clear hq0 hm'))) | ((with_reducible first | apply AtM1.cr | apply AtQ.cr | apply At.cr); exact rfl; exact rfl; exact fun _ hmm => h3 _ _; exact ztk; kernel_rfl) | ((with_reducible first | apply AtM1.callp | apply AtQ.callp | apply At.callp); kernel_rfl; exact rfl; exact rfl; exact hm) | ((with_reducible apply At.alloc (d := 6)); exact rfl; exact rfl; intro b6) | (refine zsp ?_ ?_ <;> (intro hc; (try simp only [zhcs, reduceCtorEq] at hc); (try (exfalso; first | omega | contradiction | omega | exact absurd rfl hc | exact absurd (by decide) hc))))))
    all_goals ((with_reducible apply At.retV (B := [])); exact rfl; (repeat' (first | exact RVs.nil | (with_reducible apply RVs.cons) | exact rv_tmp (by rfl) | exact rv_cellN (by rfl) (by repeat constructor) (by rfl) (by rfl) (by rfl) | exact rv_cell1 (by rfl) (by repeat constructor) (by rfl) (by rfl))); exact zml; exact zkp; exact ⟨rfl, Mem.le_refl _, rfl⟩)
  · rw [if_neg h]
    refine Ct.enterV (by rfl) Try.func17 rfl Try.ntmps17 rfl (fun w0 Rest => ?_)
    (repeat' (first | refine zss ?_ | refine zs0 ?_ | ((with_reducible apply At.alloc (d := 6)); exact rfl; exact rfl; intro b6) | (refine zsp ?_ ?_ <;> (intro hc; (try simp only [zhcs, reduceCtorEq] at hc); (try (exfalso; first | omega | contradiction | omega | exact absurd rfl hc | exact absurd (by decide) hc))))))
    all_goals ((with_reducible apply At.retV (B := [])); exact rfl; (repeat' (first | exact RVs.nil | (with_reducible apply RVs.cons) | exact rv_tmp (by rfl) | exact rv_cellN (by rfl) (by repeat constructor) (by rfl) (by rfl) (by rfl) | exact rv_cell1 (by rfl) (by repeat constructor) (by rfl) (by rfl))); exact zml; exact zkp; exact ⟨rfl, Mem.le_refl _, rfl⟩)
theorem lastP (c : UInt8) : Pu Try.prog 58 #[.int .u8 (bI c)] (.bool (decide (c.toNat < 128))) := Pu.intro fun m => by
  refine Ct.enterV (by rfl) Try.func58 rfl Try.ntmps58 rfl (fun w0 Rest => ?_)
  (repeat' (first | refine zss ?_ | refine zs0 ?_ | (refine zsp ?_ ?_ <;> (intro hc; (try simp only [zhcs, reduceCtorEq] at hc); (try (exfalso; first | contradiction | omega | exact absurd rfl hc | exact absurd (by decide) hc))))))
  all_goals ((with_reducible apply At.retB1 (B := [])); exact rfl; exact rfl; exact zml; exact zkp; exact ⟨congrArg Value.bool (by rw [decide_eq_decide]; unfold bI; omega), rfl, rfl⟩)
theorem indexP {m : Mem} (p : Option Addr) (c : Nat) (l : List UInt8) (hl : l.length ≤ 1000000) (sl0 : Sl m fb 1 p c (l.map bI)) :
    Ct Try.prog 55 #[.slice p (l.map bI).length c, .func (.func 58) #[] #[]] m [] (fun r m' B => m = m' ∧ B = [] ∧ ∃ k : Int, r = .int .i64 k ∧ (0 ≤ k ↔ ∃ i, i < l.length ∧ (l[i]!).toNat < 128)) := by
  have hml : (l.map bI).length = l.length := by simp
  refine Ct.enterV (by rfl) Try.func55 rfl Try.ntmps55 rfl (fun w0 Rest => ?_)
  (repeat' (first | refine zss ?_ | refine zsM ?_ | (refine zsp ?_ ?_ <;> (intro hc; (try simp only [zhcs, reduceCtorEq] at hc); (try (exfalso; first | contradiction | omega | exact absurd rfl hc | exact absurd (by decide) hc))))))
  (refine At.loopk (σ := Nat) [0, 1, 7] (fun s F0 => (8, .int .i64 (s : Int)) :: F0) (fun s => m) (fun s => Rest) (fun s => s ≤ l.length ∧ ∀ i, i < s → ¬ (l[i]!).toNat < 128) (fun s => l.length - s) 0 (by rfl) ?_ zsubs zml zente ?_)
  · exact ⟨Nat.zero_le _, fun i h => absurd h (Nat.not_lt_zero i)⟩
  rintro s ⟨hs, hn⟩
  by_cases h : s < l.length
  · have hg : (l.map bI)[s]! = bI (l[s]!) := map_get h
    have hlp := lastP (l[s]!)
    rw [← hg] at hlp
    by_cases e : (l[s]!).toNat < 128
    · rw [decide_eq_true e] at hlp
      (repeat' (first | refine zss ?_ | refine zsM ?_ | ((with_reducible apply At.callf); exact rfl; kernel_rfl; exact rfl; exact rfl; exact Pu.ct hlp _; exact ztk; rintro v' m' B' hm' ⟨rfl, rfl, rfl⟩; (try replace sl0 := sl0.mono hm')) | (refine zsp ?_ ?_ <;> (intro hc; (try simp only [zhcs, reduceCtorEq] at hc); (try (exfalso; first | omega | contradiction | omega | exact absurd rfl hc | exact absurd (by decide) hc))))))
      all_goals ((with_reducible apply At.retB1 (B := [])); exact rfl; exact rfl; exact zml; exact zkp; exact ⟨rfl, rfl, _, rfl, ⟨fun _ => ⟨s, h, e⟩, fun _ => by omega⟩⟩)
    · rw [decide_eq_false e] at hlp
      have hnn : ∀ i, i < s + 1 → ¬ (l[i]!).toNat < 128 := fun i hi => by
        by_cases e1 : i = s
        · subst e1; exact e
        · exact hn i (by omega)
      (repeat' (first | refine zss ?_ | refine zsM ?_ | ((with_reducible apply At.callf); exact rfl; kernel_rfl; exact rfl; exact rfl; exact Pu.ct hlp _; exact ztk; rintro v' m' B' hm' ⟨rfl, rfl, rfl⟩; (try replace sl0 := sl0.mono hm')) | (refine zsp ?_ ?_ <;> (intro hc; (try simp only [zhcs, reduceCtorEq] at hc); (try (exfalso; first | omega | contradiction | omega | exact absurd rfl hc | exact absurd (by decide) hc))))))
      all_goals ((with_reducible refine At.reachk ((s + 1)) ?_ ?_ ?_ ?_); exact zsubs; exact zml; exact zente; exact ⟨⟨h, hnn⟩, by omega⟩)
  · (repeat' (first | refine zss ?_ | refine zsM ?_ | (refine zsp ?_ ?_ <;> (intro hc; (try simp only [zhcs, reduceCtorEq] at hc); (try (exfalso; first | omega | contradiction | omega | exact absurd rfl hc | exact absurd (by decide) hc))))))
    all_goals ((with_reducible apply At.retB1 (B := [])); exact rfl; exact rfl; exact zml; exact zkp; exact ⟨rfl, rfl, _, rfl, ⟨fun hh => absurd hh (by decide), fun ⟨i, h1, h2⟩ => absurd h2 (hn i (by omega))⟩⟩)
def few (l : List UInt8) : Prop := ∃ i, i < l.length ∧ (l[i]!).toNat < 128
instance (l : List UInt8) : Decidable (few l) := by unfold few; infer_instance
theorem containsP {m : Mem} (p : Option Addr) (c : Nat) (l : List UInt8) (hl : l.length ≤ 1000000) (sl0 : Sl m fb 1 p c (l.map bI)) :
    Rd Try.prog 41 #[.slice p (l.map bI).length c, .func (.func 58) #[] #[]] m [] (.bool (decide (few l))) := by
  unfold Rd
  refine Ct.enterV (by rfl) Try.func41 rfl Try.ntmps41 rfl (fun w0 Rest => ?_)
  (repeat' (first | refine zss ?_ | refine zsM ?_ | ((with_reducible first | apply At.c1 | apply At.c0); exact rfl; exact rfl; exact indexP p c l hl sl0; exact ztk; kernel_rfl; rintro v' m' B' hm' ⟨rfl, rfl, k, rfl, hk⟩; (try replace sl0 := sl0.mono hm'); (try (have hq0 : hm' = Mem.le_refl _ := rfl; clear hq0 hm'))) | (refine zsp ?_ ?_ <;> (intro hc; (try simp only [zhcs, reduceCtorEq] at hc); (try (exfalso; first | contradiction | omega | exact absurd rfl hc | exact absurd (by decide) hc))))))
  all_goals ((with_reducible apply At.retB1 (B := [])); exact rfl; exact rfl; exact zml; exact zkp; exact ⟨congrArg Value.bool (by rw [decide_eq_decide]; exact hk), rfl, rfl⟩)
/-- the length with which bytes begin -/
def lenV (l : List UInt8) : Int × Int × Int := match Cod.dec 0 l with
  | some (n, r) => if 4194304 < n then (0, 0, 4) else ((n : Int), (l.length : Int) - r.length, 0)
  | none => if l.length < 10 ∧ ¬ few l then (0, 0, 5) else (0, 0, 4)
theorem rU_some {l r : List UInt8} {n : Nat} (h : Cod.dec 0 l = some (n, r)) : rU (l, false) = (n, (r, false)) := by unfold rU; rw [h]
theorem rU_none {l : List UInt8} (h : Cod.dec 0 l = none) : rU (l, false) = (0, ([], true)) := by unfold rU; rw [h]
theorem lengthP (l : List UInt8) (hl : l.length ≤ 10000000000) : Pu Try.prog 49 #[.string (str l)] (.tuple #[.int .i64 (lenV l).1, .int .i64 (lenV l).2.1, .int .i64 (lenV l).2.2]) := Pu.of_le fun m => by
  have ho := open_ (m := m) l
  have hu := fun b => ruintP (m := m) b (l, false) (by show l.length ≤ _; omega)
  rcases hd : Cod.dec 0 l with _ | ⟨n, r⟩
  · rw [rU_none hd] at hu
    have hb := fun (m : Mem) b => bad (m := m) b ([], true)
    by_cases h10 : l.length < 10
    · by_cases hf : few l
      · rw [show lenV l = (0, 0, 4) by unfold lenV; rw [hd]; exact if_neg (fun h => h.2 hf)]
        refine Ct.enterV (by rfl) Try.func49 rfl Try.ntmps49 rfl (fun w0 Rest => ?_)
        (repeat' (first | refine zss ?_ | refine zsM ?_ | ((with_reducible apply At.str_bytes); (iterate 4 exact rfl); exact zom; exact rfl; intro p' c' m' hm' sl0; skip) | ((with_reducible first | apply At.c1 | apply At.c0); exact rfl; exact rfl; exact ho; exact ztk; kernel_rfl; rintro v' m' B' hm' ⟨rfl, b, rfl, rfl⟩; (try replace sl0 := sl0.mono hm'); (try (have hq0 : hm' = Mem.le_refl _ := rfl; clear hq0 hm'))) | ((with_reducible first | apply At.c1 | apply At.c0); exact rfl; exact rfl; exact hu _; exact ztk; kernel_rfl; rintro v' m' B' hm' ⟨rfl, rfl, rfl⟩; (try replace sl0 := sl0.mono hm'); (try (have hq0 : hm' = Mem.le_refl _ := rfl; clear hq0 hm'))) | ((with_reducible first | apply AtM1.cr | apply AtQ.cr | apply At.cr); exact rfl; exact rfl; exact fun _ hmm => hb _ _; exact ztk; kernel_rfl) | ((with_reducible first | apply AtM1.cr | apply AtQ.cr | apply At.cr); exact rfl; exact rfl; exact fun _ hmm => decide_eq_true hf ▸ containsP _ _ l (by omega) (sl0.mono hmm); exact ztk; kernel_rfl) | (refine zsp ?_ ?_ <;> (intro hc; (try simp only [zhcs, reduceCtorEq] at hc); (try (exfalso; first | omega | contradiction | omega | exact absurd rfl hc | exact absurd (by decide) hc))))))
        all_goals ((with_reducible apply At.retV (B := [])); exact rfl; (repeat' (first | exact RVs.nil | (with_reducible apply RVs.cons) | exact rv_tmp (by rfl) | exact rv_cellN (by rfl) (by repeat constructor) (by rfl) (by rfl) (by rfl) | exact rv_cell1 (by rfl) (by repeat constructor) (by rfl) (by rfl))); exact zml; exact zkp; exact ⟨rfl, by assumption, rfl⟩)
      · rw [show lenV l = (0, 0, 5) by unfold lenV; rw [hd]; exact if_pos ⟨h10, hf⟩]
        refine Ct.enterV (by rfl) Try.func49 rfl Try.ntmps49 rfl (fun w0 Rest => ?_)
        (repeat' (first | refine zss ?_ | refine zsM ?_ | ((with_reducible apply At.str_bytes); (iterate 4 exact rfl); exact zom; exact rfl; intro p' c' m' hm' sl0; skip) | ((with_reducible first | apply At.c1 | apply At.c0); exact rfl; exact rfl; exact ho; exact ztk; kernel_rfl; rintro v' m' B' hm' ⟨rfl, b, rfl, rfl⟩; (try replace sl0 := sl0.mono hm'); (try (have hq0 : hm' = Mem.le_refl _ := rfl; clear hq0 hm'))) | ((with_reducible first | apply At.c1 | apply At.c0); exact rfl; exact rfl; exact hu _; exact ztk; kernel_rfl; rintro v' m' B' hm' ⟨rfl, rfl, rfl⟩; (try replace sl0 := sl0.mono hm'); (try (have hq0 : hm' = Mem.le_refl _ := rfl; clear hq0 hm'))) | ((with_reducible first | apply AtM1.cr | apply AtQ.cr | apply At.cr); exact rfl; exact rfl; exact fun _ hmm => hb _ _; exact ztk; kernel_rfl) | ((with_reducible first | apply AtM1.cr | apply AtQ.cr | apply At.cr); exact rfl; exact rfl; exact fun _ hmm => decide_eq_false hf ▸ containsP _ _ l (by omega) (sl0.mono hmm); exact ztk; kernel_rfl) | (refine zsp ?_ ?_ <;> (intro hc; (try simp only [zhcs, reduceCtorEq] at hc); (try (exfalso; first | omega | contradiction | omega | exact absurd rfl hc | exact absurd (by decide) hc))))))
        all_goals ((with_reducible apply At.retV (B := [])); exact rfl; (repeat' (first | exact RVs.nil | (with_reducible apply RVs.cons) | exact rv_tmp (by rfl) | exact rv_cellN (by rfl) (by repeat constructor) (by rfl) (by rfl) (by rfl) | exact rv_cell1 (by rfl) (by repeat constructor) (by rfl) (by rfl))); exact zml; exact zkp; exact ⟨rfl, by assumption, rfl⟩)
    · rw [show lenV l = (0, 0, 4) by unfold lenV; rw [hd]; exact if_neg (fun h => h10 h.1)]
      refine Ct.enterV (by rfl) Try.func49 rfl Try.ntmps49 rfl (fun w0 Rest => ?_)
      (repeat' (first | refine zss ?_ | refine zsM ?_ | ((with_reducible first | apply At.c1 | apply At.c0); exact rfl; exact rfl; exact ho; exact ztk; kernel_rfl; rintro v' m' B' hm' ⟨rfl, b, rfl, rfl⟩; (try replace sl0 := sl0.mono hm'); (try (have hq0 : hm' = Mem.le_refl _ := rfl; clear hq0 hm'))) | ((with_reducible first | apply At.c1 | apply At.c0); exact rfl; exact rfl; exact hu _; exact ztk; kernel_rfl; rintro v' m' B' hm' ⟨rfl, rfl, rfl⟩; (try replace sl0 := sl0.mono hm'); (try (have hq0 : hm' = Mem.le_refl _ := rfl; clear hq0 hm'))) | ((with_reducible first | apply AtM1.cr | apply AtQ.cr | apply At.cr); exact rfl; exact rfl; exact fun _ hmm => hb _ _; exact ztk; kernel_rfl) | (refine zsp ?_ ?_ <;> (intro hc; (try simp only [zhcs, reduceCtorEq] at hc); (try (exfalso; first | omega | contradiction | omega | exact absurd rfl hc | exact absurd (by decide) hc))))))
      all_goals ((with_reducible apply At.retV (B := [])); exact rfl; (repeat' (first | exact RVs.nil | (with_reducible apply RVs.cons) | exact rv_tmp (by rfl) | exact rv_cellN (by rfl) (by repeat constructor) (by rfl) (by rfl) (by rfl) | exact rv_cell1 (by rfl) (by repeat constructor) (by rfl) (by rfl))); exact zml; exact zkp; exact ⟨rfl, Mem.le_refl _, rfl⟩)
  · rw [rU_some hd] at hu
    have hb := fun (m : Mem) b => bad (m := m) b (r, false)
    have hlf := fun (m : Mem) b => left (m := m) b (r, false)
    have hlen : l.length = (uintB n).length + r.length := by rw [(dec_spec l 0 n r hd).1]; exact List.length_append
    have hn : n < 18446744073709551616 := (dec_spec l 0 n r hd).2.1
    by_cases hbig : 4194304 < n
    · rw [show lenV l = (0, 0, 4) by unfold lenV; rw [hd]; exact if_pos hbig]
      refine Ct.enterV (by rfl) Try.func49 rfl Try.ntmps49 rfl (fun w0 Rest => ?_)
      (repeat' (first | refine zss ?_ | refine zsM ?_ | ((with_reducible first | apply At.c1 | apply At.c0); exact rfl; exact rfl; exact ho; exact ztk; kernel_rfl; rintro v' m' B' hm' ⟨rfl, b, rfl, rfl⟩; (try replace sl0 := sl0.mono hm'); (try (have hq0 : hm' = Mem.le_refl _ := rfl; clear hq0 hm'))) | ((with_reducible first | apply At.c1 | apply At.c0); exact rfl; exact rfl; exact hu _; exact ztk; kernel_rfl; rintro v' m' B' hm' ⟨rfl, rfl, rfl⟩; (try replace sl0 := sl0.mono hm'); (try (have hq0 : hm' = Mem.le_refl _ := rfl; clear hq0 hm'))) | ((with_reducible first | apply AtM1.cr | apply AtQ.cr | apply At.cr); exact rfl; exact rfl; exact fun _ hmm => hb _ _; exact ztk; kernel_rfl) | (refine zsp ?_ ?_ <;> (intro hc; (try simp only [zhcs, reduceCtorEq] at hc); (try (exfalso; first | omega | contradiction | omega | exact absurd rfl hc | exact absurd (by decide) hc))))))
      all_goals ((with_reducible apply At.retV (B := [])); exact rfl; (repeat' (first | exact RVs.nil | (with_reducible apply RVs.cons) | exact rv_tmp (by rfl) | exact rv_cellN (by rfl) (by repeat constructor) (by rfl) (by rfl) (by rfl) | exact rv_cell1 (by rfl) (by repeat constructor) (by rfl) (by rfl))); exact zml; exact zkp; exact ⟨rfl, Mem.le_refl _, rfl⟩)
    · rw [show lenV l = ((n : Int), (l.length : Int) - r.length, 0) by unfold lenV; rw [hd]; exact if_neg hbig]
      have hc : IntKind.wrap .i64 (n : Int) = (n : Int) := IntWalk.i64_in _ (by omega)
      have hsub : IntKind.wrap .i64 ((l.length : Int) - (r.length : Int)) = (l.length : Int) - (r.length : Int) := IntWalk.i64_in _ (by omega)
      refine Ct.enterV (by rfl) Try.func49 rfl Try.ntmps49 rfl (fun w0 Rest => ?_)
      (repeat' (first | refine zss ?_ | ((first | (with_reducible first | apply At.val | apply AtQ.val)); (first | exact pr_conv ⟨_, rfl⟩ (by rfl) (by rfl) hc | exact pr_sub (by rfl) (by rfl) hsub); exact rfl) | refine zsM ?_ | ((with_reducible first | apply At.c1 | apply At.c0); exact rfl; exact rfl; exact ho; exact ztk; kernel_rfl; rintro v' m' B' hm' ⟨rfl, b, rfl, rfl⟩; (try replace sl0 := sl0.mono hm'); (try (have hq0 : hm' = Mem.le_refl _ := rfl; clear hq0 hm'))) | ((with_reducible first | apply At.c1 | apply At.c0); exact rfl; exact rfl; exact hu _; exact ztk; kernel_rfl; rintro v' m' B' hm' ⟨rfl, rfl, rfl⟩; (try replace sl0 := sl0.mono hm'); (try (have hq0 : hm' = Mem.le_refl _ := rfl; clear hq0 hm'))) | ((with_reducible first | apply AtM1.cr | apply AtQ.cr | apply At.cr); exact rfl; exact rfl; exact fun _ hmm => hb _ _; exact ztk; kernel_rfl) | ((with_reducible first | apply AtM1.cr | apply AtQ.cr | apply At.cr); exact rfl; exact rfl; exact fun _ hmm => hlf _ _; exact ztk; kernel_rfl) | (refine zsp ?_ ?_ <;> (intro hc; (try simp only [zhcs, reduceCtorEq] at hc); (try (exfalso; first | omega | contradiction | omega | exact absurd rfl hc | exact absurd (by decide) hc))))))
      all_goals ((with_reducible apply At.retV (B := [])); exact rfl; (repeat' (first | exact RVs.nil | (with_reducible apply RVs.cons) | exact rv_tmp (by rfl) | exact rv_cellN (by rfl) (by repeat constructor) (by rfl) (by rfl) (by rfl) | exact rv_cell1 (by rfl) (by repeat constructor) (by rfl) (by rfl))); exact zml; exact zkp; exact ⟨rfl, Mem.le_refl _, rfl⟩)
end Seal
end Go.Proofs.Ytjncahmbllmllaa
/- Frames, as the program opens them. -/
set_option linter.unusedSimpArgs false
set_option linter.unusedVariables false
set_option linter.unusedSectionVars false
set_option maxRecDepth 20000
set_option maxHeartbeats 4000000
namespace Go.Proofs.Ytjncahmbllmllaa
open Go Go.J
attribute [local irreducible] At AtQ AtM AtM1 PR Ct Pu Rd Res.blk Res.own Res.byt Res.ex RVs RV Cod.W
namespace Seal
open Cod
/-- what a frame's bytes tell: the kind, the load, what is behind, or why they are none -/
structure Fr where
  (k : UInt8) (t : List UInt8) (b : List UInt8) (w : Int)
  deriving DecidableEq
/-- by the length's number, its bytes, and its error -/
def opnV (s : List UInt8) (n h w : Int) : Fr :=
  if w ≠ 0 then ⟨0, [], [], w⟩
  else if (s.length : Int) - (1 + h + n) < 4 then ⟨0, [], [], 5⟩
  else if mk (sum (s.take (1 + h + n).toNat)) ≠ (s.take (1 + h + n + 4).toNat).drop (1 + h + n).toNat then ⟨0, [], [], 4⟩
  else ⟨s[0]!, (s.take (1 + h + n).toNat).drop (1 + h).toNat, s.drop (1 + h + n + 4).toNat, 0⟩
def opn (s : List UInt8) : Fr := if s = [] then ⟨0, [], [], 5⟩ else opnV s (lenV (s.drop 1)).1 (lenV (s.drop 1)).2.1 (lenV (s.drop 1)).2.2
theorem lenV_bd (l : List UInt8) : 0 ≤ (lenV l).1 ∧ (lenV l).1 ≤ 4194304 ∧ 0 ≤ (lenV l).2.1 ∧ (lenV l).2.1 ≤ l.length ∧ ((lenV l).2.2 = 0 ∨ (lenV l).2.2 = 4 ∨ (lenV l).2.2 = 5) := by
  rcases hd : Cod.dec 0 l with _ | ⟨n, r⟩
  · by_cases h : l.length < 10 ∧ ¬ few l
    · rw [show lenV l = (0, 0, 5) by unfold lenV; rw [hd]; exact if_pos h]
      exact ⟨Int.le_refl _, by decide, Int.le_refl _, by show (0 : Int) ≤ l.length; omega, .inr (.inr rfl)⟩
    · rw [show lenV l = (0, 0, 4) by unfold lenV; rw [hd]; exact if_neg h]
      exact ⟨Int.le_refl _, by decide, Int.le_refl _, by show (0 : Int) ≤ l.length; omega, .inr (.inl rfl)⟩
  · have hlen : l.length = (uintB n).length + r.length := by rw [(dec_spec l 0 n r hd).1]; exact List.length_append
    by_cases h : 4194304 < n
    · rw [show lenV l = (0, 0, 4) by unfold lenV; rw [hd]; exact if_pos h]
      exact ⟨Int.le_refl _, by decide, Int.le_refl _, by show (0 : Int) ≤ l.length; omega, .inr (.inl rfl)⟩
    · rw [show lenV l = ((n : Int), (l.length : Int) - r.length, 0) by unfold lenV; rw [hd]; exact if_neg h]
      exact ⟨by show (0 : Int) ≤ n; omega, by show (n : Int) ≤ 4194304; omega, by show (0 : Int) ≤ (l.length : Int) - r.length; omega, by show (l.length : Int) - r.length ≤ l.length; omega, .inl rfl⟩
theorem mk_len (n : Nat) : (mk n).length = 4 := by simp [mk]
theorem openP (s : List UInt8) (hl : s.length ≤ 1000000000) : Pu Try.prog 28 #[.string (str s)] (.tuple #[.int .u8 (bI (opn s).k), .string (str (opn s).t), .string (str (opn s).b), .int .i64 (opn s).w]) := Pu.of_le fun m => by
  by_cases hne : s = []
  · subst hne
    refine Ct.enterV (by rfl) Try.func28 rfl Try.ntmps28 rfl (fun w0 Rest => ?_)
    (repeat' (first | refine zss ?_ | refine zs0 ?_ | (refine zsp ?_ ?_ <;> (intro hc; (try simp only [zhcs, reduceCtorEq] at hc); (try (exfalso; first | omega | contradiction | omega | exact absurd rfl hc | exact absurd (by decide) hc))))))
    all_goals ((with_reducible apply At.retV (B := [])); exact rfl; (repeat' (first | exact RVs.nil | (with_reducible apply RVs.cons) | exact rv_tmp (by rfl) | exact rv_cellN (by rfl) (by repeat constructor) (by rfl) (by rfl) (by rfl) | exact rv_cell1 (by rfl) (by repeat constructor) (by rfl) (by rfl))); exact zml; exact zkp; exact ⟨rfl, Mem.le_refl _, rfl⟩)
  · have hpos : 0 < s.length := List.length_pos_iff.2 hne
    have hdl : (s.drop 1).length = s.length - 1 := List.length_drop
    have hk := lengthP (s.drop 1) (by omega)
    obtain ⟨b1, b2, b3, b4, b5⟩ := lenV_bd (s.drop 1)
    have eo : opn s = opnV s (lenV (s.drop 1)).1 (lenV (s.drop 1)).2.1 (lenV (s.drop 1)).2.2 := if_neg hne
    rcases hv : lenV (s.drop 1) with ⟨n, h, w⟩
    rw [hv] at hk b1 b2 b3 b4 b5 eo
    dsimp only at hk b1 b2 b3 b4 b5 eo
    rw [eo]
    unfold opnV
    by_cases hw : w = 0
    · subst hw
      rw [if_neg (fun hh => hh rfl)]
      by_cases h4 : (s.length : Int) - (1 + h + n) < 4
      · rw [if_pos h4]
        refine Ct.enterV (by rfl) Try.func28 rfl Try.ntmps28 rfl (fun w0 Rest => ?_)
        (repeat' (first | refine zss ?_ | refine zs0 ?_ | ((with_reducible first | apply AtM1.callp | apply AtQ.callp | apply At.callp); kernel_rfl; exact rfl; exact rfl; exact hk) | (refine zsp ?_ ?_ <;> (intro hc; (try simp only [zhcs, reduceCtorEq] at hc); (try (exfalso; first | (first | omega | exact absurd hc hne) | contradiction | omega | exact absurd rfl hc | exact absurd (by decide) hc))))))
        all_goals ((with_reducible apply At.retV (B := [])); exact rfl; (repeat' (first | exact RVs.nil | (with_reducible apply RVs.cons) | exact rv_tmp (by rfl) | exact rv_cellN (by rfl) (by repeat constructor) (by rfl) (by rfl) (by rfl) | exact rv_cell1 (by rfl) (by repeat constructor) (by rfl) (by rfl))); exact zml; exact zkp; exact ⟨rfl, Mem.le_refl _, rfl⟩)
      · rw [if_neg h4]
        have hm := markP (s.take (1 + h + n).toNat) (by rw [List.length_take]; omega)
        by_cases he : mk (sum (s.take (1 + h + n).toNat)) = (s.take (1 + h + n + 4).toNat).drop (1 + h + n).toNat
        · rw [if_neg (fun hh => hh he)]
          refine Ct.enterV (by rfl) Try.func28 rfl Try.ntmps28 rfl (fun w0 Rest => ?_)
          (repeat' (first | refine zss ?_ | refine zs0 ?_ | ((with_reducible first | apply AtM1.callp | apply AtQ.callp | apply At.callp); kernel_rfl; exact rfl; exact rfl; exact hk) | ((with_reducible first | apply AtM1.callp | apply AtQ.callp | apply At.callp); kernel_rfl; exact rfl; exact rfl; exact hm) | (refine zsp ?_ ?_ <;> (intro hc; (try simp only [zhcs, reduceCtorEq] at hc); (try (exfalso; first | (first | omega | exact absurd hc hne | exact absurd he hc) | contradiction | omega | exact absurd rfl hc | exact absurd (by decide) hc))))))
          all_goals ((with_reducible apply At.retV (B := [])); exact rfl; (repeat' (first | exact RVs.nil | (with_reducible apply RVs.cons) | exact rv_tmp (by rfl) | exact rv_cellN (by rfl) (by repeat constructor) (by rfl) (by rfl) (by rfl) | exact rv_cell1 (by rfl) (by repeat constructor) (by rfl) (by rfl))); exact zml; exact zkp; exact ⟨rfl, Mem.le_refl _, rfl⟩)
        · rw [if_pos he]
          refine Ct.enterV (by rfl) Try.func28 rfl Try.ntmps28 rfl (fun w0 Rest => ?_)
          (repeat' (first | refine zss ?_ | refine zs0 ?_ | ((with_reducible first | apply AtM1.callp | apply AtQ.callp | apply At.callp); kernel_rfl; exact rfl; exact rfl; exact hk) | ((with_reducible first | apply AtM1.callp | apply AtQ.callp | apply At.callp); kernel_rfl; exact rfl; exact rfl; exact hm) | (refine zsp ?_ ?_ <;> (intro hc; (try simp only [zhcs, reduceCtorEq] at hc); (try (exfalso; first | (first | omega | exact absurd hc hne | exact absurd hc he) | contradiction | omega | exact absurd rfl hc | exact absurd (by decide) hc))))))
          all_goals ((with_reducible apply At.retV (B := [])); exact rfl; (repeat' (first | exact RVs.nil | (with_reducible apply RVs.cons) | exact rv_tmp (by rfl) | exact rv_cellN (by rfl) (by repeat constructor) (by rfl) (by rfl) (by rfl) | exact rv_cell1 (by rfl) (by repeat constructor) (by rfl) (by rfl))); exact zml; exact zkp; exact ⟨rfl, Mem.le_refl _, rfl⟩)
    · rw [if_pos hw]
      refine Ct.enterV (by rfl) Try.func28 rfl Try.ntmps28 rfl (fun w0 Rest => ?_)
      (repeat' (first | refine zss ?_ | refine zs0 ?_ | ((with_reducible first | apply AtM1.callp | apply AtQ.callp | apply At.callp); kernel_rfl; exact rfl; exact rfl; exact hk) | (refine zsp ?_ ?_ <;> (intro hc; (try simp only [zhcs, reduceCtorEq] at hc); (try (exfalso; first | (first | omega | exact absurd hc hne | exact absurd hc hw) | contradiction | omega | exact absurd rfl hc | exact absurd (by decide) hc))))))
      all_goals ((with_reducible apply At.retV (B := [])); exact rfl; (repeat' (first | exact RVs.nil | (with_reducible apply RVs.cons) | exact rv_tmp (by rfl) | exact rv_cellN (by rfl) (by repeat constructor) (by rfl) (by rfl) (by rfl) | exact rv_cell1 (by rfl) (by repeat constructor) (by rfl) (by rfl))); exact zml; exact zkp; exact ⟨rfl, Mem.le_refl _, rfl⟩)
def onl (k : Nat) (s : List UInt8) : List UInt8 × Int := if (opn s).w = 0 ∧ (opn s).k.toNat = k ∧ (opn s).b = [] then ((opn s).t, 0) else ([], 4)
theorem onlyP (k : Nat) (s : List UInt8) (hk : k < 256) (hl : s.length ≤ 1000000000) : Pu Try.prog 14 #[.int .u8 (k : Int), .string (str s)] (.tuple #[.string (str (onl k s).1), .int .i64 (onl k s).2]) := Pu.of_le fun m => by
  have ho := openP s hl
  unfold onl
  obtain ⟨f, ef⟩ : ∃ f, opn s = f := ⟨_, rfl⟩
  rw [ef] at ho ⊢
  have hb : bI f.k = (f.k.toNat : Int) := rfl
  by_cases h : f.w = 0 ∧ f.k.toNat = k ∧ f.b = []
  · rw [if_pos h]
    obtain ⟨h1, h2, h3⟩ := h
    refine Ct.enterV (by rfl) Try.func14 rfl Try.ntmps14 rfl (fun w0 Rest => ?_)
    (repeat' (first | refine zss ?_ | refine zs0 ?_ | ((with_reducible first | apply AtM1.callp | apply AtQ.callp | apply At.callp); kernel_rfl; exact rfl; exact rfl; exact ho) | (refine zsp ?_ ?_ <;> (intro hc; (try simp only [zhcs, reduceCtorEq] at hc); (try (exfalso; first | (first | omega | exact absurd h3 hc) | contradiction | omega | exact absurd rfl hc | exact absurd (by decide) hc))))))
    all_goals ((with_reducible apply At.retV (B := [])); exact rfl; (repeat' (first | exact RVs.nil | (with_reducible apply RVs.cons) | exact rv_tmp (by rfl) | exact rv_cellN (by rfl) (by repeat constructor) (by rfl) (by rfl) (by rfl) | exact rv_cell1 (by rfl) (by repeat constructor) (by rfl) (by rfl))); exact zml; exact zkp; exact ⟨rfl, Mem.le_refl _, rfl⟩)
  · rw [if_neg h]
    refine Ct.enterV (by rfl) Try.func14 rfl Try.ntmps14 rfl (fun w0 Rest => ?_)
    (repeat' (first | refine zss ?_ | refine zs0 ?_ | ((with_reducible first | apply AtM1.callp | apply AtQ.callp | apply At.callp); kernel_rfl; exact rfl; exact rfl; exact ho) | (refine zsp ?_ ?_ <;> (intro hc; (try simp only [zhcs, reduceCtorEq] at hc); (try (exfalso; first | (first | omega | exact h ⟨by omega, by omega, by assumption⟩) | contradiction | omega | exact absurd rfl hc | exact absurd (by decide) hc))))))
    all_goals ((with_reducible apply At.retV (B := [])); exact rfl; (repeat' (first | exact RVs.nil | (with_reducible apply RVs.cons) | exact rv_tmp (by rfl) | exact rv_cellN (by rfl) (by repeat constructor) (by rfl) (by rfl) (by rfl) | exact rv_cell1 (by rfl) (by repeat constructor) (by rfl) (by rfl))); exact zml; exact zkp; exact ⟨rfl, Mem.le_refl _, rfl⟩)
end Seal
end Go.Proofs.Ytjncahmbllmllaa
/- TopWritten: the plain law, and as it is walked. What is framed is opened. -/
set_option linter.unusedSimpArgs false
set_option linter.unusedVariables false
set_option linter.unusedSectionVars false
set_option maxRecDepth 20000
set_option maxHeartbeats 4000000
namespace Go.Proofs.Ytjncahmbllmllaa
open Go Go.J
attribute [local irreducible] At AtQ AtM AtM1 PR Ct Pu Rd Res.blk Res.own Res.byt Res.ex RVs RV Cod.W
namespace Top2
open Cod Seal
theorem fix1 (k : Nat) : fixB 1 k = [UInt8.ofNat k] := by
  unfold fixB
  rw [if_pos (by decide)]
  show [UInt8.ofNat (k / 256 ^ (1 - 1 - 0))] = _
  simp
theorem unzig_zig {x : Int} : unzig (zig x) = x := by unfold unzig zig; split <;> split <;> omega
theorem rU_back {n : Nat} (h : n < 18446744073709551616) (r : List UInt8) : rU (uintB n ++ r, false) = (n, (r, false)) := by unfold rU; rw [dec_uint h r]
theorem rI_back {x : Int} (h : -9223372036854775808 ≤ x ∧ x ≤ 9223372036854775807) (r : List UInt8) : rI (uintB (zig x) ++ r, false) = (x, (r, false)) := by
  unfold rI; rw [rU_back (zig_lt h), unzig_zig]
theorem rT_back {t : List UInt8} {most : Int} (h : (t.length : Int) ≤ most) (h2 : t.length < 10000000000) (r : List UInt8) : rT most (textB t ++ r, false) = (t, (r, false)) := by
  unfold rT textB
  rw [List.append_assoc, rU_back (by omega)]
  rw [if_neg (by simp only [List.length_append]; omega)]
  unfold rR
  rw [if_neg (by simp only [List.length_append]; exact fun h => h.elim (fun h => by cases h) (fun h => by omega))]
  simp
/-- a frame ahead of whatever is opened -/
theorem open_frame {k : Nat} {t : List UInt8} (hk : k < 256) (ht : t.length ≤ 4194304) (r : List UInt8) : opn (frame k t ++ r) = ⟨UInt8.ofNat k, t, r, 0⟩ := by
  obtain ⟨U, hU⟩ : ∃ U, uintB t.length = U := ⟨_, rfl⟩
  have hhead : head k t = UInt8.ofNat k :: (U ++ t) := by unfold head textB; rw [fix1, hU]; rfl
  obtain ⟨M, hM⟩ : ∃ M, mk (sum (head k t)) = M := ⟨_, rfl⟩
  have hMl : M.length = 4 := by rw [← hM]; exact mk_len _
  have hs : frame k t ++ r = UInt8.ofNat k :: (U ++ (t ++ (M ++ r))) := by unfold frame; rw [hM, hhead]; simp
  have hd : Cod.dec 0 (U ++ (t ++ (M ++ r))) = some (t.length, t ++ (M ++ r)) := by rw [← hU]; exact dec_uint (by omega) _
  have hlen : lenV (U ++ (t ++ (M ++ r))) = ((t.length : Int), (U.length : Int), 0) := by
    unfold lenV; rw [hd]
    show (if 4194304 < t.length then _ else _) = _
    rw [if_neg (by omega)]
    simp only [List.length_append]
    congr 2
    omega
  unfold opn
  rw [hs, if_neg (by simp)]
  rw [show (UInt8.ofNat k :: (U ++ (t ++ (M ++ r)))).drop 1 = U ++ (t ++ (M ++ r)) from rfl, hlen]
  unfold opnV
  have e1 : (1 + (U.length : Int) + (t.length : Int)).toNat = (UInt8.ofNat k :: (U ++ t)).length := by simp only [List.length_cons, List.length_append]; omega
  have e2 : (1 + (U.length : Int) + (t.length : Int) + 4).toNat = (UInt8.ofNat k :: (U ++ t) ++ M).length := by simp only [List.length_cons, List.length_append, hMl]; omega
  have e3 : (1 + (U.length : Int)).toNat = (UInt8.ofNat k :: U).length := by simp only [List.length_cons]; omega
  have a1 : UInt8.ofNat k :: (U ++ (t ++ (M ++ r))) = (UInt8.ofNat k :: (U ++ t)) ++ (M ++ r) := by simp
  have a2 : UInt8.ofNat k :: (U ++ (t ++ (M ++ r))) = (UInt8.ofNat k :: (U ++ t) ++ M) ++ r := by simp
  have t1 : (UInt8.ofNat k :: (U ++ (t ++ (M ++ r)))).take (1 + (U.length : Int) + (t.length : Int)).toNat = UInt8.ofNat k :: (U ++ t) := by rw [a1, e1, List.take_left]
  have t2 : (UInt8.ofNat k :: (U ++ (t ++ (M ++ r)))).take (1 + (U.length : Int) + (t.length : Int) + 4).toNat = UInt8.ofNat k :: (U ++ t) ++ M := by rw [a2, e2, List.take_left]
  have t3 : (UInt8.ofNat k :: (U ++ (t ++ (M ++ r)))).drop (1 + (U.length : Int) + (t.length : Int) + 4).toNat = r := by rw [a2, e2, List.drop_left]
  have t4 : (UInt8.ofNat k :: (U ++ t) ++ M).drop (1 + (U.length : Int) + (t.length : Int)).toNat = M := by rw [e1, List.drop_left]
  have t5 : (UInt8.ofNat k :: (U ++ t)).drop (1 + (U.length : Int)).toNat = t := by rw [e3]; exact List.drop_left (l₁ := UInt8.ofNat k :: U)
  dsimp only
  rw [if_neg (show ¬ ((0 : Int) ≠ 0) by decide), if_neg (by simp only [List.length_cons, List.length_append, hMl]; omega), t1, t2, t4, ← hhead, hM, if_neg (by simp), t3, hhead, t5]
  rfl
theorem frame_len {k : Nat} {t : List UInt8} (hk : k < 256) : (frame k t).length = 5 + (uintB t.length).length + t.length := by
  unfold frame head textB
  rw [fix1]
  simp only [List.length_append, List.length_cons, List.length_nil, mk_len]
  omega
theorem only_frame {k : Nat} {t : List UInt8} (hk : k < 256) (ht : t.length ≤ 4194304) : onl k (frame k t) = (t, 0) := by
  have := open_frame hk ht []
  rw [List.append_nil] at this
  unfold onl
  rw [this]
  exact if_pos ⟨rfl, UInt8.toNat_ofNat_of_lt' hk, rfl⟩
theorem frameC (k : Nat) (t : List UInt8) (hk : k < 256) (ht : t.length ≤ 4194304) : Pu Try.prog 17 #[.int .u8 (k : Int), .string (str t)] (.tuple #[.string (str (frame k t)), .int .i64 0]) := by
  have := frameP k t hk (by omega)
  rwa [if_pos ht] at this
theorem openC (s : List UInt8) (hl : s.length ≤ 1000000000) (f : Seal.Fr) (h : opn s = f) : Pu Try.prog 28 #[.string (str s)] (.tuple #[.int .u8 (bI f.k), .string (str f.t), .string (str f.b), .int .i64 f.w]) := h ▸ openP s hl
abbrev fr7 : List UInt8 := frame 7 [97, 98]
theorem fr7_len : fr7.length = 8 := by rw [frame_len (by decide)]; rw [show ([97, 98] : List UInt8).length = 2 from rfl, uintB_lt (by decide)]; rfl
theorem fr7_open : opn (fr7 ++ [120]) = ⟨7, [97, 98], [120], 0⟩ := open_frame (by decide) (by decide) [120]
theorem rU300 : rU ([] ++ uintB 300, false) = (300, ([], false)) := by
  have := rU_back (n := 300) (by decide) []
  rwa [List.append_nil] at this
def it (a : List (List UInt8)) (b : List Int) (i : Nat) : List UInt8 := (if i < a.length then textB (a[i]!) else []) ++ (if i < b.length then uintB (zig (b[i]!)) else [])
def tot (a : List (List UInt8)) (b : List Int) : Nat → List UInt8
  | 0 => []
  | k + 1 => tot a b k ++ it a b k
def rs (a : List (List UInt8)) (b : List Int) : Nat → Nat → List UInt8
  | _, 0 => []
  | k, n + 1 => it a b k ++ rs a b (k + 1) n
theorem tot_rs (a : List (List UInt8)) (b : List Int) : ∀ (n k : Nat), tot a b k ++ rs a b k n = tot a b (k + n)
  | 0, k => by rw [rs, List.append_nil]; rfl
  | n + 1, k => by rw [rs, ← List.append_assoc, show k + (n + 1) = (k + 1) + n by omega]; exact tot_rs a b n (k + 1)
theorem it_len {a : List (List UInt8)} {b : List Int} {i : Nat} (ha : i < a.length → (a[i]!).length ≤ 1000) (hb : ∀ x ∈ b, -9223372036854775808 ≤ x ∧ x ≤ 9223372036854775807) : (it a b i).length ≤ 1020 := by
  unfold it
  rw [List.length_append]
  have h1 : (if i < a.length then textB (a[i]!) else []).length ≤ 1010 := by
    by_cases h : i < a.length
    · rw [if_pos h]
      have := uintB_len10 (n := (a[i]!).length) (by have := ha h; omega)
      have := ha h
      unfold textB; rw [List.length_append]; omega
    · rw [if_neg h]; exact Nat.zero_le _
  have h2 : (if i < b.length then uintB (zig (b[i]!)) else []).length ≤ 10 := by
    by_cases h : i < b.length
    · rw [if_pos h]; exact uintB_len10 (zig_lt (hb _ (Ls.mem! h)))
    · rw [if_neg h]; exact Nat.zero_le _
  omega
theorem tot_len {a : List (List UInt8)} {b : List Int} (hb : ∀ x ∈ b, -9223372036854775808 ≤ x ∧ x ≤ 9223372036854775807) : ∀ {k : Nat}, (∀ i, i < k → i < a.length → (a[i]!).length ≤ 1000) → (tot a b k).length ≤ k * 1020
  | 0, _ => by rw [tot]; exact Nat.zero_le _
  | k + 1, h => by
    have := tot_len hb (k := k) fun i hi => h i (by omega)
    have := it_len (i := k) (h k (by omega)) hb
    rw [tot, List.length_append]; omega
theorem rs_len {a : List (List UInt8)} {b : List Int} (hb : ∀ x ∈ b, -9223372036854775808 ≤ x ∧ x ≤ 9223372036854775807) (ha : ∀ i, i < a.length → (a[i]!).length ≤ 1000) : ∀ (n k : Nat), (rs a b k n).length ≤ n * 1020
  | 0, _ => by rw [rs]; exact Nat.zero_le _
  | n + 1, k => by
    have := rs_len hb ha n (k + 1)
    have := it_len (i := k) (ha k) hb
    rw [rs, List.length_append]; omega
end Top2
end Go.Proofs.Ytjncahmbllmllaa
/- TopFrames: the plain law, and as it is walked. -/
set_option linter.unusedSimpArgs false
set_option linter.unusedVariables false
set_option linter.unusedSectionVars false
set_option maxRecDepth 20000
set_option maxHeartbeats 4000000
namespace Go.Proofs.Ytjncahmbllmllaa
open Go Go.J
attribute [local irreducible] At AtQ AtM AtM1 PR Ct Pu Rd Res.blk Res.own Res.byt Res.ex RVs RV Cod.W
namespace Top2
open Cod Seal
theorem mk_eq (n : Nat) : mk n = [UInt8.ofNat (n / 256 ^ 0), UInt8.ofNat (n / 256 ^ 1), UInt8.ofNat (n / 256 ^ 2), UInt8.ofNat (n / 256 ^ 3)] := rfl
theorem mk_inj {a b : Nat} (ha : a < 4294967296) (hb : b < 4294967296) (h : mk a = mk b) : a = b := by
  rw [mk_eq, mk_eq] at h
  simp only [List.cons.injEq, and_true] at h
  obtain ⟨h0, h1, h2, h3⟩ := h
  have f : ∀ x y : Nat, UInt8.ofNat x = UInt8.ofNat y → x % 256 = y % 256 := fun x y e => by
    have := congrArg UInt8.toNat e
    simpa using this
  have := f _ _ h0
  have := f _ _ h1
  have := f _ _ h2
  have := f _ _ h3
  omega
theorem found1 {c c' : UInt8} {q : List UInt8} (h : sum (c :: q) = sum (c' :: q)) : c = c' := by
  unfold sum at h
  have h1 := xor_right h
  rw [List.foldl_cons, List.foldl_cons] at h1
  have hp : (4294967295 : Nat) < 4294967296 := by decide
  have h2 := fold_inj q (stp_lt hp c) (stp_lt hp c') h1
  obtain ⟨k1, _⟩ := stp_top (c := c) (c' := c') (j := 0) hp hp (by decide) (by rw [h2])
  exact byte_of k1
/-- what is ahead of a sum that is another one is no frame -/
theorem open_bad {c : UInt8} {t M r : List UInt8} (hM : M.length = 4) (ht : t.length ≤ 4194304) (h : mk (sum (c :: (uintB t.length ++ t))) ≠ M) : opn (c :: (uintB t.length ++ (t ++ (M ++ r)))) = ⟨0, [], [], 4⟩ := by
  obtain ⟨U, hU⟩ : ∃ U, uintB t.length = U := ⟨_, rfl⟩
  rw [hU] at h ⊢
  have hd : Cod.dec 0 (U ++ (t ++ (M ++ r))) = some (t.length, t ++ (M ++ r)) := by rw [← hU]; exact dec_uint (by omega) _
  have hlen : lenV (U ++ (t ++ (M ++ r))) = ((t.length : Int), (U.length : Int), 0) := by
    unfold lenV; rw [hd]
    show (if 4194304 < t.length then _ else _) = _
    rw [if_neg (by omega)]
    simp only [List.length_append]
    congr 2
    omega
  unfold opn
  rw [if_neg (by simp)]
  rw [show (c :: (U ++ (t ++ (M ++ r)))).drop 1 = U ++ (t ++ (M ++ r)) from rfl, hlen]
  unfold opnV
  have e1 : (1 + (U.length : Int) + (t.length : Int)).toNat = (c :: (U ++ t)).length := by simp only [List.length_cons, List.length_append]; omega
  have e2 : (1 + (U.length : Int) + (t.length : Int) + 4).toNat = (c :: (U ++ t) ++ M).length := by simp only [List.length_cons, List.length_append, hM]; omega
  have a1 : c :: (U ++ (t ++ (M ++ r))) = (c :: (U ++ t)) ++ (M ++ r) := by simp
  have a2 : c :: (U ++ (t ++ (M ++ r))) = (c :: (U ++ t) ++ M) ++ r := by simp
  have t1 : (c :: (U ++ (t ++ (M ++ r)))).take (1 + (U.length : Int) + (t.length : Int)).toNat = c :: (U ++ t) := by rw [a1, e1, List.take_left]
  have t2 : (c :: (U ++ (t ++ (M ++ r)))).take (1 + (U.length : Int) + (t.length : Int) + 4).toNat = c :: (U ++ t) ++ M := by rw [a2, e2, List.take_left]
  have t4 : (c :: (U ++ t) ++ M).drop (1 + (U.length : Int) + (t.length : Int)).toNat = M := by rw [e1, List.drop_left]
  dsimp only
  rw [if_neg (show ¬ ((0 : Int) ≠ 0) by decide), if_neg (by simp only [List.length_cons, List.length_append, hM]; omega), t1, t2, t4, if_pos h]
theorem xor_b (c : UInt8) (v : Nat) (h : v < 256) : bits .xor .u8 (bI c) ((v : Nat) : Int) = bI (UInt8.ofNat (c.toNat ^^^ v)) := by
  have hc := c.toNat_lt
  rw [show bI c = (c.toNat : Int) from rfl, u8_xor_nat _ _ (by omega) h, bI_of (Nat.xor_lt_two_pow (n := 8) (by omega) h)]
theorem xor_ne {c : UInt8} {v : Nat} (h : v < 256) (hv : v ≠ 0) : UInt8.ofNat (c.toNat ^^^ v) ≠ c := fun e => by
  have hc := c.toNat_lt
  have e2 := congrArg UInt8.toNat e
  rw [UInt8.toNat_ofNat_of_lt' (by show _ < 256; exact Nat.xor_lt_two_pow (n := 8) (by omega) h)] at e2
  have e3 : c.toNat ^^^ v = c.toNat ^^^ 0 := by rw [e2, Nat.xor_zero]
  exact hv (xor_left e3)
theorem xor_two {c : UInt8} {v : Nat} (h : v < 256) : UInt8.ofNat ((UInt8.ofNat (c.toNat ^^^ v)).toNat ^^^ v) = c := by
  have hc := c.toNat_lt
  rw [UInt8.toNat_ofNat_of_lt' (by show _ < 256; exact Nat.xor_lt_two_pow (n := 8) (by omega) h), Nat.xor_assoc, Nat.xor_self, Nat.xor_zero]
  simp
/-- a frame, by its first byte and its last one -/
structure Par (k : Nat) (t : List UInt8) (c m : UInt8) (Y : List UInt8) : Prop where
  e : frame k t = c :: (Y ++ [m])
  odd : ∀ c', c' ≠ c → ∀ r, opn (c' :: (Y ++ [m]) ++ r) = ⟨0, [], [], 4⟩
  even : ∀ m', m' ≠ m → ∀ r, opn (c :: (Y ++ [m']) ++ r) = ⟨0, [], [], 4⟩
theorem par {k : Nat} {t : List UInt8} (ht : t.length ≤ 4194304) : ∃ c m Y, Par k t c m Y := by
  have hs := sum_lt (head k t)
  have hhead : head k t = UInt8.ofNat k :: (uintB t.length ++ t) := by unfold head textB; rw [fix1]; rfl
  have hf : frame k t = head k t ++ mk (sum (head k t)) := rfl
  obtain ⟨S, hS⟩ : ∃ S, sum (head k t) = S := ⟨_, rfl⟩
  rw [hS] at hs hf
  have hm : mk S = [UInt8.ofNat (S / 256 ^ 0), UInt8.ofNat (S / 256 ^ 1), UInt8.ofNat (S / 256 ^ 2)] ++ [UInt8.ofNat (S / 256 ^ 3)] := rfl
  obtain ⟨A, hA⟩ : ∃ A, [UInt8.ofNat (S / 256 ^ 0), UInt8.ofNat (S / 256 ^ 1), UInt8.ofNat (S / 256 ^ 2)] = A := ⟨_, rfl⟩
  have hAl : A.length = 3 := by rw [← hA]; rfl
  obtain ⟨z, hz⟩ : ∃ z, UInt8.ofNat (S / 256 ^ 3) = z := ⟨_, rfl⟩
  rw [hA, hz] at hm
  refine ⟨UInt8.ofNat k, z, uintB t.length ++ (t ++ A), ?_, fun c' hc r => ?_, fun m' hm' r => ?_⟩
  · rw [hf, hhead, hm]; simp
  · have := open_bad (c := c') (t := t) (M := A ++ [z]) (r := r) (by simp [hAl]) ht (by
      rw [← hm]
      intro e
      have e2 := mk_inj (sum_lt _) hs e
      rw [← hS, hhead] at e2
      exact hc (found1 e2))
    rw [← this]; congr 1; simp
  · have := open_bad (c := UInt8.ofNat k) (t := t) (M := A ++ [m']) (r := r) (by simp [hAl]) ht (by
      rw [← hhead, hS, hm]
      intro e
      have := List.append_cancel_left e
      exact hm' (List.cons.inj this).1.symm)
    rw [← this]; congr 1; simp
def K (kind i : Nat) : Nat := (kind + i) % 256
theorem K_lt (kind i : Nat) : K kind i < 256 := Nat.mod_lt _ (by decide)
def frs (kind : Nat) (l : List (List UInt8)) : Nat → List (List UInt8)
  | 0 => []
  | k + 1 => frs kind l k ++ [frame (K kind k) (l[k]!)]
theorem frs_len (kind : Nat) (l : List (List UInt8)) : ∀ k, (frs kind l k).length = k
  | 0 => rfl
  | k + 1 => by rw [frs, List.length_append, frs_len kind l k]; rfl
theorem frs_get (kind : Nat) (l : List (List UInt8)) : ∀ (k i : Nat), i < k → (frs kind l k)[i]! = frame (K kind i) (l[i]!)
  | k + 1, i, h => by
    have hl := frs_len kind l k
    rw [frs]
    by_cases e : i = k
    · subst e
      rw [getElem!_pos _ i (by rw [List.length_append, hl]; exact Nat.lt_succ_self i), List.getElem_append_right (by omega)]
      simp [hl]
    · have := frs_get kind l k i (by omega)
      rw [getElem!_pos _ i (by rw [hl]; omega)] at this
      rw [getElem!_pos _ i (by rw [List.length_append, hl]; show i < k + 1; omega), List.getElem_append_left (by omega)]
      exact this
theorem flat_drop {P : List (List UInt8)} {i : Nat} (h : i < P.length) : (P.drop i).flatten = P[i]! ++ (P.drop (i + 1)).flatten := by rw [Ls.drop_cons h, List.flatten_cons]
theorem flat_bd {P : List (List UInt8)} (h : ∀ x ∈ P, x.length ≤ 5000) : P.flatten.length ≤ P.length * 5000 := by
  induction P with
  | nil => exact Nat.zero_le _
  | cons x P ih =>
    have h1 := h x (List.mem_cons_self ..)
    have h2 := ih fun y hy => h y (List.mem_cons_of_mem _ hy)
    rw [List.flatten_cons, List.length_append, List.length_cons, Nat.succ_mul]; omega
abbrev owS (p : Option Addr) (c : Nat) (l : List (List UInt8)) : Res := .own Ls.fS 1 9 p c l
structure CS where
  (i : Nat) (p : Option Addr) (c : Nat)
/-- what is opened -/
structure Opn (l : List (List UInt8)) (kind v : Nat) (at_ : Int) (P : List (List UInt8)) : Prop where
  n : P.length = l.length
  ok : ∀ i, i < l.length → ¬ ((i : Int) = at_ ∧ v ≠ 0) → P[i]! = frame (K kind i) (l[i]!)
  bad : ∀ i, i < l.length → ((i : Int) = at_ ∧ v ≠ 0) → ∀ r, opn (P[i]! ++ r) = ⟨0, [], [], 4⟩
  le : ∀ x ∈ P, x.length ≤ 5000
theorem frame_le {k : Nat} {t : List UInt8} (h : t.length ≤ 4096) : (frame k t).length ≤ 5000 ∧ 6 ≤ (frame k t).length := by
  have h1 := uintB_len10 (n := t.length) (by omega)
  have h2 := uintB_pos t.length
  have : (frame k t).length = 5 + (uintB t.length).length + t.length := by
    unfold frame head textB
    rw [fix1]
    simp only [List.length_append, List.length_cons, List.length_nil, mk_len]
    omega
  omega
theorem opn_same {l : List (List UInt8)} {kind v : Nat} {at_ : Int} (hl : ∀ i, i < l.length → (l[i]!).length ≤ 4096) (h : ∀ i, i < l.length → ¬ ((i : Int) = at_ ∧ v ≠ 0)) : Opn l kind v at_ (frs kind l l.length) :=
  ⟨frs_len kind l _, fun i hi _ => frs_get kind l _ i hi, fun i hi hb => absurd hb (h i hi), fun x hx => by
    obtain ⟨i, hi, rfl⟩ := List.mem_iff_getElem.1 hx
    rw [frs_len] at hi
    have := frs_get kind l l.length i hi
    rw [getElem!_pos _ i (by rw [frs_len]; exact hi)] at this
    rw [this]; exact (frame_le (hl i hi)).1⟩
theorem opn_set {l : List (List UInt8)} {kind v : Nat} {a : Nat} {g : List UInt8} (ha : a < l.length) (hl : ∀ i, i < l.length → (l[i]!).length ≤ 4096) (hv : v ≠ 0) (hg : ∀ r, opn (g ++ r) = ⟨0, [], [], 4⟩) (hgl : g.length ≤ 5000) : Opn l kind v (a : Int) ((frs kind l l.length).set a g) := by
  have hn := frs_len kind l l.length
  refine ⟨by rw [List.length_set]; exact hn, fun i hi hb => ?_, fun i hi hb r => ?_, fun x hx => ?_⟩
  · have hne : a ≠ i := fun e => hb ⟨by omega, hv⟩
    have := frs_get kind l l.length i hi
    rw [getElem!_pos _ i (by rw [hn]; exact hi)] at this
    rw [getElem!_pos _ i (by rw [List.length_set, hn]; exact hi), List.getElem_set_ne hne]; exact this
  · have e : a = i := by omega
    subst e
    rw [getElem!_pos _ a (by rw [List.length_set, hn]; exact hi), List.getElem_set_self]; exact hg r
  · rcases List.mem_or_eq_of_mem_set hx with h | h
    · exact (opn_same (kind := kind) (v := 0) (at_ := 0) hl fun i _ h => h.2 rfl).le x h
    · rw [h]; exact hgl
theorem get_last (c m : UInt8) (Y : List UInt8) : ((c :: (Y ++ [m])).map bI)[Y.length + 1]! = bI m := by
  rw [getElem!_pos _ _ (by simp), List.getElem_map]
  simp
theorem set_last (c m m' : UInt8) (Y : List UInt8) : ((c :: (Y ++ [m])).map bI).set (Y.length + 1) (bI m') = (c :: (Y ++ [m'])).map bI := by
  rw [← List.map_set]
  congr 1
  simp [List.set_append]
end Top2
end Go.Proofs.Ytjncahmbllmllaa
/- TopSealed, plain: frames there and back, one byte another one. -/
set_option linter.unusedSimpArgs false
set_option linter.unusedVariables false
set_option linter.unusedSectionVars false
set_option maxRecDepth 20000
set_option maxHeartbeats 4000000
namespace Go.Proofs.Ytjncahmbllmllaa
open Go Go.J
namespace Seal
open Cod
/-- what is opened alone is framed so -/
theorem only_fwd {k : Nat} {s t : List UInt8} (h : onl k s = (t, 0)) : frame k t = s ∧ t.length ≤ 4194304 ∧ t.length ≤ s.length := by
  unfold onl at h
  split at h
  rotate_left
  · cases h
  rename_i hw
  obtain ⟨h1, h2, h3⟩ := hw
  have ht : (opn s).t = t := (Prod.mk.inj h).1
  cases s with
  | nil => exact absurd h1 (by decide)
  | cons c r =>
    have e0 : opn (c :: r) = opnV (c :: r) (lenV r).1 (lenV r).2.1 (lenV r).2.2 := by
      unfold opn; rw [if_neg (by simp)]; rfl
    rw [e0] at h1 h2 h3 ht
    cases hd : Cod.dec 0 r with
    | none =>
      exfalso
      have : (lenV r).2.2 ≠ 0 := by
        unfold lenV; rw [hd]
        dsimp only
        split <;> decide
      unfold opnV at h1
      rw [if_pos this] at h1
      exact this h1
    | some x =>
      obtain ⟨n, q⟩ := x
      have hs := (dec_spec r 0 n q hd).1
      by_cases hn : 4194304 < n
      · exfalso
        have : (lenV r).2.2 ≠ 0 := by
          unfold lenV; rw [hd]
          show (if 4194304 < n then _ else _ : Int × Int × Int).2.2 ≠ 0
          rw [if_pos hn]; decide
        unfold opnV at h1
        rw [if_pos this] at h1
        exact this h1
      · have hl : lenV r = ((n : Int), (r.length : Int) - q.length, 0) := by
          unfold lenV; rw [hd]
          show (if 4194304 < n then _ else _) = _
          rw [if_neg hn]
        have hrl : r.length = (uintB n).length + q.length := by rw [hs, List.length_append]
        rw [hl] at h1 h2 h3 ht
        unfold opnV at h1 h2 h3 ht
        rw [if_neg (by simp)] at h1 h2 h3 ht
        have hU : (r.length : Int) - q.length = ((uintB n).length : Int) := by omega
        rw [hU] at h1 h2 h3 ht
        generalize hUe : uintB n = U at *
        by_cases h4 : ((c :: r).length : Int) - (1 + (U.length : Int) + (n : Int)) < 4
        · rw [if_pos h4] at h1; exact absurd h1 (by decide)
        rw [if_neg h4] at h1 h2 h3 ht
        rw [List.length_cons] at h4
        have e1 : (1 + (U.length : Int) + (n : Int)).toNat = (U.length + n) + 1 := by omega
        have e2 : (1 + (U.length : Int) + (n : Int) + 4).toNat = (U.length + n + 4) + 1 := by omega
        have e3 : (1 + (U.length : Int)).toNat = U.length + 1 := by omega
        rw [e1, e2, e3, hs] at h1 h2 h3 ht
        rw [List.take_succ_cons, List.take_succ_cons, List.drop_succ_cons] at h1 h2 h3 ht
        have k1 : (U ++ q).take (U.length + n) = U ++ q.take n := by rw [List.take_append, List.take_of_length_le (by omega)]; congr 2; omega
        have k2 : (U ++ q).take (U.length + n + 4) = U ++ q.take (n + 4) := by rw [List.take_append, List.take_of_length_le (by omega)]; congr 2; omega
        rw [k1, k2] at h1 h2 h3 ht
        have k3 : (U ++ q.take (n + 4)).drop (U.length + n) = (q.take (n + 4)).drop n := by rw [List.drop_append, List.drop_of_length_le (by omega), List.nil_append]; congr 1; omega
        rw [k3] at h1 h2 h3 ht
        by_cases h5 : mk (sum (c :: (U ++ q.take n))) ≠ (q.take (n + 4)).drop n
        · rw [if_pos h5] at h1; exact absurd h1 (by decide)
        rw [if_neg h5] at h2 h3 ht
        have h5 := Classical.not_not.1 h5
        dsimp only at h2 h3 ht
        rw [List.drop_succ_cons, List.drop_left] at ht
        rw [List.drop_succ_cons] at h3
        have k4 : (U ++ q).drop (U.length + n + 4) = q.drop (n + 4) := by rw [List.drop_append, List.drop_of_length_le (by omega), List.nil_append]; congr 1; omega
        rw [k4] at h3
        have hq : q.length ≤ n + 4 := List.drop_eq_nil_iff.1 h3
        rw [List.take_of_length_le hq] at h5
        have hln : t.length = n := by rw [← ht, List.length_take]; omega
        have hc : UInt8.ofNat k = c := by
          have : c.toNat = k := h2
          rw [← this]; simp
        refine ⟨?_, by omega, by rw [List.length_cons]; omega⟩
        unfold frame head textB
        rw [Top2.fix1, hln, hc, hUe]
        show c :: (U ++ t) ++ mk (sum (c :: (U ++ t))) = c :: r
        rw [← ht, h5, hs]
        show c :: ((U ++ q.take n) ++ q.drop n) = _
        rw [List.append_assoc, List.take_append_drop]
theorem foundP (p : List UInt8) {c c' : UInt8} {q : List UInt8} (h : sum (p ++ c :: q) = sum (p ++ c' :: q)) : c = c' := by
  unfold sum at h
  have h1 := xor_right h
  rw [List.foldl_append, List.foldl_append, List.foldl_cons, List.foldl_cons] at h1
  have hp := fold_lt p (r := 4294967295) (by decide)
  have h2 := fold_inj q (stp_lt hp c) (stp_lt hp c') h1
  obtain ⟨k1, _⟩ := stp_top (c := c) (c' := c') (j := 0) hp hp (by decide) (by rw [h2])
  exact byte_of k1
/-- a frame of which one of the load's bytes is another one is none -/
theorem only_bad {k : Nat} {t : List UInt8} {j : Nat} {c : UInt8} (ht : t.length ≤ 4194304) (hj : j < t.length) (hc : c ≠ t[j]!) :
    onl k ((frame k t).set (1 + (uintB t.length).length + j) c) = ([], 4) := by
  obtain ⟨U, hU⟩ : ∃ U, uintB t.length = U := ⟨_, rfl⟩
  obtain ⟨M, hM⟩ : ∃ M, mk (sum (head k t)) = M := ⟨_, rfl⟩
  have hMl : M.length = 4 := by rw [← hM]; exact mk_len _
  have hhead : head k t = UInt8.ofNat k :: (U ++ t) := by unfold head textB; rw [Top2.fix1, hU]; rfl
  have hs : (frame k t).set (1 + (uintB t.length).length + j) c = UInt8.ofNat k :: (U ++ (t.set j c ++ (M ++ []))) := by
    unfold frame
    rw [hM, hhead, hU, List.append_nil]
    show (UInt8.ofNat k :: (U ++ t ++ M)).set (1 + U.length + j) c = _
    rw [show 1 + U.length + j = (U.length + j) + 1 by omega, List.set_cons_succ, List.append_assoc, List.set_append_right _ _ (by omega), show U.length + j - U.length = j by omega, List.set_append_left _ _ hj]
  have hl2 : (t.set j c).length = t.length := List.length_set
  have hne : sum (UInt8.ofNat k :: (U ++ t.set j c)) ≠ sum (UInt8.ofNat k :: (U ++ t)) := fun e => by
    have e1 : t.set j c = t.take j ++ c :: t.drop (j + 1) := List.set_eq_take_append_cons_drop .. |>.trans (by rw [if_pos hj])
    have e2 : t = t.take j ++ t[j]! :: t.drop (j + 1) := by
      rw [getElem!_pos t j hj]
      conv => lhs; rw [← List.take_append_drop j t, List.drop_eq_getElem_cons hj]
    rw [e1] at e
    conv at e => rhs; rw [e2]
    have a1 : ∀ x, UInt8.ofNat k :: (U ++ (t.take j ++ x :: t.drop (j + 1))) = (UInt8.ofNat k :: (U ++ t.take j)) ++ x :: t.drop (j + 1) := fun x => by simp
    rw [a1, a1] at e
    exact hc (foundP _ e)
  have hmk : mk (sum (UInt8.ofNat k :: (uintB (t.set j c).length ++ t.set j c))) ≠ M := fun e => by
    rw [hl2, hU] at e
    rw [← hM, hhead] at e
    exact hne (Top2.mk_inj (sum_lt _) (sum_lt _) e)
  have := Top2.open_bad (r := []) hMl (by rw [hl2]; exact ht) hmk
  rw [hl2, hU] at this
  rw [hs]
  unfold onl
  rw [this]
  rfl
theorem frame_at {k : Nat} {t : List UInt8} {j : Nat} (hj : j < t.length) : (frame k t)[1 + (uintB t.length).length + j]! = t[j]! := by
  unfold frame head textB
  rw [Top2.fix1]
  generalize uintB t.length = U
  generalize mk _ = M
  rw [getElem!_pos _ _ (by simp; omega), getElem!_pos t j hj]
  show (UInt8.ofNat k :: (U ++ t) ++ M)[1 + U.length + j]'_ = _
  rw [List.getElem_append_left (by simp; omega)]
  simp only [show 1 + U.length + j = (U.length + j) + 1 by omega]
  rw [List.getElem_cons_succ, List.getElem_append_right (by omega)]
  simp
end Seal
end Go.Proofs.Ytjncahmbllmllaa

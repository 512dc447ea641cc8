/- Sort of more labels than can be right. -/
import Derived.Test.YtjncahmbllmllaaLbO
import Derived.Test.YtjncahmbllmllaaJT
set_option linter.unusedSimpArgs false
set_option linter.unusedVariables false
set_option linter.unusedSectionVars false
set_option maxRecDepth 20000
set_option maxHeartbeats 4000000
namespace Go.Proofs.Ytjncahmbllmllaa
open Go Go.J
attribute [local irreducible] At AtQ AtM AtM1 PR Ct Pu Rd Res.blk Res.own Res.ex RVs RV Lb.N
namespace Lb
set_option maxHeartbeats 2000000 in
theorem stableG {m : Mem} (p : Option Addr) (c n : Nat) (hl : n ≤ 1000000) :
    Ct Try.prog 56 #[.slice p n c, .int .i64 (n : Int), fnS] m [N p c n] (fun v m' B => v = .tuple #[] ∧ m = m' ∧ B = [N p c n]) := by
  have r1 := fun {m : Mem} (a b : Nat) (ha : a ≤ n) (hb : b ≤ n) => toN (m := m) fun l hl' => insG p c a b n l hl' hb ha hl
  have r2 := fun {m : Mem} (a k b : Nat) (g1 : a < k) (g2 : k < b) (g3 : b ≤ n) => toN (m := m) fun l hl' => symM p c n hl (b - a) a k b l (Nat.le_refl _) hl' g1 g2 g3
  refine Ct.enterV (by rfl) Try.func56 rfl Try.ntmps56 rfl (fun w0 Rest => ?_)
  (repeat' (first | refine zss ?_ | refine zsO ?_ | (refine zsp ?_ ?_ <;> (intro hc; (try simp only [zhcs, reduceCtorEq] at hc); (try (exfalso; first | contradiction | omega | exact absurd rfl hc | exact absurd (by decide) hc))))))
  (refine At.loopk (σ := Nat) [0, 1, 2, 6] (fun s F0 => (7, .int .i64 (s : Int)) :: (8, .int .i64 ((s + 20 : Nat) : Int)) :: F0) (fun s => m) (fun s => N p c n :: Rest) (fun s => s ≤ n) (fun s => n - s) 0 (by rfl) ?_ zsubs zml zente ?_)
  · exact Nat.zero_le _
  rintro a ha
  by_cases h : a + 20 ≤ n
  · (repeat' (first | refine zss ?_ | refine zsO ?_ | ((with_reducible first | apply At.c1 | apply At.c0); exact rfl; exact rfl; exact r1 a (a + 20) (by omega) h; exact ztk; kernel_rfl; rintro v' m' B' hm' ⟨rfl, rfl, rfl⟩; skip; (try (have hq0 : hm' = Mem.le_refl _ := rfl; clear hq0 hm'))) | (refine zsp ?_ ?_ <;> (intro hc; (try simp only [zhcs, reduceCtorEq] at hc); (try (exfalso; first | omega | contradiction | omega | exact absurd rfl hc | exact absurd (by decide) hc))))))
    all_goals ((with_reducible refine At.reachk ((a + 20)) ?_ ?_ ?_ ?_); exact zsubs; exact zml; exact zente; exact ⟨h, by omega⟩)
  · (repeat' (first | refine zss ?_ | refine zsO ?_ | ((with_reducible first | apply At.c1 | apply At.c0); exact rfl; exact rfl; exact r1 a n ha (Nat.le_refl _); exact ztk; kernel_rfl; rintro v' m' B' hm' ⟨rfl, rfl, rfl⟩; skip; (try (have hq0 : hm' = Mem.le_refl _ := rfl; clear hq0 hm'))) | (refine zsp ?_ ?_ <;> (intro hc; (try simp only [zhcs, reduceCtorEq] at hc); (try (exfalso; first | omega | contradiction | omega | exact absurd rfl hc | exact absurd (by decide) hc))))))
    (refine At.loopk (σ := Nat) [0, 1, 2] (fun s F0 => (6, .int .i64 (s : Int)) :: F0) (fun s => m) (fun s => N p c n :: Rest) (fun s => 20 ≤ s ∧ s ≤ 3000000) (fun s => 3000000 - s) 20 (by rfl) ?_ zsubs zml zente ?_)
    · exact ⟨by omega, by omega⟩
    rintro w ⟨w1, w2⟩
    by_cases h2 : w < n
    · have hw2 : IntKind.wrap .i64 (2 * (w : Int)) = ((2 * w : Nat) : Int) := by rw [show 2 * (w : Int) = ((2 * w : Nat) : Int) by omega]; exact IntWalk.i64_in _ (by omega)
      have hw3 : IntKind.wrap .i64 ((w : Int) * 2) = ((w * 2 : Nat) : Int) := by rw [show (w : Int) * 2 = ((w * 2 : Nat) : Int) by omega]; exact IntWalk.i64_in _ (by omega)
      (repeat' (first | refine zss ?_ | ((first | (with_reducible first | apply At.val | apply AtQ.val)); (exact pr_mul (by rfl) (by rfl) hw2); exact rfl) | refine zsO ?_ | (refine zsp ?_ ?_ <;> (intro hc; (try simp only [zhcs, reduceCtorEq] at hc); (try (exfalso; first | omega | contradiction | omega | exact absurd rfl hc | exact absurd (by decide) hc))))))
      (refine At.loopk (σ := Nat) [0, 1, 2, 6] (fun s F0 => (7, .int .i64 (s : Int)) :: (8, .int .i64 ((s + 2 * w : Nat) : Int)) :: F0) (fun s => m) (fun s => N p c n :: Rest) (fun s => s ≤ n) (fun s => n - s) 0 (by rfl) ?_ zsubs zml zente ?_)
      · exact Nat.zero_le _
      rintro b hb
      have g1 : IntKind.wrap .i64 ((b : Int) + (w : Int)) = ((b + w : Nat) : Int) := by rw [← Int.natCast_add]; exact IntWalk.i64_in _ (by omega)
      by_cases h3 : b + 2 * w ≤ n
      · have g2 : IntKind.wrap .i64 (((b + 2 * w : Nat) : Int) + ((2 * w : Nat) : Int)) = ((b + 2 * w + 2 * w : Nat) : Int) := by rw [← Int.natCast_add]; exact IntWalk.i64_in _ (by omega)
        (repeat' (first | refine zss ?_ | ((first | (with_reducible first | apply At.val | apply AtQ.val)); (first | exact pr_add (by rfl) (by rfl) g1 | exact pr_mul (by rfl) (by rfl) hw2 | exact pr_add (by rfl) (by rfl) g2); exact rfl) | refine zsO ?_ | ((with_reducible first | apply At.c1 | apply At.c0); exact rfl; exact rfl; exact r2 b (b + w) (b + 2 * w) (by omega) (by omega) h3; exact ztk; kernel_rfl; rintro v' m' B' hm' ⟨rfl, rfl, rfl⟩; skip; (try (have hq0 : hm' = Mem.le_refl _ := rfl; clear hq0 hm'))) | (refine zsp ?_ ?_ <;> (intro hc; (try simp only [zhcs, reduceCtorEq] at hc); (try (exfalso; first | omega | contradiction | omega | exact absurd rfl hc | exact absurd (by decide) hc))))))
        all_goals ((with_reducible refine At.reachk ((b + 2 * w)) ?_ ?_ ?_ ?_); exact zsubs; exact zml; exact zente; exact ⟨h3, by omega⟩)
      · by_cases h4 : b + w < n
        · (repeat' (first | refine zss ?_ | ((first | (with_reducible first | apply At.val | apply AtQ.val)); (first | exact pr_add (by rfl) (by rfl) g1 | exact pr_mul (by rfl) (by rfl) hw3); exact rfl) | refine zsO ?_ | ((with_reducible first | apply At.c1 | apply At.c0); exact rfl; exact rfl; exact r2 b (b + w) n (by omega) h4 (Nat.le_refl _); exact ztk; kernel_rfl; rintro v' m' B' hm' ⟨rfl, rfl, rfl⟩; skip; (try (have hq0 : hm' = Mem.le_refl _ := rfl; clear hq0 hm'))) | (refine zsp ?_ ?_ <;> (intro hc; (try simp only [zhcs, reduceCtorEq] at hc); (try (exfalso; first | omega | contradiction | omega | exact absurd rfl hc | exact absurd (by decide) hc))))))
          all_goals ((with_reducible refine At.reachk ((w * 2)) ?_ ?_ ?_ ?_); exact zsubs; exact zml; exact zente; exact ⟨⟨by omega, by omega⟩, by omega⟩)
        · (repeat' (first | refine zss ?_ | ((first | (with_reducible first | apply At.val | apply AtQ.val)); (first | exact pr_add (by rfl) (by rfl) g1 | exact pr_mul (by rfl) (by rfl) hw3); exact rfl) | refine zsO ?_ | (refine zsp ?_ ?_ <;> (intro hc; (try simp only [zhcs, reduceCtorEq] at hc); (try (exfalso; first | omega | contradiction | omega | exact absurd rfl hc | exact absurd (by decide) hc))))))
          all_goals ((with_reducible refine At.reachk ((w * 2)) ?_ ?_ ?_ ?_); exact zsubs; exact zml; exact zente; exact ⟨⟨by omega, by omega⟩, by omega⟩)
    · (repeat' (first | refine zss ?_ | refine zsO ?_ | (refine zsp ?_ ?_ <;> (intro hc; (try simp only [zhcs, reduceCtorEq] at hc); (try (exfalso; first | omega | contradiction | omega | exact absurd rfl hc | exact absurd (by decide) hc))))))
      all_goals ((first | (with_reducible apply At.retB0 (B := [N p c n])) | (with_reducible apply At.retR0 (B := [N p c n]))); exact rfl; exact zml; exact zkp; exact ⟨rfl, rfl, rfl⟩)
theorem sortfG {m : Mem} (p : Option Addr) (c n : Nat) (hl : n ≤ 1000000) :
    Ct Try.prog 45 #[.slice p n c, fnS] m [N p c n] (fun v m' B => v = .tuple #[] ∧ m = m' ∧ B = [N p c n]) := by
  have hin := stableG (m := m) p c n hl
  refine Ct.enterV (by rfl) Try.func45 rfl Try.ntmps45 rfl (fun w0 Rest => ?_)
  (repeat' (first | refine zss ?_ | refine zsO ?_ | ((with_reducible first | apply At.c1 | apply At.c0); exact rfl; exact rfl; exact hin; exact ztk; kernel_rfl; rintro v' m' B' hm' ⟨rfl, rfl, rfl⟩; skip; (try (have hq0 : hm' = Mem.le_refl _ := rfl; clear hq0 hm'))) | (refine zsp ?_ ?_ <;> (intro hc; (try simp only [zhcs, reduceCtorEq] at hc); (try (exfalso; first | contradiction | omega | exact absurd rfl hc | exact absurd (by decide) hc))))))
  all_goals ((first | (with_reducible apply At.retB0 (B := [N p c n])) | (with_reducible apply At.retR0 (B := [N p c n]))); exact rfl; exact zml; exact zkp; exact ⟨rfl, rfl, rfl⟩)
theorem sortG0 {m : Mem} (p : Option Addr) (c : Nat) (l : List Lab) (hl : l.length ≤ 1000000) (sl0 : Sl m cells 2 p c l) :
    Ct Try.prog 22 #[.slice p l.length c] m [] (fun v m' B => m = m' ∧ ∃ p2 c2, v = .slice p2 l.length c2 ∧ B = [N p2 c2 l.length]) := by
  have h1 := fun (m : Mem) p c => sortfG (m := m) p c l.length hl
  refine Ct.enterV (by rfl) Try.func22 rfl Try.ntmps22 rfl (fun w0 Rest => ?_)
  (repeat' (first | refine zss ?_ | refine zsO ?_ | (((with_reducible first | apply At.c1 | apply At.c0); exact rfl; exact rfl; exact clone p c l (by omega) sl0; exact ztk; kernel_rfl; rintro v' m' B' hm' ⟨rfl, p2, c2, rfl, rfl⟩; (try replace sl0 := sl0.mono hm'); (try (have hq0 : hm' = Mem.le_refl _ := rfl; clear hq0 hm'))); refine At.ent (N.close (rfl : l.length = l.length) _) ?_) | ((with_reducible first | apply At.c1 | apply At.c0); exact rfl; exact rfl; exact h1 _ p2 c2; exact ztk; kernel_rfl; rintro v' m' B' hm' ⟨rfl, rfl, rfl⟩; (try replace sl0 := sl0.mono hm'); (try (have hq0 : hm' = Mem.le_refl _ := rfl; clear hq0 hm'))) | (refine zsp ?_ ?_ <;> (intro hc; (try simp only [zhcs, reduceCtorEq] at hc); (try (exfalso; first | contradiction | omega | exact absurd rfl hc | exact absurd (by decide) hc))))))
  all_goals ((with_reducible apply At.retB1 (B := [N _ _ _])); exact rfl; exact rfl; exact zml; exact zkp; exact ⟨rfl, _, _, rfl, rfl⟩)
/-- of so many labels, whichever, that stay -/
theorem sortG {m : Mem} (p : Option Addr) (c : Nat) (l : List Lab) (n : Nat) (hn : l.length = n) (hl : n ≤ 1000000) (sl0 : Sl m cells 2 p c l) :
    Ct Try.prog 22 #[.slice p n c] m [] (fun v m' B => B = [] ∧ ∃ (l2 : List Lab) (p2 : Option Addr) (c2 : Nat), v = .slice p2 n c2 ∧ l2.length = n ∧ Sl m' cells 2 p2 c2 l2) := by
  subst hn
  have h := sortG0 p c l hl sl0
  unfold Ct at h ⊢
  intro w0 Rest w hw
  refine (h w0 Rest w hw).mono fun _ _ ⟨v, m2, B, g1, g2, ⟨_, p2, c2, g3, g4⟩, g5⟩ => ?_
  subst g4
  have g6 : HW w0 m2 (N p2 c2 l.length :: Rest) _ := g5
  unfold N at g6
  obtain ⟨l2, hl2, g7⟩ := HW.openx g6
  obtain ⟨m3, hm3, sl, g8⟩ := HW.freeze inferInstance g7
  exact ⟨v, m3, [], g1, Mem.le_trans g2 hm3, ⟨rfl, l2, p2, c2, g3, hl2, sl⟩, g8⟩
end Lb
end Go.Proofs.Ytjncahmbllmllaa

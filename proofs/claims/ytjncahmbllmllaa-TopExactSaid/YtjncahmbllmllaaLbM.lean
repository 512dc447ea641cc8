/- The contracts of Sort, for more labels than can be right: how many there are stays. -/
import Derived.Test.YtjncahmbllmllaaLbS
import Derived.Test.YtjncahmbllmllaaJT
set_option linter.unusedSimpArgs false
set_option linter.unusedVariables false
set_option linter.unusedSectionVars false
set_option maxRecDepth 20000
set_option maxHeartbeats 4000000
namespace Go.Proofs.Ytjncahmbllmllaa
open Go Go.J
attribute [local irreducible] At AtQ AtM AtM1 PR Ct Pu Rd Res.blk Res.own Res.ex RVs RV
namespace Lb
/-- as many as there were -/
def PostN (p : Option Addr) (c n : Nat) : Value → Mem → Mem → List Res → Prop := fun v m m' B => v = .tuple #[] ∧ m = m' ∧ ∃ l : List Lab, l.length = n ∧ B = [oL p c l]
structure NS where
  (i : Nat) (L : List Lab)
theorem sortA {m : Mem} (a b : Lab) : Ct Try.prog 46 #[a.val, b.val] m [] (fun v m' B => v = .int .i64 (Nm.cmpS a.n b.n) ∧ m = m' ∧ B = []) := sort1 a b _ rfl
set_option maxHeartbeats 1000000 in
theorem insG {m : Mem} (p : Option Addr) (c a b n : Nat) (l : List Lab) (hn : l.length = n) (hb : b ≤ n) (ha : a ≤ n) (hl : n ≤ 1000000) :
    Ct Try.prog 60 #[.slice p n c, .int .i64 (a : Int), .int .i64 (b : Int), fnS] m [oL p c l] (fun v m' B => PostN p c n v m m' B) := by
  refine Ct.enterV (by rfl) Try.func60 rfl Try.ntmps60 rfl (fun w0 Rest => ?_)
  (repeat' (first | refine zss ?_ | refine zsO ?_ | (refine zsp ?_ ?_ <;> (intro hc; (try simp only [zhcs, reduceCtorEq] at hc); (try (exfalso; first | contradiction | omega | exact absurd rfl hc | exact absurd (by decide) hc))))))
  (refine At.loopk (σ := NS) [0, 1, 2, 3] (fun s F0 => (8, .int .i64 (s.i : Int)) :: F0) (fun s => m) (fun s => oL p c s.L :: Rest) (fun s => a + 1 ≤ s.i ∧ s.L.length = n) (fun s => n - s.i) ⟨a + 1, l⟩ (by rfl) ?_ zsubs zml zente ?_)
  · exact ⟨Nat.le_refl _, hn⟩
  rintro ⟨i, L⟩ ⟨h1, h2⟩
  dsimp only at h1 h2 ⊢
  by_cases h : i < b
  · (repeat' (first | refine zss ?_ | refine zsO ?_ | (refine zsp ?_ ?_ <;> (intro hc; (try simp only [zhcs, reduceCtorEq] at hc); (try (exfalso; first | omega | contradiction | omega | exact absurd rfl hc | exact absurd (by decide) hc))))))
    (refine At.loopk (σ := NS) [0, 1, 2, 3, 8] (fun s F0 => (9, .int .i64 (s.i : Int)) :: F0) (fun s => m) (fun s => oL p c s.L :: Rest) (fun s => s.i ≤ i ∧ s.L.length = n) (fun s => s.i) ⟨i, L⟩ (by rfl) ?_ zsubs zml zente ?_)
    · exact ⟨Nat.le_refl _, h2⟩
    rintro ⟨j, W⟩ ⟨g1, g2⟩
    dsimp only at g1 g2 ⊢
    by_cases hj : a < j
    · obtain ⟨k, rfl⟩ : ∃ k, j = k + 1 := ⟨j - 1, by omega⟩
      have hw : IntKind.wrap .i64 (((k + 1 : Nat) : Int) - 1) = (k : Int) := by rw [show ((k + 1 : Nat) : Int) - 1 = (k : Int) by omega]; exact IntWalk.i64_in _ (by omega)
      have hcm := fun (m : Mem) => sortA (m := m) (W[k + 1]!) (W[k]!)
      by_cases e : Nm.cmpS W[k + 1]!.n W[k]!.n < 0
      · generalize Nm.cmpS W[k + 1]!.n W[k]!.n = r at hcm e
        (repeat' (first | ((with_reducible apply At.mixed (id := 4) 17 (.q 0 (.q 1 (.q 2 (.q 3 (.q 4 (.q 5 (.q 6 (.q 7 (.q 8 (.q 9 (.q 10 (.q 11 (.q 12 (.q 13 (.x 14 (.q 15 (.q 16 .done)))))))))))))))))); exact rfl; kernel_rfl; kernel_rfl; kernel_rfl) | ((with_reducible apply At.mixed (id := 6) 18 (.q 0 (.q 1 (.q 2 (.q 3 (.q 4 (.q 5 (.q 6 (.q 7 (.q 8 (.q 9 (.q 10 (.q 11 (.q 12 (.q 13 (.q 14 (.x 15 (.q 16 (.x 17 .done))))))))))))))))))); exact rfl; kernel_rfl; kernel_rfl; kernel_rfl) | refine zsx ?_ | refine zss ?_ | ((with_reducible apply AtM.bo); exact rfl; exact rfl; exact rfl) | ((first | (with_reducible first | apply At.val | apply AtQ.val) | ((with_reducible first | apply AtM1.valz | apply AtM1.val); exact rfl) | ((with_reducible apply AtM1.val); exact rfl)); (exact pr_sub (by rfl) (by rfl) hw); exact rfl) | refine zsO ?_ | refine zxO ?_ | ((with_reducible apply At.callf); exact rfl; kernel_rfl; exact rfl; exact rfl; exact hcm _; exact ztk; rintro v' m' B' hm' ⟨rfl, rfl, rfl⟩; skip) | ((with_reducible apply At.storeW (f := cells) (x' := (W[k]!))); (iterate 3 exact rfl); exact (by repeat constructor); exact rfl; exact inferInstance; exact zom; (iterate 3 exact rfl)) | ((with_reducible apply At.storeW (f := cells) (x' := (W[k + 1]!))); (iterate 3 exact rfl); exact (by repeat constructor); exact rfl; exact inferInstance; exact zom; (iterate 3 exact rfl)) | (refine zsp ?_ ?_ <;> (intro hc; (try simp only [zhcs, reduceCtorEq] at hc); (try (exfalso; first | omega | contradiction | omega | exact absurd rfl hc | exact absurd (by decide) hc))))))
        all_goals ((with_reducible refine At.reachk ((⟨k, (W.set (k + 1) (W[k]!)).set k (W[k + 1]!)⟩ : NS)) ?_ ?_ ?_ ?_); exact zsubs; exact zml; exact zente; exact ⟨⟨by show k ≤ i; omega, by show ((W.set (k + 1) (W[k]!)).set k (W[k + 1]!)).length = n; simp; exact g2⟩, by show k < k + 1; omega⟩)
      · generalize Nm.cmpS W[k + 1]!.n W[k]!.n = r at hcm e
        (repeat' (first | ((with_reducible apply At.mixed (id := 4) 17 (.q 0 (.q 1 (.q 2 (.q 3 (.q 4 (.q 5 (.q 6 (.q 7 (.q 8 (.q 9 (.q 10 (.q 11 (.q 12 (.q 13 (.x 14 (.q 15 (.q 16 .done)))))))))))))))))); exact rfl; kernel_rfl; kernel_rfl; kernel_rfl) | ((with_reducible apply At.mixed (id := 6) 18 (.q 0 (.q 1 (.q 2 (.q 3 (.q 4 (.q 5 (.q 6 (.q 7 (.q 8 (.q 9 (.q 10 (.q 11 (.q 12 (.q 13 (.q 14 (.x 15 (.q 16 (.x 17 .done))))))))))))))))))); exact rfl; kernel_rfl; kernel_rfl; kernel_rfl) | refine zsx ?_ | refine zss ?_ | ((with_reducible apply AtM.bo); exact rfl; exact rfl; exact rfl) | ((first | (with_reducible first | apply At.val | apply AtQ.val) | ((with_reducible first | apply AtM1.valz | apply AtM1.val); exact rfl) | ((with_reducible apply AtM1.val); exact rfl)); (exact pr_sub (by rfl) (by rfl) hw); exact rfl) | refine zsO ?_ | refine zxO ?_ | ((with_reducible apply At.callf); exact rfl; kernel_rfl; exact rfl; exact rfl; exact hcm _; exact ztk; rintro v' m' B' hm' ⟨rfl, rfl, rfl⟩; skip) | (refine zsp ?_ ?_ <;> (intro hc; (try simp only [zhcs, reduceCtorEq] at hc); (try (exfalso; first | omega | contradiction | omega | exact absurd rfl hc | exact absurd (by decide) hc))))))
        all_goals ((with_reducible refine At.reachk ((⟨i + 1, W⟩ : NS)) ?_ ?_ ?_ ?_); exact zsubs; exact zml; exact zente; exact ⟨⟨by show a + 1 ≤ i + 1; omega, g2⟩, by show n - (i + 1) < n - i; omega⟩)
    · (repeat' (first | ((with_reducible apply At.mixed (id := 4) 17 (.q 0 (.q 1 (.q 2 (.q 3 (.q 4 (.q 5 (.q 6 (.q 7 (.q 8 (.q 9 (.q 10 (.q 11 (.q 12 (.q 13 (.x 14 (.q 15 (.q 16 .done)))))))))))))))))); exact rfl; kernel_rfl; kernel_rfl; kernel_rfl) | ((with_reducible apply At.mixed (id := 6) 18 (.q 0 (.q 1 (.q 2 (.q 3 (.q 4 (.q 5 (.q 6 (.q 7 (.q 8 (.q 9 (.q 10 (.q 11 (.q 12 (.q 13 (.q 14 (.x 15 (.q 16 (.x 17 .done))))))))))))))))))); exact rfl; kernel_rfl; kernel_rfl; kernel_rfl) | refine zsx ?_ | refine zss ?_ | ((with_reducible apply AtM.bo); exact rfl; exact rfl; exact rfl) | refine zsO ?_ | refine zxO ?_ | (refine zsp ?_ ?_ <;> (intro hc; (try simp only [zhcs, reduceCtorEq] at hc); (try (exfalso; first | omega | contradiction | omega | exact absurd rfl hc | exact absurd (by decide) hc))))))
      all_goals ((with_reducible refine At.reachk ((⟨i + 1, W⟩ : NS)) ?_ ?_ ?_ ?_); exact zsubs; exact zml; exact zente; exact ⟨⟨by show a + 1 ≤ i + 1; omega, g2⟩, by show n - (i + 1) < n - i; omega⟩)
  · (repeat' (first | refine zss ?_ | refine zsO ?_ | (refine zsp ?_ ?_ <;> (intro hc; (try simp only [zhcs, reduceCtorEq] at hc); (try (exfalso; first | omega | contradiction | omega | exact absurd rfl hc | exact absurd (by decide) hc))))))
    all_goals ((first | (with_reducible apply At.retB0 (B := [oL p c L])) | (with_reducible apply At.retR0 (B := [oL p c L]))); exact rfl; exact zml; exact zkp; exact ⟨rfl, rfl, _, h2, rfl⟩)
theorem swapR {m : Mem} (p : Option Addr) (c a b k n : Nat) (l : List Lab) (hn : l.length = n) (ha : a + k ≤ n) (hb : b + k ≤ n) (hl : n ≤ 1000000) :
    Ct Try.prog 63 #[.slice p n c, .int .i64 (a : Int), .int .i64 (b : Int), .int .i64 (k : Int), fnS] m [oL p c l] (fun v m' B => PostN p c n v m m' B) := by
  refine Ct.enterV (by rfl) Try.func63 rfl Try.ntmps63 rfl (fun w0 Rest => ?_)
  (repeat' (first | refine zss ?_ | refine zsO ?_ | (refine zsp ?_ ?_ <;> (intro hc; (try simp only [zhcs, reduceCtorEq] at hc); (try (exfalso; first | contradiction | omega | exact absurd rfl hc | exact absurd (by decide) hc))))))
  (refine At.loopk (σ := NS) [0, 1, 2, 3] (fun s F0 => (10, .int .i64 (s.i : Int)) :: F0) (fun s => m) (fun s => oL p c s.L :: Rest) (fun s => s.i ≤ k ∧ s.L.length = n) (fun s => k - s.i) ⟨0, l⟩ (by rfl) ?_ zsubs zml zente ?_)
  · exact ⟨Nat.zero_le _, hn⟩
  rintro ⟨i, W⟩ ⟨h1, h2⟩
  dsimp only at h1 h2 ⊢
  by_cases h : i < k
  · have wa : IntKind.wrap .i64 ((a : Int) + (i : Int)) = ((a + i : Nat) : Int) := by rw [← Int.natCast_add]; exact IntWalk.i64_in _ (by omega)
    have wb : IntKind.wrap .i64 ((b : Int) + (i : Int)) = ((b + i : Nat) : Int) := by rw [← Int.natCast_add]; exact IntWalk.i64_in _ (by omega)
    (repeat' (first | ((with_reducible apply At.mixed (id := 3) 24 (.q 0 (.q 1 (.q 2 (.q 3 (.q 4 (.q 5 (.q 6 (.q 7 (.q 8 (.q 9 (.q 10 (.q 11 (.q 12 (.q 13 (.q 14 (.q 15 (.q 16 (.q 17 (.q 18 (.q 19 (.q 20 (.x 21 (.q 22 (.x 23 .done))))))))))))))))))))))))); exact rfl; kernel_rfl; kernel_rfl; kernel_rfl) | refine zsx ?_ | refine zss ?_ | ((with_reducible apply AtM.bo); exact rfl; exact rfl; exact rfl) | ((first | (with_reducible first | apply At.val | apply AtQ.val) | ((with_reducible first | apply AtM1.valz | apply AtM1.val); exact rfl) | ((with_reducible apply AtM1.val); exact rfl)); (first | exact pr_add (by rfl) (by rfl) wa | exact pr_add (by rfl) (by rfl) wb); exact rfl) | refine zsO ?_ | refine zxO ?_ | ((with_reducible apply At.storeW (f := cells) (x' := (W[b + i]!))); (iterate 3 exact rfl); exact (by repeat constructor); exact rfl; exact inferInstance; exact zom; (iterate 3 exact rfl)) | ((with_reducible apply At.storeW (f := cells) (x' := (W[a + i]!))); (iterate 3 exact rfl); exact (by repeat constructor); exact rfl; exact inferInstance; exact zom; (iterate 3 exact rfl)) | (refine zsp ?_ ?_ <;> (intro hc; (try simp only [zhcs, reduceCtorEq] at hc); (try (exfalso; first | omega | contradiction | omega | exact absurd rfl hc | exact absurd (by decide) hc))))))
    all_goals ((with_reducible refine At.reachk ((⟨i + 1, (W.set (a + i) (W[b + i]!)).set (b + i) (W[a + i]!)⟩ : NS)) ?_ ?_ ?_ ?_); exact zsubs; exact zml; exact zente; exact ⟨⟨h, by show ((W.set (a + i) (W[b + i]!)).set (b + i) (W[a + i]!)).length = n; simp; exact h2⟩, by show k - (i + 1) < k - i; omega⟩)
  · (repeat' (first | refine zss ?_ | refine zsO ?_ | (refine zsp ?_ ?_ <;> (intro hc; (try simp only [zhcs, reduceCtorEq] at hc); (try (exfalso; first | omega | contradiction | omega | exact absurd rfl hc | exact absurd (by decide) hc))))))
    all_goals ((first | (with_reducible apply At.retB0 (B := [oL p c W])) | (with_reducible apply At.retR0 (B := [oL p c W]))); exact rfl; exact zml; exact zkp; exact ⟨rfl, rfl, _, h2, rfl⟩)
structure RS where
  (i j : Nat) (L : List Lab)
theorem rotR {m : Mem} (p : Option Addr) (c a k b n : Nat) (l : List Lab) (hn : l.length = n) (h1 : a < k) (h2 : k < b) (hb : b ≤ n) (hl : n ≤ 1000000) :
    Ct Try.prog 62 #[.slice p n c, .int .i64 (a : Int), .int .i64 (k : Int), .int .i64 (b : Int), fnS] m [oL p c l] (fun v m' B => PostN p c n v m m' B) := by
  have wi : IntKind.wrap .i64 ((k : Int) - (a : Int)) = ((k - a : Nat) : Int) := by rw [show (k : Int) - (a : Int) = ((k - a : Nat) : Int) by omega]; exact IntWalk.i64_in _ (by omega)
  have wj : IntKind.wrap .i64 ((b : Int) - (k : Int)) = ((b - k : Nat) : Int) := by rw [show (b : Int) - (k : Int) = ((b - k : Nat) : Int) by omega]; exact IntWalk.i64_in _ (by omega)
  refine Ct.enterV (by rfl) Try.func62 rfl Try.ntmps62 rfl (fun w0 Rest => ?_)
  (repeat' (first | refine zss ?_ | ((first | (with_reducible first | apply At.val | apply AtQ.val)); (first | exact pr_sub (by rfl) (by rfl) wi | exact pr_sub (by rfl) (by rfl) wj); exact rfl) | refine zsO ?_ | (refine zsp ?_ ?_ <;> (intro hc; (try simp only [zhcs, reduceCtorEq] at hc); (try (exfalso; first | contradiction | omega | exact absurd rfl hc | exact absurd (by decide) hc))))))
  (refine At.loopk (σ := RS) [0, 2, 4] (fun s F0 => (10, .int .i64 (s.i : Int)) :: (11, .int .i64 (s.j : Int)) :: F0) (fun s => m) (fun s => oL p c s.L :: Rest) (fun s => 1 ≤ s.i ∧ s.i ≤ k ∧ 1 ≤ s.j ∧ k + s.j ≤ n ∧ s.L.length = n) (fun s => s.i + s.j) ⟨k - a, b - k, l⟩ (by rfl) ?_ zsubs zml zente ?_)
  · exact ⟨by show 1 ≤ k - a; omega, by show k - a ≤ k; omega, by show 1 ≤ b - k; omega, by show k + (b - k) ≤ n; omega, hn⟩
  rintro ⟨i, j, W⟩ ⟨g1, g2, g3, g4, g5⟩
  dsimp only at g1 g2 g3 g4 g5 ⊢
  have w1 : IntKind.wrap .i64 ((k : Int) - (i : Int)) = ((k - i : Nat) : Int) := by rw [show (k : Int) - (i : Int) = ((k - i : Nat) : Int) by omega]; exact IntWalk.i64_in _ (by omega)
  by_cases e : i = j
  · have s1 := fun (m : Mem) => swapR (m := m) p c (k - i) k i n W g5 (by omega) (by omega) hl
    (repeat' (first | refine zss ?_ | ((first | (with_reducible first | apply At.val | apply AtQ.val)); (exact pr_sub (by rfl) (by rfl) w1); exact rfl) | refine zsO ?_ | ((with_reducible first | apply At.c1 | apply At.c0); exact rfl; exact rfl; exact s1 _; exact ztk; kernel_rfl; rintro v' m' B' hm' ⟨rfl, rfl, W2, hW2, rfl⟩; skip; (try (have hq0 : hm' = Mem.le_refl _ := rfl; clear hq0 hm'))) | (refine zsp ?_ ?_ <;> (intro hc; (try simp only [zhcs, reduceCtorEq] at hc); (try (exfalso; first | omega | contradiction | omega | exact absurd rfl hc | exact absurd (by decide) hc))))))
    all_goals ((first | (with_reducible apply At.retB0 (B := [oL p c W2])) | (with_reducible apply At.retR0 (B := [oL p c W2]))); exact rfl; exact zml; exact zkp; exact ⟨rfl, rfl, _, hW2, rfl⟩)
  by_cases e2 : j < i
  · have s1 := fun (m : Mem) => swapR (m := m) p c (k - i) k j n W g5 (by omega) (by omega) hl
    have w2 : IntKind.wrap .i64 ((i : Int) - (j : Int)) = ((i - j : Nat) : Int) := by rw [show (i : Int) - (j : Int) = ((i - j : Nat) : Int) by omega]; exact IntWalk.i64_in _ (by omega)
    (repeat' (first | refine zss ?_ | ((first | (with_reducible first | apply At.val | apply AtQ.val)); (first | exact pr_sub (by rfl) (by rfl) w1 | exact pr_sub (by rfl) (by rfl) w2); exact rfl) | refine zsO ?_ | ((with_reducible first | apply At.c1 | apply At.c0); exact rfl; exact rfl; exact s1 _; exact ztk; kernel_rfl; rintro v' m' B' hm' ⟨rfl, rfl, W2, hW2, rfl⟩; skip; (try (have hq0 : hm' = Mem.le_refl _ := rfl; clear hq0 hm'))) | (refine zsp ?_ ?_ <;> (intro hc; (try simp only [zhcs, reduceCtorEq] at hc); (try (exfalso; first | omega | contradiction | omega | exact absurd rfl hc | exact absurd (by decide) hc))))))
    all_goals ((with_reducible refine At.reachk ((⟨i - j, j, W2⟩ : RS)) ?_ ?_ ?_ ?_); exact zsubs; exact zml; exact zente; exact ⟨⟨by show 1 ≤ i - j; omega, by show i - j ≤ k; omega, g3, g4, hW2⟩, by show i - j + j < i + j; omega⟩)
  · have s1 := fun (m : Mem) => swapR (m := m) p c (k - i) (k + j - i) i n W g5 (by omega) (by omega) hl
    have w2 : IntKind.wrap .i64 ((j : Int) - (i : Int)) = ((j - i : Nat) : Int) := by rw [show (j : Int) - (i : Int) = ((j - i : Nat) : Int) by omega]; exact IntWalk.i64_in _ (by omega)
    have w3 : IntKind.wrap .i64 ((k : Int) + (j : Int)) = ((k + j : Nat) : Int) := by rw [← Int.natCast_add]; exact IntWalk.i64_in _ (by omega)
    have w4 : IntKind.wrap .i64 (((k + j : Nat) : Int) - (i : Int)) = ((k + j - i : Nat) : Int) := by rw [show ((k + j : Nat) : Int) - (i : Int) = ((k + j - i : Nat) : Int) by omega]; exact IntWalk.i64_in _ (by omega)
    (repeat' (first | refine zss ?_ | ((first | (with_reducible first | apply At.val | apply AtQ.val)); (first | exact pr_sub (by rfl) (by rfl) w1 | exact pr_sub (by rfl) (by rfl) w2 | exact pr_add (by rfl) (by rfl) w3 | exact pr_sub (by rfl) (by rfl) w4); exact rfl) | refine zsO ?_ | ((with_reducible first | apply At.c1 | apply At.c0); exact rfl; exact rfl; exact s1 _; exact ztk; kernel_rfl; rintro v' m' B' hm' ⟨rfl, rfl, W2, hW2, rfl⟩; skip; (try (have hq0 : hm' = Mem.le_refl _ := rfl; clear hq0 hm'))) | (refine zsp ?_ ?_ <;> (intro hc; (try simp only [zhcs, reduceCtorEq] at hc); (try (exfalso; first | omega | contradiction | omega | exact absurd rfl hc | exact absurd (by decide) hc))))))
    all_goals ((with_reducible refine At.reachk ((⟨i, j - i, W2⟩ : RS)) ?_ ?_ ?_ ?_); exact zsubs; exact zml; exact zente; exact ⟨⟨g1, g2, by show 1 ≤ j - i; omega, by show k + (j - i) ≤ n; omega, hW2⟩, by show i + (j - i) < i + j; omega⟩)
/-- so many labels, whichever -/
def N (p : Option Addr) (c n : Nat) : Res := .ex (fun l : List Lab => l.length = n) (fun l => [oL p c l])
theorem N.close {p : Option Addr} {c n : Nat} {l : List Lab} (h : l.length = n) (Rest : List Res) : Ent (oL p c l :: Rest) (N p c n :: Rest) := Ent.closex (A := fun l : List Lab => [oL p c l]) l h
theorem toN {m : Mem} {f : FuncId} {args : Array Value} {p : Option Addr} {c n : Nat} (h : ∀ l : List Lab, l.length = n → Ct Try.prog f args m [oL p c l] (fun v m' B => PostN p c n v m m' B)) :
    Ct Try.prog f args m [N p c n] (fun v m' B => v = .tuple #[] ∧ m = m' ∧ B = [N p c n]) :=
  Ct.openx fun l hl => Ct.conv (h l hl) fun v m' B _ ⟨h1, h2, l2, hl2, h3⟩ => ⟨_, ⟨h1, h2, rfl⟩, fun Rest => by subst h3; exact N.close hl2 Rest⟩
theorem N.open {k : Nat} {w0 : World} {F : Fr} {m : Mem} {Rs0 Rs : List Res} {K : Go.Act → World → Prop} {p : Option Addr} {c n : Nat} (hp : Pick Rs0 (N p c n) Rs) (h : ∀ l : List Lab, l.length = n → At k w0 F m (oL p c l :: Rs) K) : At k w0 F m Rs0 K :=
  At.openx (I := fun l : List Lab => l.length = n) (A := fun l => [oL p c l]) hp h
structure BSt where
  (i j : Nat)
theorem half (x y : Nat) (d : Nat) (hd : (x + y) / 2 = d) (h : x + y ≤ 100000000) : IntKind.wrap .i64 ((x : Int) + (y : Int)) = ((x + y : Nat) : Int) ∧ IntKind.wrap .u64 ((x + y : Nat) : Int) = ((x + y : Nat) : Int) ∧ ((x + y : Nat) : Int) / 2 ^ (1 : Int).toNat = (d : Int) ∧ IntKind.wrap .i64 (d : Int) = (d : Int) ∧ IntKind.wrap .i64 ((d : Int) + 1) = ((d + 1 : Nat) : Int) ∧ IntKind.wrap .u64 (d : Int) = (d : Int) := by
  refine ⟨by rw [← Int.natCast_add]; exact IntWalk.i64_in _ (by omega), IntWalk.u64_in _ (by omega), by rw [← hd]; simp, IntWalk.i64_in _ (by omega), by rw [show (d : Int) + 1 = ((d + 1 : Nat) : Int) by omega]; exact IntWalk.i64_in _ (by omega), IntWalk.u64_in _ (by omega)⟩
end Lb
end Go.Proofs.Ytjncahmbllmllaa

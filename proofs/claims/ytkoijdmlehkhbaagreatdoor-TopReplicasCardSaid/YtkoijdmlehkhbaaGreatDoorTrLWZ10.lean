/- Part 10 of what the law's proof needs: rules of the walk, contracts of functions, plain laws. No condition. -/
import Derived.Test.YtkoijdmlehkhbaaGreatDoorTrLWZ9
set_option linter.unusedSimpArgs false
set_option linter.unusedVariables false
set_option linter.unusedSectionVars false
set_option maxRecDepth 20000
set_option maxHeartbeats 4000000
namespace Go.Proofs.YtkoijdmlehkhbaaGreatDoor
open Go Go.J
attribute [local irreducible] At AtQ AtM AtM1 PR Ct Pu Rd Res.blk Res.own Res.ex RVs RV So.N
namespace So
set_option maxHeartbeats 8000000 in
theorem symM (p : Option Addr) (c n : Nat) (hl : n ≤ 1000000) : ∀ (d : Nat) {m : Mem} (a k b : Nat) (l : List Slot), b - a ≤ d → l.length = n → a < k → k < b → b ≤ n →
    Ct Tryz.prog 229 #[.slice p n c, .int .i64 (a : Int), .int .i64 (k : Int), .int .i64 (b : Int), fnS] m [oS p c l] (fun v m' B => PostR p c (Mg Slot.w a k b l) v m m' B)
  | 0, m, a, k, b, l, hd, hn, h1, h2, hb => absurd hd (by omega)
  | d + 1, m, a, k, b, l, hd, hn, h1, h2, hb => by
    have ih := fun {m : Mem} => symM p c n hl d (m := m)
    have wi : IntKind.wrap .i64 ((k : Int) - (a : Int)) = ((k - a : Nat) : Int) := by rw [show (k : Int) - (a : Int) = ((k - a : Nat) : Int) by omega]; exact IntWalk.i64_in _ (by omega)
    have wj : IntKind.wrap .i64 ((b : Int) - (k : Int)) = ((b - k : Nat) : Int) := by rw [show (b : Int) - (k : Int) = ((b - k : Nat) : Int) by omega]; exact IntWalk.i64_in _ (by omega)
    by_cases c1 : k - a = 1
    · clear ih
      refine Ct.enterV (by rfl) Tryz.func229 rfl Tryz.ntmps229 rfl (fun w0 Rest => ?_)
      (repeat' (first | refine zss ?_ | ((first | (with_reducible first | apply At.val | apply AtQ.val)); (exact pr_sub (by rfl) (by rfl) wi); exact rfl) | refine zsO ?_ | (refine zsp ?_ ?_ <;> (intro hc; (try simp only [zhcs, reduceCtorEq] at hc); (try (exfalso; first | omega | contradiction | omega | exact absurd rfl hc | exact absurd (by decide) hc))))))
      (refine At.loopk (σ := BSt) [0, 1, 4] (fun s F0 => (10, .int .i64 (s.i : Int)) :: (11, .int .i64 (s.j : Int)) :: F0) (fun s => m) (fun s => oS p c l :: Rest) (fun s => (k ≤ s.i ∧ s.i ≤ s.j ∧ s.j ≤ b) ∧ (k < s.i → l[s.i - 1]!.w < l[a]!.w) ∧ (s.j < b → l[a]!.w ≤ l[s.j]!.w)) (fun s => s.j - s.i) ⟨k, b⟩ (by rfl) ?_ zsubs zml zente ?_)
      · exact ⟨⟨Nat.le_refl _, by show k ≤ b; omega, Nat.le_refl _⟩, fun h => absurd h (Nat.lt_irrefl _), fun h => absurd h (Nat.lt_irrefl _)⟩
      rintro ⟨i, j⟩ ⟨⟨g1, g2, g3⟩, gA, gB⟩
      dsimp only at g1 g2 g3 gA gB ⊢
      by_cases e : i < j
      · obtain ⟨x, hx⟩ : ∃ x, (i + j) / 2 = x := ⟨_, rfl⟩
        obtain ⟨u1, u2, u3, u4, u5, u6⟩ := half i j x hx (by omega)
        have hcm := fun (m : Mem) => sortA (m := m) (l[x]!) (l[a]!)
        by_cases e2 : cmpI l[x]!.w l[a]!.w < 0
        · have q1 := cmpI_lt.1 e2
          generalize cmpI l[x]!.w l[a]!.w = r at hcm e2
          (repeat' (first | ((with_reducible apply At.mixed (id := 5) 11 (.q 0 (.q 1 (.q 2 (.q 3 (.q 4 (.q 5 (.q 6 (.q 7 (.q 8 (.x 9 (.q 10 .done)))))))))))); exact rfl; kernel_rfl; kernel_rfl; kernel_rfl) | ((with_reducible apply At.mixed (id := 11) 18 (.q 0 (.q 1 (.q 2 (.q 3 (.q 4 (.q 5 (.q 6 (.q 7 (.q 8 (.q 9 (.q 10 (.q 11 (.q 12 (.q 13 (.q 14 (.x 15 (.q 16 (.x 17 .done))))))))))))))))))); exact rfl; kernel_rfl; kernel_rfl; kernel_rfl) | ((with_reducible apply At.mixed (id := 17) 12 (.q 0 (.q 1 (.q 2 (.q 3 (.q 4 (.q 5 (.q 6 (.q 7 (.q 8 (.x 9 (.q 10 (.q 11 .done))))))))))))); exact rfl; kernel_rfl; kernel_rfl; kernel_rfl) | ((with_reducible apply At.mixed (id := 23) 18 (.q 0 (.q 1 (.q 2 (.q 3 (.q 4 (.q 5 (.q 6 (.q 7 (.q 8 (.q 9 (.q 10 (.q 11 (.q 12 (.q 13 (.q 14 (.x 15 (.q 16 (.x 17 .done))))))))))))))))))); exact rfl; kernel_rfl; kernel_rfl; kernel_rfl) | ((with_reducible apply At.mixed (id := 35) 14 (.q 0 (.q 1 (.q 2 (.q 3 (.q 4 (.q 5 (.q 6 (.q 7 (.q 8 (.q 9 (.q 10 (.x 11 (.q 12 (.q 13 .done))))))))))))))); exact rfl; kernel_rfl; kernel_rfl; kernel_rfl) | refine zsx ?_ | refine zss ?_ | ((with_reducible apply AtM.bo); exact rfl; exact rfl; exact rfl) | ((first | (with_reducible first | apply At.val | apply AtQ.val) | ((with_reducible first | apply AtM1.valz | apply AtM1.val); exact rfl) | ((with_reducible apply AtM1.val); exact rfl)); (first | exact pr_add (by rfl) (by rfl) u1 | exact pr_add (by rfl) (by rfl) u5 | exact pr_conv ⟨_, rfl⟩ (by rfl) (by rfl) u2 | exact pr_shrv (by rfl) (by rfl) (by omega) (by decide) u3 | exact pr_conv ⟨_, rfl⟩ (by rfl) (by rfl) u4); exact rfl) | refine zsO ?_ | refine zxO ?_ | ((with_reducible apply At.callf); exact rfl; kernel_rfl; exact rfl; exact rfl; exact hcm _; exact ztk; rintro v' m' B' hm' ⟨rfl, rfl, rfl⟩; skip) | (refine zsp ?_ ?_ <;> (intro hc; (try simp only [zhcs, reduceCtorEq] at hc); (try (exfalso; first | omega | contradiction | omega | exact absurd rfl hc | exact absurd (by decide) hc))))))
          all_goals ((with_reducible refine At.reachk ((⟨x + 1, j⟩ : BSt)) ?_ ?_ ?_ ?_); exact zsubs; exact zml; exact zente; exact ⟨⟨⟨by show k ≤ x + 1; omega, by show x + 1 ≤ j; omega, g3⟩, fun _ => q1, gB⟩, by show j - (x + 1) < j - i; omega⟩)
        · have q1 : l[a]!.w ≤ l[x]!.w := Int.not_lt.1 fun h => e2 (cmpI_lt.2 h)
          generalize cmpI l[x]!.w l[a]!.w = r at hcm e2
          (repeat' (first | ((with_reducible apply At.mixed (id := 5) 11 (.q 0 (.q 1 (.q 2 (.q 3 (.q 4 (.q 5 (.q 6 (.q 7 (.q 8 (.x 9 (.q 10 .done)))))))))))); exact rfl; kernel_rfl; kernel_rfl; kernel_rfl) | ((with_reducible apply At.mixed (id := 11) 18 (.q 0 (.q 1 (.q 2 (.q 3 (.q 4 (.q 5 (.q 6 (.q 7 (.q 8 (.q 9 (.q 10 (.q 11 (.q 12 (.q 13 (.q 14 (.x 15 (.q 16 (.x 17 .done))))))))))))))))))); exact rfl; kernel_rfl; kernel_rfl; kernel_rfl) | ((with_reducible apply At.mixed (id := 17) 12 (.q 0 (.q 1 (.q 2 (.q 3 (.q 4 (.q 5 (.q 6 (.q 7 (.q 8 (.x 9 (.q 10 (.q 11 .done))))))))))))); exact rfl; kernel_rfl; kernel_rfl; kernel_rfl) | ((with_reducible apply At.mixed (id := 23) 18 (.q 0 (.q 1 (.q 2 (.q 3 (.q 4 (.q 5 (.q 6 (.q 7 (.q 8 (.q 9 (.q 10 (.q 11 (.q 12 (.q 13 (.q 14 (.x 15 (.q 16 (.x 17 .done))))))))))))))))))); exact rfl; kernel_rfl; kernel_rfl; kernel_rfl) | ((with_reducible apply At.mixed (id := 35) 14 (.q 0 (.q 1 (.q 2 (.q 3 (.q 4 (.q 5 (.q 6 (.q 7 (.q 8 (.q 9 (.q 10 (.x 11 (.q 12 (.q 13 .done))))))))))))))); exact rfl; kernel_rfl; kernel_rfl; kernel_rfl) | refine zsx ?_ | refine zss ?_ | ((with_reducible apply AtM.bo); exact rfl; exact rfl; exact rfl) | ((first | (with_reducible first | apply At.val | apply AtQ.val) | ((with_reducible first | apply AtM1.valz | apply AtM1.val); exact rfl) | ((with_reducible apply AtM1.val); exact rfl)); (first | exact pr_add (by rfl) (by rfl) u1 | exact pr_add (by rfl) (by rfl) u5 | exact pr_conv ⟨_, rfl⟩ (by rfl) (by rfl) u2 | exact pr_shrv (by rfl) (by rfl) (by omega) (by decide) u3 | exact pr_conv ⟨_, rfl⟩ (by rfl) (by rfl) u4); exact rfl) | refine zsO ?_ | refine zxO ?_ | ((with_reducible apply At.callf); exact rfl; kernel_rfl; exact rfl; exact rfl; exact hcm _; exact ztk; rintro v' m' B' hm' ⟨rfl, rfl, rfl⟩; skip) | (refine zsp ?_ ?_ <;> (intro hc; (try simp only [zhcs, reduceCtorEq] at hc); (try (exfalso; first | omega | contradiction | omega | exact absurd rfl hc | exact absurd (by decide) hc))))))
          all_goals ((with_reducible refine At.reachk ((⟨i, x⟩ : BSt)) ?_ ?_ ?_ ?_); exact zsubs; exact zml; exact zente; exact ⟨⟨⟨g1, by show i ≤ x; omega, by show x ≤ b; omega⟩, gA, fun _ => q1⟩, by show x - i < j - i; omega⟩)
      · have eij : i = j := by omega
        subst eij
        have wq : IntKind.wrap .i64 ((i : Int) - 1) = ((i - 1 : Nat) : Int) := by rw [show (i : Int) - 1 = ((i - 1 : Nat) : Int) by omega]; exact IntWalk.i64_in _ (by omega)
        (repeat' (first | refine zss ?_ | refine zsO ?_ | (refine zsp ?_ ?_ <;> (intro hc; (try simp only [zhcs, reduceCtorEq] at hc); (try (exfalso; first | omega | contradiction | omega | exact absurd rfl hc | exact absurd (by decide) hc))))))
        (refine At.loopk (σ := NS) [0, 10] (fun s F0 => (13, .int .i64 (s.i : Int)) :: F0) (fun s => m) (fun s => oS p c s.L :: Rest) (fun s => (a ≤ s.i ∧ s.i ≤ i - 1) ∧ Mv a b l s.L ∧ ∀ q, s.L[q]! = shl a s.i (fun q => l[q]!) q) (fun s => n - s.i) ⟨a, l⟩ (by rfl) ?_ zsubs zml zente ?_)
        · exact ⟨⟨Nat.le_refl _, by show a ≤ i - 1; omega⟩, Mv.refl _ _ _, fun q => (shl_zero a _ q).symm⟩
        rintro ⟨q, W⟩ ⟨⟨f1, f1'⟩, fM, fW⟩
        dsimp only at f1 f1' fM fW ⊢
        have f2 : W.length = n := fM.len.trans hn
        by_cases eq : q < i - 1
        · have hN : Mv a b l (swp W q (q + 1)) := fM.trans (Mv.swp (by omega) (by omega) (by omega))
          have hQ : ∀ u, (swp W q (q + 1))[u]! = shl a (q + 1) (fun q => l[q]!) u := fun u => by
            rw [swp_get (by omega) (by omega), shl_step _ f1, fW, fW, fW]
          clear fM fW gA gB
          unfold swp at hN hQ
          (repeat' (first | ((with_reducible apply At.mixed (id := 5) 11 (.q 0 (.q 1 (.q 2 (.q 3 (.q 4 (.q 5 (.q 6 (.q 7 (.q 8 (.x 9 (.q 10 .done)))))))))))); exact rfl; kernel_rfl; kernel_rfl; kernel_rfl) | ((with_reducible apply At.mixed (id := 11) 18 (.q 0 (.q 1 (.q 2 (.q 3 (.q 4 (.q 5 (.q 6 (.q 7 (.q 8 (.q 9 (.q 10 (.q 11 (.q 12 (.q 13 (.q 14 (.x 15 (.q 16 (.x 17 .done))))))))))))))))))); exact rfl; kernel_rfl; kernel_rfl; kernel_rfl) | ((with_reducible apply At.mixed (id := 17) 12 (.q 0 (.q 1 (.q 2 (.q 3 (.q 4 (.q 5 (.q 6 (.q 7 (.q 8 (.x 9 (.q 10 (.q 11 .done))))))))))))); exact rfl; kernel_rfl; kernel_rfl; kernel_rfl) | ((with_reducible apply At.mixed (id := 23) 18 (.q 0 (.q 1 (.q 2 (.q 3 (.q 4 (.q 5 (.q 6 (.q 7 (.q 8 (.q 9 (.q 10 (.q 11 (.q 12 (.q 13 (.q 14 (.x 15 (.q 16 (.x 17 .done))))))))))))))))))); exact rfl; kernel_rfl; kernel_rfl; kernel_rfl) | ((with_reducible apply At.mixed (id := 35) 14 (.q 0 (.q 1 (.q 2 (.q 3 (.q 4 (.q 5 (.q 6 (.q 7 (.q 8 (.q 9 (.q 10 (.x 11 (.q 12 (.q 13 .done))))))))))))))); exact rfl; kernel_rfl; kernel_rfl; kernel_rfl) | refine zsx ?_ | refine zss ?_ | ((with_reducible apply AtM.bo); exact rfl; exact rfl; exact rfl) | ((first | (with_reducible first | apply At.val | apply AtQ.val) | ((with_reducible first | apply AtM1.valz | apply AtM1.val); exact rfl) | ((with_reducible apply AtM1.val); exact rfl)); (exact pr_sub (by rfl) (by rfl) wq); exact rfl) | refine zsO ?_ | refine zxO ?_ | ((with_reducible apply At.storeW (f := cells) (x' := (W[q + 1]!))); (case hx => exact rfl); (case hy => exact rfl); (case hv => exact rfl); (case hp => exact (by repeat constructor)); (case hr => exact rfl); (case hf => exact inferInstance); (case hk => exact zom); (case hs => exact rfl); (case hq => exact rfl); (case h1 => exact rfl)) | ((with_reducible apply At.storeW (f := cells) (x' := (W[q]!))); (case hx => exact rfl); (case hy => exact rfl); (case hv => exact rfl); (case hp => exact (by repeat constructor)); (case hr => exact rfl); (case hf => exact inferInstance); (case hk => exact zom); (case hs => exact rfl); (case hq => exact rfl); (case h1 => exact rfl)) | (refine zsp ?_ ?_ <;> (intro hc; (try simp only [zhcs, reduceCtorEq] at hc); (try (exfalso; first | omega | contradiction | omega | exact absurd rfl hc | exact absurd (by decide) hc))))))
          all_goals ((with_reducible refine At.reachk ((⟨q + 1, (W.set q (W[q + 1]!)).set (q + 1) (W[q]!)⟩ : NS)) ?_ ?_ ?_ ?_); exact zsubs; exact zml; exact zente; exact ⟨⟨⟨by show a ≤ q + 1; omega, by show q + 1 ≤ i - 1; omega⟩, hN, hQ⟩, by show n - (q + 1) < n - q; omega⟩)
        · have eqi : q = i - 1 := by omega
          subst eqi
          have ek : k = a + 1 := by omega
          subst ek
          have fin : Mg Slot.w a (a + 1) b l W := ⟨fM, fun _ hs => shl_srt (i := i) (by omega) g3 fW hs gA gB⟩
          clear fM fW gA gB
          (repeat' (first | refine zss ?_ | ((first | (with_reducible first | apply At.val | apply AtQ.val)); (exact pr_sub (by rfl) (by rfl) wq); exact rfl) | refine zsO ?_ | (refine zsp ?_ ?_ <;> (intro hc; (try simp only [zhcs, reduceCtorEq] at hc); (try (exfalso; first | omega | contradiction | omega | exact absurd rfl hc | exact absurd (by decide) hc))))))
          all_goals ((first | (with_reducible apply At.retB0 (B := [oS p c W])) | (with_reducible apply At.retR0 (B := [oS p c W]))); exact rfl; exact zml; exact zkp; exact ⟨rfl, rfl, _, fin, rfl⟩)
    by_cases c2 : b - k = 1
    · clear ih
      refine Ct.enterV (by rfl) Tryz.func229 rfl Tryz.ntmps229 rfl (fun w0 Rest => ?_)
      (repeat' (first | refine zss ?_ | ((first | (with_reducible first | apply At.val | apply AtQ.val)); (first | exact pr_sub (by rfl) (by rfl) wi | exact pr_sub (by rfl) (by rfl) wj); exact rfl) | refine zsO ?_ | (refine zsp ?_ ?_ <;> (intro hc; (try simp only [zhcs, reduceCtorEq] at hc); (try (exfalso; first | omega | contradiction | omega | exact absurd rfl hc | exact absurd (by decide) hc))))))
      (refine At.loopk (σ := BSt) [0, 2, 4] (fun s F0 => (14, .int .i64 (s.i : Int)) :: (15, .int .i64 (s.j : Int)) :: F0) (fun s => m) (fun s => oS p c l :: Rest) (fun s => (a ≤ s.i ∧ s.i ≤ s.j ∧ s.j ≤ k) ∧ (a < s.i → l[s.i - 1]!.w ≤ l[k]!.w) ∧ (s.j < k → l[k]!.w < l[s.j]!.w)) (fun s => s.j - s.i) ⟨a, k⟩ (by rfl) ?_ zsubs zml zente ?_)
      · exact ⟨⟨Nat.le_refl _, by show a ≤ k; omega, Nat.le_refl _⟩, fun h => absurd h (Nat.lt_irrefl _), fun h => absurd h (Nat.lt_irrefl _)⟩
      rintro ⟨i, j⟩ ⟨⟨g1, g2, g3⟩, gA, gB⟩
      dsimp only at g1 g2 g3 gA gB ⊢
      by_cases e : i < j
      · obtain ⟨x, hx⟩ : ∃ x, (i + j) / 2 = x := ⟨_, rfl⟩
        obtain ⟨u1, u2, u3, u4, u5, u6⟩ := half i j x hx (by omega)
        have hcm := fun (m : Mem) => sortA (m := m) (l[k]!) (l[x]!)
        by_cases e2 : cmpI l[k]!.w l[x]!.w < 0
        · have q1 := cmpI_lt.1 e2
          generalize cmpI l[k]!.w l[x]!.w = r at hcm e2
          (repeat' (first | ((with_reducible apply At.mixed (id := 5) 11 (.q 0 (.q 1 (.q 2 (.q 3 (.q 4 (.q 5 (.q 6 (.q 7 (.q 8 (.x 9 (.q 10 .done)))))))))))); exact rfl; kernel_rfl; kernel_rfl; kernel_rfl) | ((with_reducible apply At.mixed (id := 11) 18 (.q 0 (.q 1 (.q 2 (.q 3 (.q 4 (.q 5 (.q 6 (.q 7 (.q 8 (.q 9 (.q 10 (.q 11 (.q 12 (.q 13 (.q 14 (.x 15 (.q 16 (.x 17 .done))))))))))))))))))); exact rfl; kernel_rfl; kernel_rfl; kernel_rfl) | ((with_reducible apply At.mixed (id := 17) 12 (.q 0 (.q 1 (.q 2 (.q 3 (.q 4 (.q 5 (.q 6 (.q 7 (.q 8 (.x 9 (.q 10 (.q 11 .done))))))))))))); exact rfl; kernel_rfl; kernel_rfl; kernel_rfl) | ((with_reducible apply At.mixed (id := 23) 18 (.q 0 (.q 1 (.q 2 (.q 3 (.q 4 (.q 5 (.q 6 (.q 7 (.q 8 (.q 9 (.q 10 (.q 11 (.q 12 (.q 13 (.q 14 (.x 15 (.q 16 (.x 17 .done))))))))))))))))))); exact rfl; kernel_rfl; kernel_rfl; kernel_rfl) | ((with_reducible apply At.mixed (id := 35) 14 (.q 0 (.q 1 (.q 2 (.q 3 (.q 4 (.q 5 (.q 6 (.q 7 (.q 8 (.q 9 (.q 10 (.x 11 (.q 12 (.q 13 .done))))))))))))))); exact rfl; kernel_rfl; kernel_rfl; kernel_rfl) | refine zsx ?_ | refine zss ?_ | ((with_reducible apply AtM.bo); exact rfl; exact rfl; exact rfl) | ((first | (with_reducible first | apply At.val | apply AtQ.val) | ((with_reducible first | apply AtM1.valz | apply AtM1.val); exact rfl) | ((with_reducible apply AtM1.val); exact rfl)); (first | exact pr_add (by rfl) (by rfl) u1 | exact pr_add (by rfl) (by rfl) u5 | exact pr_conv ⟨_, rfl⟩ (by rfl) (by rfl) u2 | exact pr_shrv (by rfl) (by rfl) (by omega) (by decide) u3 | exact pr_conv ⟨_, rfl⟩ (by rfl) (by rfl) u4); exact rfl) | refine zsO ?_ | refine zxO ?_ | ((with_reducible apply At.callf); exact rfl; kernel_rfl; exact rfl; exact rfl; exact hcm _; exact ztk; rintro v' m' B' hm' ⟨rfl, rfl, rfl⟩; skip) | (refine zsp ?_ ?_ <;> (intro hc; (try simp only [zhcs, reduceCtorEq] at hc); (try (exfalso; first | omega | contradiction | omega | exact absurd rfl hc | exact absurd (by decide) hc))))))
          all_goals ((with_reducible refine At.reachk ((⟨i, x⟩ : BSt)) ?_ ?_ ?_ ?_); exact zsubs; exact zml; exact zente; exact ⟨⟨⟨g1, by show i ≤ x; omega, by show x ≤ k; omega⟩, gA, fun _ => q1⟩, by show x - i < j - i; omega⟩)
        · have q1 : l[x]!.w ≤ l[k]!.w := Int.not_lt.1 fun h => e2 (cmpI_lt.2 h)
          generalize cmpI l[k]!.w l[x]!.w = r at hcm e2
          (repeat' (first | ((with_reducible apply At.mixed (id := 5) 11 (.q 0 (.q 1 (.q 2 (.q 3 (.q 4 (.q 5 (.q 6 (.q 7 (.q 8 (.x 9 (.q 10 .done)))))))))))); exact rfl; kernel_rfl; kernel_rfl; kernel_rfl) | ((with_reducible apply At.mixed (id := 11) 18 (.q 0 (.q 1 (.q 2 (.q 3 (.q 4 (.q 5 (.q 6 (.q 7 (.q 8 (.q 9 (.q 10 (.q 11 (.q 12 (.q 13 (.q 14 (.x 15 (.q 16 (.x 17 .done))))))))))))))))))); exact rfl; kernel_rfl; kernel_rfl; kernel_rfl) | ((with_reducible apply At.mixed (id := 17) 12 (.q 0 (.q 1 (.q 2 (.q 3 (.q 4 (.q 5 (.q 6 (.q 7 (.q 8 (.x 9 (.q 10 (.q 11 .done))))))))))))); exact rfl; kernel_rfl; kernel_rfl; kernel_rfl) | ((with_reducible apply At.mixed (id := 23) 18 (.q 0 (.q 1 (.q 2 (.q 3 (.q 4 (.q 5 (.q 6 (.q 7 (.q 8 (.q 9 (.q 10 (.q 11 (.q 12 (.q 13 (.q 14 (.x 15 (.q 16 (.x 17 .done))))))))))))))))))); exact rfl; kernel_rfl; kernel_rfl; kernel_rfl) | ((with_reducible apply At.mixed (id := 35) 14 (.q 0 (.q 1 (.q 2 (.q 3 (.q 4 (.q 5 (.q 6 (.q 7 (.q 8 (.q 9 (.q 10 (.x 11 (.q 12 (.q 13 .done))))))))))))))); exact rfl; kernel_rfl; kernel_rfl; kernel_rfl) | refine zsx ?_ | refine zss ?_ | ((with_reducible apply AtM.bo); exact rfl; exact rfl; exact rfl) | ((first | (with_reducible first | apply At.val | apply AtQ.val) | ((with_reducible first | apply AtM1.valz | apply AtM1.val); exact rfl) | ((with_reducible apply AtM1.val); exact rfl)); (first | exact pr_add (by rfl) (by rfl) u1 | exact pr_add (by rfl) (by rfl) u5 | exact pr_conv ⟨_, rfl⟩ (by rfl) (by rfl) u2 | exact pr_shrv (by rfl) (by rfl) (by omega) (by decide) u3 | exact pr_conv ⟨_, rfl⟩ (by rfl) (by rfl) u4); exact rfl) | refine zsO ?_ | refine zxO ?_ | ((with_reducible apply At.callf); exact rfl; kernel_rfl; exact rfl; exact rfl; exact hcm _; exact ztk; rintro v' m' B' hm' ⟨rfl, rfl, rfl⟩; skip) | (refine zsp ?_ ?_ <;> (intro hc; (try simp only [zhcs, reduceCtorEq] at hc); (try (exfalso; first | omega | contradiction | omega | exact absurd rfl hc | exact absurd (by decide) hc))))))
          all_goals ((with_reducible refine At.reachk ((⟨x + 1, j⟩ : BSt)) ?_ ?_ ?_ ?_); exact zsubs; exact zml; exact zente; exact ⟨⟨⟨by show a ≤ x + 1; omega, by show x + 1 ≤ j; omega, g3⟩, fun _ => q1, gB⟩, by show j - (x + 1) < j - i; omega⟩)
      · have eij : i = j := by omega
        subst eij
        (repeat' (first | refine zss ?_ | refine zsO ?_ | (refine zsp ?_ ?_ <;> (intro hc; (try simp only [zhcs, reduceCtorEq] at hc); (try (exfalso; first | omega | contradiction | omega | exact absurd rfl hc | exact absurd (by decide) hc))))))
        (refine At.loopk (σ := NS) [0, 14] (fun s F0 => (17, .int .i64 (s.i : Int)) :: F0) (fun s => m) (fun s => oS p c s.L :: Rest) (fun s => (i ≤ s.i ∧ s.i ≤ k) ∧ Mv a b l s.L ∧ ∀ q, s.L[q]! = shr s.i k (fun q => l[q]!) q) (fun s => s.i) ⟨k, l⟩ (by rfl) ?_ zsubs zml zente ?_)
        · exact ⟨⟨g3, Nat.le_refl _⟩, Mv.refl _ _ _, fun q => (shr_zero k _ q).symm⟩
        rintro ⟨q, W⟩ ⟨⟨f0, f1⟩, fM, fW⟩
        dsimp only at f0 f1 fM fW ⊢
        have f2 : W.length = n := fM.len.trans hn
        by_cases eq : i < q
        · obtain ⟨q, rfl⟩ : ∃ x, q = x + 1 := ⟨q - 1, by omega⟩
          have wq : IntKind.wrap .i64 (((q + 1 : Nat) : Int) - 1) = (q : Int) := by rw [show ((q + 1 : Nat) : Int) - 1 = (q : Int) by omega]; exact IntWalk.i64_in _ (by omega)
          have hN : Mv a b l (swp W (q + 1) q) := fM.trans (Mv.swp (by omega) (by omega) (by omega))
          have hQ : ∀ u, (swp W (q + 1) q)[u]! = shr q k (fun q => l[q]!) u := fun u => by
            rw [swp_get (by omega) (by omega), shr_step (k := q) _ f1, fW, fW, fW]
          clear fM fW gA gB
          unfold swp at hN hQ
          (repeat' (first | ((with_reducible apply At.mixed (id := 5) 11 (.q 0 (.q 1 (.q 2 (.q 3 (.q 4 (.q 5 (.q 6 (.q 7 (.q 8 (.x 9 (.q 10 .done)))))))))))); exact rfl; kernel_rfl; kernel_rfl; kernel_rfl) | ((with_reducible apply At.mixed (id := 11) 18 (.q 0 (.q 1 (.q 2 (.q 3 (.q 4 (.q 5 (.q 6 (.q 7 (.q 8 (.q 9 (.q 10 (.q 11 (.q 12 (.q 13 (.q 14 (.x 15 (.q 16 (.x 17 .done))))))))))))))))))); exact rfl; kernel_rfl; kernel_rfl; kernel_rfl) | ((with_reducible apply At.mixed (id := 17) 12 (.q 0 (.q 1 (.q 2 (.q 3 (.q 4 (.q 5 (.q 6 (.q 7 (.q 8 (.x 9 (.q 10 (.q 11 .done))))))))))))); exact rfl; kernel_rfl; kernel_rfl; kernel_rfl) | ((with_reducible apply At.mixed (id := 23) 18 (.q 0 (.q 1 (.q 2 (.q 3 (.q 4 (.q 5 (.q 6 (.q 7 (.q 8 (.q 9 (.q 10 (.q 11 (.q 12 (.q 13 (.q 14 (.x 15 (.q 16 (.x 17 .done))))))))))))))))))); exact rfl; kernel_rfl; kernel_rfl; kernel_rfl) | ((with_reducible apply At.mixed (id := 35) 14 (.q 0 (.q 1 (.q 2 (.q 3 (.q 4 (.q 5 (.q 6 (.q 7 (.q 8 (.q 9 (.q 10 (.x 11 (.q 12 (.q 13 .done))))))))))))))); exact rfl; kernel_rfl; kernel_rfl; kernel_rfl) | refine zsx ?_ | refine zss ?_ | ((with_reducible apply AtM.bo); exact rfl; exact rfl; exact rfl) | ((first | (with_reducible first | apply At.val | apply AtQ.val) | ((with_reducible first | apply AtM1.valz | apply AtM1.val); exact rfl) | ((with_reducible apply AtM1.val); exact rfl)); (exact pr_sub (by rfl) (by rfl) wq); exact rfl) | refine zsO ?_ | refine zxO ?_ | ((with_reducible apply At.storeW (f := cells) (x' := (W[q]!))); (case hx => exact rfl); (case hy => exact rfl); (case hv => exact rfl); (case hp => exact (by repeat constructor)); (case hr => exact rfl); (case hf => exact inferInstance); (case hk => exact zom); (case hs => exact rfl); (case hq => exact rfl); (case h1 => exact rfl)) | ((with_reducible apply At.storeW (f := cells) (x' := (W[q + 1]!))); (case hx => exact rfl); (case hy => exact rfl); (case hv => exact rfl); (case hp => exact (by repeat constructor)); (case hr => exact rfl); (case hf => exact inferInstance); (case hk => exact zom); (case hs => exact rfl); (case hq => exact rfl); (case h1 => exact rfl)) | (refine zsp ?_ ?_ <;> (intro hc; (try simp only [zhcs, reduceCtorEq] at hc); (try (exfalso; first | omega | contradiction | omega | exact absurd rfl hc | exact absurd (by decide) hc))))))
          all_goals ((with_reducible refine At.reachk ((⟨q, (W.set (q + 1) (W[q]!)).set q (W[q + 1]!)⟩ : NS)) ?_ ?_ ?_ ?_); exact zsubs; exact zml; exact zente; exact ⟨⟨⟨by show i ≤ q; omega, by show q ≤ k; omega⟩, hN, hQ⟩, by show q < q + 1; omega⟩)
        · have eqi : q = i := by omega
          subst eqi
          have eb : b = k + 1 := by omega
          subst eb
          have fin : Mg Slot.w a k (k + 1) l W := ⟨fM, fun hs _ => shr_srt (i := q) (m := k) g1 f1 fW hs gA gB⟩
          clear fM fW gA gB
          (repeat' (first | refine zss ?_ | refine zsO ?_ | (refine zsp ?_ ?_ <;> (intro hc; (try simp only [zhcs, reduceCtorEq] at hc); (try (exfalso; first | omega | contradiction | omega | exact absurd rfl hc | exact absurd (by decide) hc))))))
          all_goals ((first | (with_reducible apply At.retB0 (B := [oS p c W])) | (with_reducible apply At.retR0 (B := [oS p c W]))); exact rfl; exact zml; exact zkp; exact ⟨rfl, rfl, _, fin, rfl⟩)
    exact symG p c n d a k b l hl hd hn h1 h2 hb c1 c2 wi wj ih
theorem same_blk {w a i j : Nat} (ha : a % w = 0) (h1 : a ≤ i) (h2 : i < a + w) (h3 : a ≤ j) (h4 : j < a + w) : i / w = j / w := by
  have e := Nat.div_add_mod a w
  rw [ha, Nat.add_zero, Nat.mul_comm] at e
  have k1 : i / w = a / w := Nat.div_eq_of_lt_le (by omega) (by rw [Nat.succ_mul]; omega)
  have k2 : j / w = a / w := Nat.div_eq_of_lt_le (by omega) (by rw [Nat.succ_mul]; omega)
  rw [k1, k2]
theorem blk_ge {w a i j : Nat} (hw : 0 < w) (ha : a % w = 0) (h : a ≤ j) (e : i / w = j / w) : a ≤ i := by
  have e1 := Nat.div_add_mod a w
  rw [ha, Nat.add_zero, Nat.mul_comm] at e1
  have k1 : a / w ≤ j / w := Nat.div_le_div_right h
  rw [← e] at k1
  have := (Nat.le_div_iff_mul_le hw).1 k1
  omega
def B0 (n : Nat) (l : List Slot) (a : Nat) (L : List Slot) : Prop := L.length = n ∧ L.Perm l ∧ ∀ i j, i < j → j < a → i / 20 = j / 20 → L[i]!.w ≤ L[j]!.w
def B1 (n : Nat) (l : List Slot) (w : Nat) (L : List Slot) : Prop := L.length = n ∧ L.Perm l ∧ Blk Slot.w w L
def B2 (n : Nat) (l : List Slot) (w a : Nat) (L : List Slot) : Prop := L.length = n ∧ L.Perm l ∧ Two Slot.w a w L
theorem b0_step {n : Nat} {l L M : List Slot} {a b : Nat} (h : B0 n l a L) (ha : a % 20 = 0) (hM : Mv a b L M) (hS : Srt Slot.w a b M) : B0 n l b M :=
  ⟨hM.len.trans h.1, hM.perm.trans h.2.1, fun i j h1 h2 h3 => by
    by_cases hj : j < a
    · rw [hM.out i (.inl (by omega)), hM.out j (.inl hj)]; exact h.2.2 i j h1 hj h3
    · exact hS i j (blk_ge (by decide) ha (by omega) h3) h1 h2⟩
theorem b2_step {n w : Nat} {l L M : List Slot} {a b : Nat} (h : B2 n l w a L) (hw : 0 < w) (ha : a % (2 * w) = 0) (hb : b = a + 2 * w ∨ b = n) (hbn : b ≤ n) (h1 : a + w < b) (h2 : b ≤ a + 2 * w) (hM : Mg Slot.w a (a + w) b L M) : B2 n l w b M := by
  have ha2 : a % w = 0 := Nat.mod_eq_zero_of_dvd (Nat.dvd_trans (Nat.dvd_mul_left w 2) (Nat.dvd_of_mod_eq_zero ha))
  have ha3 : (a + w) % w = 0 := by rw [Nat.add_mod_right, ha2]
  have hS : Srt Slot.w a b M := hM.2 (fun i j i1 i2 i3 => h.2.2.2 i j i1 i2 (by rw [h.1]; omega) (same_blk ha2 i1 (by omega) (by omega) i3)) (fun i j i1 i2 i3 => h.2.2.2 i j (by omega) i2 (by rw [h.1]; omega) (same_blk ha3 i1 (by omega) (by omega) (by omega)))
  refine ⟨hM.1.len.trans h.1, hM.1.perm.trans h.2.1, fun i j i1 i2 i3 => ?_, fun i j i1 i2 i3 i4 => ?_⟩
  · by_cases hj : j < a
    · rw [hM.1.out i (.inl (by omega)), hM.1.out j (.inl hj)]; exact h.2.2.1 i j i1 hj i3
    · exact hS i j (blk_ge (by omega) ha (by omega) i3) i1 i2
  · rw [hM.1.out i (.inr i1), hM.1.out j (.inr (by omega))]
    rw [hM.1.len] at i3
    exact h.2.2.2 i j (by omega) i2 i3 i4
theorem b2_end {n w a : Nat} {l L : List Slot} (h : B2 n l w a L) (hw : 0 < w) (ha : a % (2 * w) = 0) (h1 : n ≤ a + w) : B1 n l (w * 2) L := by
  have ha2 : a % w = 0 := Nat.mod_eq_zero_of_dvd (Nat.dvd_trans (Nat.dvd_mul_left w 2) (Nat.dvd_of_mod_eq_zero ha))
  refine ⟨h.1, h.2.1, fun i j i1 i2 i3 => ?_⟩
  rw [Nat.mul_comm w 2] at i3
  have hln := h.1
  by_cases hj : j < a
  · exact h.2.2.1 i j i1 hj i3
  · have hi := blk_ge (by omega) ha (show a ≤ j by omega) i3
    exact h.2.2.2 i j hi i1 i2 (same_blk ha2 hi (by omega) (by omega) (by omega))
theorem b2_all {n w : Nat} {l L : List Slot} (h : B2 n l w n L) : B1 n l (w * 2) L :=
  ⟨h.1, h.2.1, fun i j i1 i2 i3 => by rw [Nat.mul_comm w 2] at i3; exact h.2.2.1 i j i1 (h.1 ▸ i2) i3⟩
theorem b1_two {n w : Nat} {l L : List Slot} (h : B1 n l w L) : B2 n l w 0 L := ⟨h.1, h.2.1, fun i j _ h2 _ => absurd h2 (Nat.not_lt_zero _), fun i j _ h2 h3 h4 => h.2.2 i j h2 h3 h4⟩
theorem b0_one {n : Nat} {l L : List Slot} (h : B0 n l n L) : B1 n l 20 L := ⟨h.1, h.2.1, fun i j h1 h2 h3 => h.2.2 i j h1 (h.1 ▸ h2) h3⟩
theorem b1_srt {n w : Nat} {l L : List Slot} (h : B1 n l w L) (hw : n ≤ w) : L.Perm l ∧ Srt Slot.w 0 n L := ⟨h.2.1, fun i j _ h2 h3 => h.2.2 i j h2 (h.1.symm ▸ h3) (by rw [Nat.div_eq_of_lt (by omega), Nat.div_eq_of_lt (by omega)])⟩
set_option maxHeartbeats 2000000 in
theorem stableG {m : Mem} (p : Option Addr) (c n : Nat) (l : List Slot) (hn : l.length = n) (hl : n ≤ 1000000) :
    Ct Tryz.prog 225 #[.slice p n c, .int .i64 (n : Int), fnS] m [N p c (fun L => L = l)] (fun v m' B => v = .tuple #[] ∧ m = m' ∧ B = [N p c (fun L => L.Perm l ∧ Srt Slot.w 0 n L)]) := by
  have r1 := fun {m : Mem} (a b : Nat) (ha : a ≤ n) (hb : b ≤ n) (ha2 : a % 20 = 0) => toN (m := m) (p := p) (c := c) (Φ := B0 n l a) (Ψ := B0 n l b) fun L hL => postR_mono (fun M hM => b0_step hL ha2 hM.1 hM.2) (insG p c a b n L hL.1 hb ha hl)
  have r2 := fun {m : Mem} (w a b : Nat) (hw : 0 < w) (ha : a % (2 * w) = 0) (hb : b = a + 2 * w ∨ b = n) (h1 : a + w < b) (h2 : b ≤ a + 2 * w) (h3 : b ≤ n) => toN (m := m) (p := p) (c := c) (Φ := B2 n l w a) (Ψ := B2 n l w b) fun L hL => postR_mono (fun M hM => b2_step hL hw ha hb h3 h1 h2 hM) (symM p c n hl (b - a) a (a + w) b L (Nat.le_refl _) hL.1 (by omega) h1 h3)
  have z0 : ∀ L, L = l → B0 n l 0 L := fun L hL => by subst hL; exact ⟨hn, List.Perm.refl _, fun i j _ h _ => absurd h (Nat.not_lt_zero _)⟩
  refine Ct.enterV (by rfl) Tryz.func225 rfl Tryz.ntmps225 rfl (fun w0 Rest => ?_)
  (repeat' (first | refine zss ?_ | refine zsO ?_ | (refine zsp ?_ ?_ <;> (intro hc; (try simp only [zhcs, reduceCtorEq] at hc); (try (exfalso; first | contradiction | omega | exact absurd rfl hc | exact absurd (by decide) hc))))))
  refine At.ent (N.mono z0 _) ?_
  (refine At.loopk (σ := Nat) [0, 1, 2, 6] (fun s F0 => (7, .int .i64 (s : Int)) :: (8, .int .i64 ((s + 20 : Nat) : Int)) :: F0) (fun s => m) (fun s => N p c (B0 n l s) :: Rest) (fun s => s ≤ n ∧ s % 20 = 0) (fun s => n - s) 0 (by rfl) ?_ zsubs zml zente ?_)
  · exact ⟨Nat.zero_le _, rfl⟩
  rintro a ⟨ha, ha2⟩
  by_cases h : a + 20 ≤ n
  · (repeat' (first | refine zss ?_ | refine zsO ?_ | ((with_reducible first | apply At.c1 | apply At.c0); exact rfl; exact rfl; exact r1 a (a + 20) (by omega) h ha2; exact ztk; kernel_rfl; rintro v' m' B' hm' ⟨rfl, rfl, rfl⟩; skip; (try (have hq0 : hm' = Mem.le_refl _ := rfl; clear hq0 hm'))) | (refine zsp ?_ ?_ <;> (intro hc; (try simp only [zhcs, reduceCtorEq] at hc); (try (exfalso; first | omega | contradiction | omega | exact absurd rfl hc | exact absurd (by decide) hc))))))
    all_goals ((with_reducible refine At.reachk ((a + 20)) ?_ ?_ ?_ ?_); exact zsubs; exact zml; exact zente; exact ⟨⟨h, by omega⟩, by omega⟩)
  · (repeat' (first | refine zss ?_ | refine zsO ?_ | ((with_reducible first | apply At.c1 | apply At.c0); exact rfl; exact rfl; exact r1 a n ha (Nat.le_refl _) ha2; exact ztk; kernel_rfl; rintro v' m' B' hm' ⟨rfl, rfl, rfl⟩; skip; (try (have hq0 : hm' = Mem.le_refl _ := rfl; clear hq0 hm'))) | (refine zsp ?_ ?_ <;> (intro hc; (try simp only [zhcs, reduceCtorEq] at hc); (try (exfalso; first | omega | contradiction | omega | exact absurd rfl hc | exact absurd (by decide) hc))))))
    refine At.ent (N.mono (fun L hL => b0_one hL) _) ?_
    (refine At.loopk (σ := Nat) [0, 1, 2] (fun s F0 => (6, .int .i64 (s : Int)) :: F0) (fun s => m) (fun s => N p c (B1 n l s) :: Rest) (fun s => 20 ≤ s ∧ s ≤ 3000000) (fun s => 3000000 - s) 20 (by rfl) ?_ zsubs zml zente ?_)
    · exact ⟨by omega, by omega⟩
    rintro w ⟨w1, w2⟩
    by_cases h2 : w < n
    · have hw2 : IntKind.wrap .i64 (2 * (w : Int)) = ((2 * w : Nat) : Int) := by rw [show 2 * (w : Int) = ((2 * w : Nat) : Int) by omega]; exact IntWalk.i64_in _ (by omega)
      have hw3 : IntKind.wrap .i64 ((w : Int) * 2) = ((w * 2 : Nat) : Int) := by rw [show (w : Int) * 2 = ((w * 2 : Nat) : Int) by omega]; exact IntWalk.i64_in _ (by omega)
      refine At.ent (N.mono (fun L hL => b1_two hL) _) ?_
      (repeat' (first | refine zss ?_ | ((first | (with_reducible first | apply At.val | apply AtQ.val)); (exact pr_mul (by rfl) (by rfl) hw2); exact rfl) | refine zsO ?_ | (refine zsp ?_ ?_ <;> (intro hc; (try simp only [zhcs, reduceCtorEq] at hc); (try (exfalso; first | omega | contradiction | omega | exact absurd rfl hc | exact absurd (by decide) hc))))))
      (refine At.loopk (σ := Nat) [0, 1, 2, 6] (fun s F0 => (7, .int .i64 (s : Int)) :: (8, .int .i64 ((s + 2 * w : Nat) : Int)) :: F0) (fun s => m) (fun s => N p c (B2 n l w s) :: Rest) (fun s => s ≤ n ∧ s % (2 * w) = 0) (fun s => n - s) 0 (by rfl) ?_ zsubs zml zente ?_)
      · exact ⟨Nat.zero_le _, Nat.zero_mod _⟩
      rintro b ⟨hb, hb2⟩
      have g1 : IntKind.wrap .i64 ((b : Int) + (w : Int)) = ((b + w : Nat) : Int) := by rw [← Int.natCast_add]; exact IntWalk.i64_in _ (by omega)
      by_cases h3 : b + 2 * w ≤ n
      · have g2 : IntKind.wrap .i64 (((b + 2 * w : Nat) : Int) + ((2 * w : Nat) : Int)) = ((b + 2 * w + 2 * w : Nat) : Int) := by rw [← Int.natCast_add]; exact IntWalk.i64_in _ (by omega)
        have hb3 : (b + 2 * w) % (2 * w) = 0 := by rw [Nat.add_mod_right, hb2]
        have kk := fun {m : Mem} => r2 (m := m) w b (b + 2 * w) (by omega) hb2 (.inl rfl) (by omega) (Nat.le_refl _) h3
        clear r1 r2
        (repeat' (first | refine zss ?_ | ((first | (with_reducible first | apply At.val | apply AtQ.val)); (first | exact pr_add (by rfl) (by rfl) g1 | exact pr_mul (by rfl) (by rfl) hw2 | exact pr_add (by rfl) (by rfl) g2); exact rfl) | refine zsO ?_ | ((with_reducible first | apply At.c1 | apply At.c0); exact rfl; exact rfl; exact kk; exact ztk; kernel_rfl; rintro v' m' B' hm' ⟨rfl, rfl, rfl⟩; skip; (try (have hq0 : hm' = Mem.le_refl _ := rfl; clear hq0 hm'))) | (refine zsp ?_ ?_ <;> (intro hc; (try simp only [zhcs, reduceCtorEq] at hc); (try (exfalso; first | omega | contradiction | omega | exact absurd rfl hc | exact absurd (by decide) hc))))))
        all_goals ((with_reducible refine At.reachk ((b + 2 * w)) ?_ ?_ ?_ ?_); exact zsubs; exact zml; exact zente; exact ⟨⟨h3, hb3⟩, by omega⟩)
      · by_cases h4 : b + w < n
        · have kk := fun {m : Mem} => r2 (m := m) w b n (by omega) hb2 (.inr rfl) h4 (by omega) (Nat.le_refl _)
          clear r1 r2
          (repeat' (first | refine zss ?_ | ((first | (with_reducible first | apply At.val | apply AtQ.val)); (first | exact pr_add (by rfl) (by rfl) g1 | exact pr_mul (by rfl) (by rfl) hw3); exact rfl) | refine zsO ?_ | ((with_reducible first | apply At.c1 | apply At.c0); exact rfl; exact rfl; exact kk; exact ztk; kernel_rfl; rintro v' m' B' hm' ⟨rfl, rfl, rfl⟩; skip; (try (have hq0 : hm' = Mem.le_refl _ := rfl; clear hq0 hm'))) | (refine zsp ?_ ?_ <;> (intro hc; (try simp only [zhcs, reduceCtorEq] at hc); (try (exfalso; first | omega | contradiction | omega | exact absurd rfl hc | exact absurd (by decide) hc))))))
          all_goals refine At.ent (N.mono (fun L hL => b2_all hL) _) ?_
          all_goals ((with_reducible refine At.reachk ((w * 2)) ?_ ?_ ?_ ?_); exact zsubs; exact zml; exact zente; exact ⟨⟨by omega, by omega⟩, by omega⟩)
        · have ze : ∀ L, B2 n l w b L → B1 n l (w * 2) L := fun L hL => b2_end hL (by omega) hb2 (by omega)
          clear r1 r2
          refine At.ent (N.mono ze _) ?_
          (repeat' (first | refine zss ?_ | ((first | (with_reducible first | apply At.val | apply AtQ.val)); (first | exact pr_add (by rfl) (by rfl) g1 | exact pr_mul (by rfl) (by rfl) hw3); exact rfl) | refine zsO ?_ | (refine zsp ?_ ?_ <;> (intro hc; (try simp only [zhcs, reduceCtorEq] at hc); (try (exfalso; first | omega | contradiction | omega | exact absurd rfl hc | exact absurd (by decide) hc))))))
          all_goals ((with_reducible refine At.reachk ((w * 2)) ?_ ?_ ?_ ?_); exact zsubs; exact zml; exact zente; exact ⟨⟨by omega, by omega⟩, by omega⟩)
    · refine At.ent (N.mono (fun L hL => b1_srt hL (by omega)) _) ?_
      clear r1 r2
      (repeat' (first | refine zss ?_ | refine zsO ?_ | (refine zsp ?_ ?_ <;> (intro hc; (try simp only [zhcs, reduceCtorEq] at hc); (try (exfalso; first | omega | contradiction | omega | exact absurd rfl hc | exact absurd (by decide) hc))))))
      all_goals ((first | (with_reducible apply At.retB0 (B := [N p c _])) | (with_reducible apply At.retR0 (B := [N p c _]))); exact rfl; exact zml; exact zkp; exact ⟨rfl, rfl, rfl⟩)
theorem sortF {m : Mem} (p : Option Addr) (c n : Nat) (l : List Slot) (hn : l.length = n) (hl : n ≤ 1000000) :
    Ct Tryz.prog 210 #[.slice p n c, fnS] m [oS p c l] (fun v m' B => PostR p c (fun L => L.Perm l ∧ Srt Slot.w 0 n L) v m m' B) := by
  have hin := fun (m : Mem) => stableG (m := m) p c n l hn hl
  refine Ct.enterV (by rfl) Tryz.func210 rfl Tryz.ntmps210 rfl (fun w0 Rest => ?_)
  refine At.ent (N.close (Φ := fun L => L = l) rfl _) ?_
  (repeat' (first | refine zss ?_ | refine zsO ?_ | ((with_reducible first | apply At.c1 | apply At.c0); exact rfl; exact rfl; exact hin _; exact ztk; kernel_rfl; rintro v' m' B' hm' ⟨rfl, rfl, rfl⟩; skip; (try (have hq0 : hm' = Mem.le_refl _ := rfl; clear hq0 hm'))) | (refine zsp ?_ ?_ <;> (intro hc; (try simp only [zhcs, reduceCtorEq] at hc); (try (exfalso; first | contradiction | omega | exact absurd rfl hc | exact absurd (by decide) hc))))))
  all_goals refine N.open (p := p) (c := c) (by repeat constructor) fun L hL => ?_
  all_goals ((first | (with_reducible apply At.retB0 (B := [oS p c L])) | (with_reducible apply At.retR0 (B := [oS p c L]))); exact rfl; exact zml; exact zkp; exact ⟨rfl, rfl, _, hL, rfl⟩)
end So
end Go.Proofs.YtkoijdmlehkhbaaGreatDoor
namespace Go.Proofs.YtkoijdmlehkhbaaGreatDoor
open Go Go.J
attribute [local irreducible] At AtQ AtM AtM1 PR Ct Pu Rd Res.blk Res.own Res.ex RVs RV
namespace Ti
open Slot Win
abbrev oS := So.oS
abbrev fnN : Value := .func (.func 209) #[] #[]
theorem clone {m : Mem} (p : Option Addr) (c : Nat) (l : List Slot) (hl : l.length ≤ 1000000) (sl0 : Sl m cells 15 p c l) :
    Ct Tryz.prog 208 #[.slice p l.length c] m [] (fun v m' B => m = m' ∧ ∃ p2 c2, v = .slice p2 l.length c2 ∧ B = [oS p2 c2 l]) := by
  cases p with
  | none =>
    have h0 : l = [] := List.eq_nil_of_length_eq_zero (by have := sl0.nil rfl; have := sl0.le; omega)
    subst h0
    refine Ct.enterV (by rfl) Tryz.func208 rfl Tryz.ntmps208 rfl (fun w0 Rest => ?_)
    (repeat' (first | refine zss ?_ | ((first | (with_reducible first | apply At.val | apply AtQ.val)); (exact pr_sleql (by rfl) (by rfl) (by rfl)); exact rfl) | refine zsM ?_ | (refine zsp ?_ ?_ <;> (intro hc; (try simp only [zhcs, reduceCtorEq] at hc); (try (exfalso; first | contradiction | omega | exact absurd rfl hc | exact absurd (by decide) hc))))))
    all_goals refine At.own_nil cells 15 61 ?_
    all_goals ((with_reducible apply At.retB1 (B := [oS _ _ _])); exact rfl; exact rfl; exact zml; exact zkp; exact ⟨rfl, _, _, rfl, rfl⟩)
  | some a =>
    refine Ct.enterV (by rfl) Tryz.func208 rfl Tryz.ntmps208 rfl (fun w0 Rest => ?_)
    (repeat' (first | refine zss ?_ | ((first | (with_reducible first | apply At.val | apply AtQ.val)); (exact pr_sleql (by rfl) (by rfl) (by rfl)); exact rfl) | refine zsM ?_ | ((with_reducible apply At.lit cells ([] : List Slot)); exact inferInstance; (iterate 7 exact rfl); intro _) | ((with_reducible apply At.apW (f := cells)); exact rfl; exact rfl; exact (by repeat constructor); exact inferInstance; exact zrdl; (iterate 4 exact rfl); exact zom; exact rfl; intro _ _) | (refine zsp ?_ ?_ <;> (intro hc; (try simp only [zhcs, reduceCtorEq] at hc); (try (exfalso; first | contradiction | omega | exact absurd rfl hc | exact absurd (by decide) hc))))))
    all_goals ((with_reducible apply At.retB1 (B := [oS _ _ _])); exact rfl; exact rfl; exact zml; exact zkp; exact ⟨rfl, _, _, rfl, rfl⟩)
theorem none1 {m : Mem} (s : Slot) (b : Bool) (h : (!keep s) = b) : Ct Tryz.prog 209 #[s.v] m [] (fun v m' B => v = .bool b ∧ m = m' ∧ B = []) := by
  have k := none_ s
  unfold keep at h
  rw [Bool.not_not] at h
  rw [h] at k
  exact Pu.ct k m
theorem indexF {m : Mem} (p : Option Addr) (c : Nat) (l : List Slot) (hl : l.length ≤ 1000000) :
    Ct Tryz.prog 224 #[.slice p l.length c, fnN] m [oS p c l] (fun v m' B => m = m' ∧ B = [oS p c l] ∧
      ((v = .int .i64 (-1) ∧ ∀ i, i < l.length → keep (l[i]!) = true) ∨ (∃ k : Nat, v = .int .i64 (k : Int) ∧ k < l.length ∧ keep (l[k]!) = false ∧ ∀ i, i < k → keep (l[i]!) = true))) := by
  refine Ct.enterV (by rfl) Tryz.func224 rfl Tryz.ntmps224 rfl (fun w0 Rest => ?_)
  (repeat' (first | refine zss ?_ | refine zsO ?_ | (refine zsp ?_ ?_ <;> (intro hc; (try simp only [zhcs, reduceCtorEq] at hc); (try (exfalso; first | contradiction | omega | exact absurd rfl hc | exact absurd (by decide) hc))))))
  (refine At.loopk (σ := Nat) [0, 1, 7] (fun s F0 => (8, .int .i64 (s : Int)) :: F0) (fun s => m) (fun s => oS p c l :: Rest) (fun s => s ≤ l.length ∧ ∀ i, i < s → keep (l[i]!) = true) (fun s => l.length - s) 0 (by rfl) ?_ zsubs zml zente ?_)
  · exact ⟨Nat.zero_le _, fun i h => absurd h (Nat.not_lt_zero i)⟩
  rintro s ⟨hs, hn⟩
  by_cases h : s < l.length
  · cases hk : keep (l[s]!)
    · (repeat' (first | refine zss ?_ | refine zsO ?_ | ((with_reducible apply At.callf); exact rfl; kernel_rfl; exact rfl; exact rfl; exact none1 (l[s]!) true (by rw [hk]; rfl); exact ztk; rintro v' m' B' hm' ⟨rfl, rfl, rfl⟩; skip) | (refine zsp ?_ ?_ <;> (intro hc; (try simp only [zhcs, reduceCtorEq] at hc); (try (exfalso; first | omega | contradiction | omega | exact absurd rfl hc | exact absurd (by decide) hc))))))
      all_goals ((with_reducible apply At.retB1 (B := [oS p c l])); exact rfl; exact rfl; exact zml; exact zkp; exact ⟨rfl, rfl, .inr ⟨s, rfl, h, hk, hn⟩⟩)
    · (repeat' (first | refine zss ?_ | refine zsO ?_ | ((with_reducible apply At.callf); exact rfl; kernel_rfl; exact rfl; exact rfl; exact none1 (l[s]!) false (by rw [hk]; rfl); exact ztk; rintro v' m' B' hm' ⟨rfl, rfl, rfl⟩; skip) | (refine zsp ?_ ?_ <;> (intro hc; (try simp only [zhcs, reduceCtorEq] at hc); (try (exfalso; first | omega | contradiction | omega | exact absurd rfl hc | exact absurd (by decide) hc))))))
      all_goals ((with_reducible refine At.reachk (s + 1) ?_ ?_ ?_ ?_); exact zsubs; exact zml; exact zente; exact ⟨⟨h, fun i hi => by rcases Nat.lt_succ_iff_lt_or_eq.1 hi with hi | rfl; exact hn i hi; exact hk⟩, by omega⟩)
  · (repeat' (first | refine zss ?_ | refine zsO ?_ | (refine zsp ?_ ?_ <;> (intro hc; (try simp only [zhcs, reduceCtorEq] at hc); (try (exfalso; first | omega | contradiction | omega | exact absurd rfl hc | exact absurd (by decide) hc))))))
    all_goals ((with_reducible apply At.retB1 (B := [oS p c l])); exact rfl; exact rfl; exact zml; exact zkp; exact ⟨rfl, rfl, .inl ⟨rfl, fun i hi => hn i (by omega)⟩⟩)
theorem deleteF {m : Mem} (p : Option Addr) (c : Nat) (l : List Slot) (hl : l.length ≤ 1000000) :
    Ct Tryz.prog 207 #[.slice p l.length c, fnN] m [oS p c l] (fun v m' B => m = m' ∧ ∃ p2 c2, v = .slice p2 (l.filter keep).length c2 ∧ B = [oS p2 c2 (l.filter keep)]) := by
  by_cases hall : ∀ i, i < l.length → keep (l[i]!) = true
  · rw [all_filt hall]
    have hi : Ct Tryz.prog 224 #[.slice p l.length c, fnN] m [oS p c l] (fun v m' B => m = m' ∧ B = [oS p c l] ∧ v = .int .i64 (-1)) :=
      (indexF p c l hl).mono fun v m' B _ ⟨h1, h2, h3⟩ => ⟨h1, h2, by
        rcases h3 with ⟨h4, _⟩ | ⟨k, _, hk, h5, _⟩
        · exact h4
        · rw [hall k hk] at h5; cases h5⟩
    refine Ct.enterV (by rfl) Tryz.func207 rfl Tryz.ntmps207 rfl (fun w0 Rest => ?_)
    (repeat' (first | refine zss ?_ | refine zsO ?_ | ((with_reducible first | apply At.c1 | apply At.c0); exact rfl; exact rfl; exact hi; exact ztk; kernel_rfl; rintro v' m' B' hm' ⟨rfl, rfl, rfl⟩; skip; (try (have hq0 : hm' = Mem.le_refl _ := rfl; clear hq0 hm'))) | ((with_reducible apply At.alloc (d := 7)); exact rfl; exact rfl; intro b7) | (refine zsp ?_ ?_ <;> (intro hc; (try simp only [zhcs, reduceCtorEq] at hc); (try (exfalso; first | omega | contradiction | omega | exact absurd rfl hc | exact absurd (by decide) hc))))))
    all_goals ((with_reducible apply At.retB1 (B := [oS _ _ l])); exact rfl; exact rfl; exact zml; exact zkp; exact ⟨rfl, _, _, rfl, rfl⟩)
  · have hi : Ct Tryz.prog 224 #[.slice p l.length c, fnN] m [oS p c l] (fun v m' B => m = m' ∧ B = [oS p c l] ∧ ∃ k : Nat, v = .int .i64 (k : Int) ∧ k < l.length ∧ keep (l[k]!) = false ∧ ∀ i, i < k → keep (l[i]!) = true) :=
      (indexF p c l hl).mono fun v m' B _ ⟨h1, h2, h3⟩ => ⟨h1, h2, by
        rcases h3 with ⟨_, h4⟩ | h4
        · exact absurd h4 hall
        · exact h4⟩
    refine Ct.enterV (by rfl) Tryz.func207 rfl Tryz.ntmps207 rfl (fun w0 Rest => ?_)
    (repeat' (first | refine zss ?_ | refine zsO ?_ | ((with_reducible first | apply At.c1 | apply At.c0); exact rfl; exact rfl; exact hi; exact ztk; kernel_rfl; rintro v' m' B' hm' ⟨rfl, rfl, k, rfl, hk1, hk2, hk3⟩; skip; (try (have hq0 : hm' = Mem.le_refl _ := rfl; clear hq0 hm'))) | ((with_reducible apply At.alloc (d := 7)); exact rfl; exact rfl; intro b7) | (refine zsp ?_ ?_ <;> (intro hc; (try simp only [zhcs, reduceCtorEq] at hc); (try (exfalso; first | omega | contradiction | omega | exact absurd rfl hc | exact absurd (by decide) hc))))))
    (refine At.loopk (σ := DS Slot) [0, 1] (fun s F0 => (5, .int .i64 (s.i : Int)) :: (6, .int .i64 (s.j : Int)) :: F0) (fun s => m) (fun s => oS p c s.L :: Rest) (fun s => dinv keep l s) (fun s => l.length - s.j) ⟨k, k + 1, l⟩ (by rfl) ?_ zsubs zml zente ?_)
    · refine ⟨Nat.lt_succ_self k, hk1, rfl, ?_, rfl⟩
      show l.take k = (l.take (k + 1)).filter _
      rw [filt_snoc _ l k hk1, if_neg (by rw [hk2]; decide), List.append_nil, all_filt]
      intro i hi
      rw [List.length_take] at hi
      have := hk3 i (by omega)
      rw [getElem!_pos (l.take k) i (by rw [List.length_take]; exact hi), List.getElem_take]
      rwa [getElem!_pos l i (by omega)] at this
    rintro s hd
    have hd' := hd
    obtain ⟨d1, d2, d3, d4, d5⟩ := hd'
    rw [← d3]
    by_cases h : s.j < l.length
    · have hg := hd.get h
      have h' : s.j < s.L.length := by omega
      cases hk : keep (l[s.j]!) with
      | true =>
        have hy := hd.yes h hk
        rw [← hg] at hk hy
        (repeat' (first | refine zss ?_ | refine zsO ?_ | ((with_reducible apply At.callf); exact rfl; kernel_rfl; exact rfl; exact rfl; exact none1 (s.L[s.j]!) false (by rw [hk]; rfl); exact ztk; rintro v' m' B' hm' ⟨rfl, rfl, rfl⟩; skip) | ((with_reducible apply At.storeW (f := cells) (x' := (s.L[s.j]!))); (case hx => exact rfl); (case hy => exact rfl); (case hv => exact rfl); (case hp => exact (by repeat constructor)); (case hr => exact rfl); (case hf => exact inferInstance); (case hk => exact zom); (case hs => exact rfl); (case hq => exact rfl); (case h1 => exact rfl)) | ((with_reducible apply At.alloc (d := 7)); exact rfl; exact rfl; intro b7) | (refine zsp ?_ ?_ <;> (intro hc; (try simp only [zhcs, reduceCtorEq] at hc); (try (exfalso; first | omega | contradiction | omega | exact absurd rfl hc | exact absurd (by decide) hc))))))
        all_goals ((with_reducible refine At.reachk ((⟨s.i + 1, s.j + 1, s.L.set s.i (s.L[s.j]!)⟩ : DS Slot)) ?_ ?_ ?_ ?_); exact zsubs; exact zml; exact zente; exact ⟨hy, Nat.sub_lt_sub_left h' (Nat.lt_succ_self s.j)⟩)
      | false =>
        have hy := hd.no h hk
        rw [← hg] at hk
        (repeat' (first | refine zss ?_ | refine zsO ?_ | ((with_reducible apply At.callf); exact rfl; kernel_rfl; exact rfl; exact rfl; exact none1 (s.L[s.j]!) true (by rw [hk]; rfl); exact ztk; rintro v' m' B' hm' ⟨rfl, rfl, rfl⟩; skip) | ((with_reducible apply At.alloc (d := 7)); exact rfl; exact rfl; intro b7) | (refine zsp ?_ ?_ <;> (intro hc; (try simp only [zhcs, reduceCtorEq] at hc); (try (exfalso; first | omega | contradiction | omega | exact absurd rfl hc | exact absurd (by decide) hc))))))
        all_goals ((with_reducible refine At.reachk ((⟨s.i, s.j + 1, s.L⟩ : DS Slot)) ?_ ?_ ?_ ?_); exact zsubs; exact zml; exact zente; exact ⟨hy, Nat.sub_lt_sub_left h' (Nat.lt_succ_self s.j)⟩)
    · have hj : l.take s.j = l := List.take_of_length_le (by omega)
      rw [hj] at d4
      have hlen : (s.L.take s.i).length = s.i := by rw [List.length_take]; omega
      have hcl : s.i ≤ s.L.length := by omega
      rw [← d4, hlen]
      (repeat' (first | refine zss ?_ | refine zsO ?_ | ((with_reducible apply At.alloc (d := 7)); exact rfl; exact rfl; intro b7) | (refine zsp ?_ ?_ <;> (intro hc; (try simp only [zhcs, reduceCtorEq] at hc); (try (exfalso; first | omega | contradiction | omega | exact absurd rfl hc | exact absurd (by decide) hc))))))
      refine At.clearW (f := cells) (l := s.L) s.i (by rfl) (by repeat constructor) rfl inferInstance (by rfl) (by rfl) (by rfl) hcl rfl rfl ?_
      (repeat' (first | refine zss ?_ | ((first | (with_reducible first | apply At.val | apply AtQ.val)); (exact pr_slice_own (by rfl) (by rfl) (by repeat constructor) hlen (by rfl) (by rfl)); exact rfl) | refine zsO ?_ | ((with_reducible apply At.alloc (d := 7)); exact rfl; exact rfl; intro b7) | (refine zsp ?_ ?_ <;> (intro hc; (try simp only [zhcs, reduceCtorEq] at hc); (try (exfalso; first | omega | contradiction | omega | exact absurd rfl hc | exact absurd (by decide) hc))))))
      all_goals ((with_reducible apply At.retB1 (B := [oS _ _ _])); exact rfl; exact rfl; exact zml; exact zkp; exact ⟨rfl, p, c, by rw [subp0]; rfl, rfl⟩)
theorem allO {m : Mem} (p : Option Addr) (c : Nat) (l : List Slot) (hl : l.length ≤ 1000000) (hD : Dis l) (sl0 : Sl m cells 15 p c l) :
    Ct Tryz.prog 173 #[.slice p l.length c] m [] (fun v m' B => m = m' ∧ ∃ p2 c2, v = .slice p2 (alls l).length c2 ∧ B = [oS p2 c2 (alls l)]) := by
  have k1 := clone p c l hl sl0
  have k2 := fun (m : Mem) p c => deleteF (m := m) p c l hl
  have hle : (l.filter keep).length ≤ l.length := List.length_filter_le _ _
  have k3 := fun (m : Mem) p c => So.sortF (m := m) p c (l.filter keep).length (l.filter keep) rfl (by omega)
  have hu := fun L (h : L.Perm (l.filter keep) ∧ So.Srt Slot.w 0 (l.filter keep).length L) => alls_uniq hD h.1 (by rw [h.1.length_eq]; exact h.2)
  have hn := (alls_perm l).length_eq
  rw [hn]
  generalize alls l = A at *
  generalize l.filter keep = l2 at *
  refine Ct.enterV (by rfl) Tryz.func173 rfl Tryz.ntmps173 rfl (fun w0 Rest => ?_)
  (repeat' (first | refine zss ?_ | refine zsO ?_ | ((with_reducible first | apply At.c1 | apply At.c0); exact rfl; exact rfl; exact k1; exact ztk; kernel_rfl; rintro v' m' B' hm' ⟨rfl, p2, c2, rfl, rfl⟩; (try replace sl0 := sl0.mono hm'); (try (have hq0 : hm' = Mem.le_refl _ := rfl; clear hq0 hm'))) | ((with_reducible first | apply At.c1 | apply At.c0); exact rfl; exact rfl; exact k2 _ p2 c2; exact ztk; kernel_rfl; rintro v' m' B' hm' ⟨rfl, p3, c3, rfl, rfl⟩; (try replace sl0 := sl0.mono hm'); (try (have hq0 : hm' = Mem.le_refl _ := rfl; clear hq0 hm'))) | ((with_reducible first | apply At.c1 | apply At.c0); exact rfl; exact rfl; exact k3 _ p3 c3; exact ztk; kernel_rfl; rintro v' m' B' hm' ⟨rfl, rfl, L, hL, rfl⟩; (try replace sl0 := sl0.mono hm'); (try (have hq0 : hm' = Mem.le_refl _ := rfl; clear hq0 hm'))) | (refine zsp ?_ ?_ <;> (intro hc; (try simp only [zhcs, reduceCtorEq] at hc); (try (exfalso; first | contradiction | omega | exact absurd rfl hc | exact absurd (by decide) hc))))))
  all_goals (have e := hu L hL; subst e)
  all_goals ((with_reducible apply At.retB1 (B := [oS _ _ _])); exact rfl; exact rfl; exact zml; exact zkp; exact ⟨rfl, _, _, rfl, rfl⟩)
theorem allS {m : Mem} (p : Option Addr) (c : Nat) (l : List Slot) (hl : l.length ≤ 1000000) (hD : Dis l) (sl0 : Sl m cells 15 p c l) :
    Ct Tryz.prog 173 #[.slice p l.length c] m [] (fun v m' B => B = [] ∧ ∃ p2 c2, v = .slice p2 (alls l).length c2 ∧ Sl m' cells 15 p2 c2 (alls l)) :=
  Ct.slice (R := fun v p c => v = .slice p (alls l).length c) inferInstance (Ct.mono (allO p c l hl hD sl0) fun v m' B _ ⟨_, p, c, h2, h3⟩ => ⟨p, c, h2, h3⟩)
theorem new_ {m : Mem} (n : Int) (hn : -9223372036854775808 ≤ n ∧ n ≤ 9223372036854775807) : Ct Tryz.prog 114 #[.int .i64 n] m [] (fun v m' B => m = m' ∧ ∃ p2 c2, v = .slice p2 (newL n).length c2 ∧ B = [oS p2 c2 (newL n)]) := by
  unfold newL
  by_cases h : n < 1 ∨ n > 4096
  · rw [if_pos h]
    refine Ct.enterV (by rfl) Tryz.func114 rfl Tryz.ntmps114 rfl (fun w0 Rest => ?_)
    (repeat' (first | refine zss ?_ | refine zs0 ?_ | (refine zsp ?_ ?_ <;> (intro hc; (try simp only [zhcs, reduceCtorEq] at hc); (try (exfalso; first | omega | contradiction | omega | exact absurd rfl hc | exact absurd (by decide) hc))))))
    all_goals refine At.own_nil cells 15 61 ?_
    all_goals ((with_reducible apply At.retB1 (B := [oS _ _ _])); exact rfl; exact rfl; exact zml; exact zkp; exact ⟨rfl, _, _, rfl, rfl⟩)
  · rw [if_neg h]
    obtain ⟨k, rfl⟩ : ∃ k : Nat, n = (k : Int) := ⟨n.toNat, by omega⟩
    rw [Int.toNat_natCast, List.length_replicate]
    have hk : k ≤ 4096 := by omega
    refine Ct.enterV (by rfl) Tryz.func114 rfl Tryz.ntmps114 rfl (fun w0 Rest => ?_)
    (repeat' (first | refine zss ?_ | refine zs0 ?_ | ((with_reducible apply At.makeN (f := cells) (Slot.z)); exact inferInstance; (iterate 5 exact rfl); exact zlq; exact rfl; exact zom; exact rfl; intro b9) | (refine zsp ?_ ?_ <;> (intro hc; (try simp only [zhcs, reduceCtorEq] at hc); (try (exfalso; first | omega | contradiction | omega | exact absurd rfl hc | exact absurd (by decide) hc))))))
    all_goals ((with_reducible apply At.retB1 (B := [oS _ _ _])); exact rfl; exact rfl; exact zml; exact zkp; exact ⟨rfl, _, _, rfl, rfl⟩)
theorem newS {m : Mem} (n : Int) (hn : -9223372036854775808 ≤ n ∧ n ≤ 9223372036854775807) : Ct Tryz.prog 114 #[.int .i64 n] m [] (fun v m' B => B = [] ∧ ∃ p2 c2, v = .slice p2 (newL n).length c2 ∧ Sl m' cells 15 p2 c2 (newL n)) :=
  Ct.slice (R := fun v p c => v = .slice p (newL n).length c) inferInstance (Ct.mono (new_ n hn) fun v m' B _ ⟨_, p, c, h2, h3⟩ => ⟨p, c, h2, h3⟩)
end Ti
end Go.Proofs.YtkoijdmlehkhbaaGreatDoor
namespace Go.Proofs.YtkoijdmlehkhbaaGreatDoor
open Go Go.J
attribute [local irreducible] At AtQ AtM AtM1 PR Ct Pu Rd Res.blk Res.own Res.ex RVs RV
namespace Ti
open Slot Win
theorem rd_le {P : Program} {f : FuncId} {a : Array Value} {m : Mem} {V : Value} (h : Ct P f a m [] (fun v m' B => v = V ∧ m.le m' ∧ B = [])) : Rd P f a m [] V := by
  unfold Rd
  exact Ct.forget h fun _ _ _ _ ⟨h1, _, h3⟩ => ⟨h1, rfl, h3⟩
theorem put0 {m : Mem} (p : Option Addr) (c : Nat) (l : List Slot) (w i : Int) (x : Cell) (hI : ∀ s ∈ l, Slot.In s) (hi : -9223372036854775808 ≤ i ∧ i ≤ 9223372036854775807) (hx : -9223372036854775808 ≤ x.n ∧ x.n ≤ 9223372036854775807) (hl : l.length ≤ 1000000) (sl0 : Sl m cells 15 p c l) :
    Ct Tryz.prog 203 #[.slice p l.length c, .int .i64 w, .int .i64 i, x.v] m [] (fun v m' B => m = m' ∧ ∃ p2 c2, v = .tuple #[.slice p2 (putO l w i x).length c2, .int .i64 (putE l w i x)] ∧ B = [oS p2 c2 (putO l w i x)]) := by
  have k1 := fun (m' : Mem) (h : m.le m') => check (m := m') p c l w hI (sl0.mono h)
  have k2 := fitsT x w i hx
  have k3 := fun (m' : Mem) (h : m.le m') => clone (m := m') p c l hl (sl0.mono h)
  have k4 := win_slot i (l.length : Int) hi (by omega)
  unfold putO putE chk at *
  by_cases h1 : okT l w
  rotate_left
  · rw [if_neg h1] at k1
    rw [if_neg (fun h => h1 h.1), if_neg (fun h => h1 h.1)]
    refine Ct.enterV (by rfl) Tryz.func203 rfl Tryz.ntmps203 rfl (fun w0 Rest => ?_)
    (repeat' (first | refine zss ?_ | refine zsM ?_ | ((with_reducible first | apply AtM1.cr | apply AtQ.cr | apply At.cr); exact rfl; exact rfl; exact fun _ hmm => k1 _ hmm; exact ztk; kernel_rfl) | ((with_reducible apply At.box (d := 7)); exact rfl; exact rfl; exact rfl; intro b7) | (refine zsp ?_ ?_ <;> (intro hc; (try simp only [zhcs, reduceCtorEq] at hc); (try (exfalso; first | omega | contradiction | omega | exact absurd rfl hc | exact absurd (by decide) hc))))))
    all_goals refine At.own_nil cells 15 61 ?_
    all_goals ((with_reducible apply At.retV (B := [oS _ _ _])); exact rfl; (repeat' (first | exact RVs.nil | (with_reducible apply RVs.cons) | exact rv_tmp (by rfl) | exact rv_cellN (by rfl) (by repeat constructor) (by rfl) (by rfl) (by rfl) | exact rv_cell1 (by rfl) (by repeat constructor) (by rfl) (by rfl))); exact zml; exact zkp; exact ⟨rfl, _, _, rfl, rfl⟩)
  rw [if_pos h1] at k1
  by_cases h2 : fits x w i
  rotate_left
  · rw [decide_eq_false h2] at k2
    rw [if_neg (fun h => h2 h.2), if_neg (fun h => h2 h.2)]
    refine Ct.enterV (by rfl) Tryz.func203 rfl Tryz.ntmps203 rfl (fun w0 Rest => ?_)
    (repeat' (first | refine zss ?_ | refine zsM ?_ | ((with_reducible first | apply AtM1.cr | apply AtQ.cr | apply At.cr); exact rfl; exact rfl; exact fun _ hmm => k1 _ hmm; exact ztk; kernel_rfl) | ((with_reducible first | apply AtM1.callp | apply AtQ.callp | apply At.callp); kernel_rfl; exact rfl; exact rfl; exact k2) | ((with_reducible apply At.box (d := 7)); exact rfl; exact rfl; exact rfl; intro b7) | (refine zsp ?_ ?_ <;> (intro hc; (try simp only [zhcs, reduceCtorEq] at hc); (try (exfalso; first | omega | contradiction | omega | exact absurd rfl hc | exact absurd (by decide) hc))))))
    all_goals refine At.own_nil cells 15 61 ?_
    all_goals ((with_reducible apply At.retV (B := [oS _ _ _])); exact rfl; (repeat' (first | exact RVs.nil | (with_reducible apply RVs.cons) | exact rv_tmp (by rfl) | exact rv_cellN (by rfl) (by repeat constructor) (by rfl) (by rfl) (by rfl) | exact rv_cell1 (by rfl) (by repeat constructor) (by rfl) (by rfl))); exact zml; exact zkp; exact ⟨rfl, _, _, rfl, rfl⟩)
  rw [decide_eq_true h2] at k2
  rw [if_pos ⟨h1, h2⟩, if_pos ⟨h1, h2⟩]
  have hn : 1 ≤ (l.length : Int) := by have := h1.1.1; omega
  obtain ⟨q, hq⟩ : ∃ q : Nat, slotV i (l.length : Int) = (q : Int) := ⟨(slotV i (l.length : Int)).toNat, by have := slotV_lt (i := i) hn; omega⟩
  have hql : q < l.length := by have := slotV_lt (i := i) hn; omega
  rw [hq] at k4 ⊢
  rw [Int.toNat_natCast, List.length_set]
  clear hq h1 h2 hI
  refine Ct.enterV (by rfl) Tryz.func203 rfl Tryz.ntmps203 rfl (fun w0 Rest => ?_)
  (repeat' (first | ((with_reducible apply At.mixed (id := 4) 10 (.q 0 (.q 1 (.q 2 (.q 3 (.q 4 (.q 5 (.q 6 (.q 7 (.q 8 (.x 9 .done))))))))))); exact rfl; kernel_rfl; kernel_rfl; kernel_rfl) | refine zsx ?_ | refine zss ?_ | ((with_reducible apply AtM.bo); exact rfl; exact rfl; exact rfl) | refine zsOM ?_ | refine zxOM ?_ | ((with_reducible first | apply AtM1.cr | apply AtQ.cr | apply At.cr); exact rfl; exact rfl; exact fun _ hmm => k1 _ hmm; exact ztk; kernel_rfl) | ((with_reducible first | apply AtM1.callp | apply AtQ.callp | apply At.callp); kernel_rfl; exact rfl; exact rfl; exact k2) | ((with_reducible first | apply At.c1 | apply At.c0); exact rfl; exact rfl; exact k3 _ zml; exact ztk; kernel_rfl; rintro v' m' B' hm' ⟨rfl, p2, c2, rfl, rfl⟩; (try replace sl0 := sl0.mono hm'); (try (have hq0 : hm' = Mem.le_refl _ := rfl; clear hq0 hm'))) | ((with_reducible first | apply AtM1.callp | apply AtQ.callp | apply At.callp); kernel_rfl; exact rfl; exact rfl; exact k4) | ((with_reducible apply At.storeW (f := cells) (x' := ⟨i, x⟩)); (case hx => exact rfl); (case hy => exact rfl); (case hv => exact rfl); (case hp => exact (by repeat constructor)); (case hr => exact rfl); (case hf => exact inferInstance); (case hk => exact zom); (case hs => exact rfl); (case hq => exact rfl); (case h1 => exact rfl)) | ((with_reducible apply At.box (d := 7)); exact rfl; exact rfl; exact rfl; intro b7) | (refine zsp ?_ ?_ <;> (intro hc; (try simp only [zhcs, reduceCtorEq] at hc); (try (exfalso; first | (first | omega | exact absurd rfl hc) | contradiction | omega | exact absurd rfl hc | exact absurd (by decide) hc))))))
  all_goals ((with_reducible apply At.retV (B := [oS _ _ _])); exact rfl; (repeat' (first | exact RVs.nil | (with_reducible apply RVs.cons) | exact rv_tmp (by rfl) | exact rv_cellN (by rfl) (by repeat constructor) (by rfl) (by rfl) (by rfl) | exact rv_cell1 (by rfl) (by repeat constructor) (by rfl) (by rfl))); exact zml; exact zkp; exact ⟨rfl, _, _, rfl, rfl⟩)
theorem put_ {m : Mem} (p : Option Addr) (c : Nat) (l : List Slot) (w i : Int) (x : Cell) (hI : ∀ s ∈ l, Slot.In s) (hi : -9223372036854775808 ≤ i ∧ i ≤ 9223372036854775807) (hx : -9223372036854775808 ≤ x.n ∧ x.n ≤ 9223372036854775807) (hl : l.length ≤ 1000000) (sl0 : Sl m cells 15 p c l) :
    Ct Tryz.prog 203 #[.slice p l.length c, .int .i64 w, .int .i64 i, x.v] m [] (fun v m' B => B = [] ∧ ∃ p2 c2, v = .tuple #[.slice p2 (putO l w i x).length c2, .int .i64 (putE l w i x)] ∧ Sl m' cells 15 p2 c2 (putO l w i x)) :=
  Ct.slice (R := fun v p2 c2 => v = .tuple #[.slice p2 (putO l w i x).length c2, .int .i64 (putE l w i x)]) inferInstance (Ct.mono (put0 p c l w i x hI hi hx hl sl0) fun v m' B _ ⟨_, p, c, h2, h3⟩ => ⟨p, c, h2, h3⟩)
theorem allFz {m : Mem} (p : Option Addr) (c : Nat) (l : List Cell) (hl : l.length ≤ 1000000) (hi : ∀ x ∈ l, Cell.In x) :
    Ct Tryz.prog 174 #[.slice p l.length c] m [.own Cell.cells 14 59 p c l] (fun v m' B => v = .tuple #[(Cell.allC Cell.z l).1.v, .int .i64 (Cell.allC Cell.z l).2] ∧ m.le m' ∧ B = []) :=
  Ct.freezeG inferInstance fun m' hm' sl => Ct.mono (Cell.all p c l hl hi sl) fun v m2 B _ ⟨h1, h2, h3⟩ => ⟨h1, h2 ▸ hm', h3⟩
structure FS where
  (j : Nat) (O : List Cell) (p : Option Addr) (c : Nat)
theorem fold_ {m : Mem} (p : Option Addr) (c : Nat) (l : List Slot) (i k : Int) (hI : ∀ s ∈ l, Slot.In s) (hD : Dis l) (hl : l.length ≤ 1000000) (sl0 : Sl m cells 15 p c l) :
    Rd Tryz.prog 124 #[.slice p l.length c, .int .i64 i, .int .i64 k] m [] (.tuple #[(foldC l i k).1.v, .int .i64 (foldC l i k).2]) := rd_le (by
  unfold foldC
  by_cases h : i < 0 ∨ k < i
  · rw [if_pos h]
    refine Ct.enterV (by rfl) Tryz.func124 rfl Tryz.ntmps124 rfl (fun w0 Rest => ?_)
    (repeat' (first | refine zss ?_ | refine zsM ?_ | ((with_reducible apply At.alloc (d := 6)); exact rfl; exact rfl; intro b6) | ((with_reducible apply At.alloc (d := 10)); exact rfl; exact rfl; intro b10) | (refine zsp ?_ ?_ <;> (intro hc; (try simp only [zhcs, reduceCtorEq] at hc); (try (exfalso; first | omega | contradiction | omega | exact absurd rfl hc | exact absurd (by decide) hc))))))
    all_goals ((with_reducible apply At.retV (B := [])); exact rfl; (repeat' (first | exact RVs.nil | (with_reducible apply RVs.cons) | exact rv_tmp (by rfl) | exact rv_cellN (by rfl) (by repeat constructor) (by rfl) (by rfl) (by rfl) | exact rv_cell1 (by rfl) (by repeat constructor) (by rfl) (by rfl))); exact zml; exact zkp; exact ⟨congrArg (fun v => Value.tuple #[v, .int .i64 1]) Cell.zv, zml, rfl⟩)
  rw [if_neg h]
  have k1 := allS (m := m) p c l hl hD sl0
  have hAI : ∀ s ∈ alls l, Slot.In s := fun s hs => hI s (alls_mem.1 hs).1
  have hAl := alls_len l
  generalize alls l = A at *
  refine Ct.enterV (by rfl) Tryz.func124 rfl Tryz.ntmps124 rfl (fun w0 Rest => ?_)
  (repeat' (first | refine zss ?_ | refine zsM ?_ | ((with_reducible first | apply At.c1 | apply At.c0); exact rfl; exact rfl; exact k1; exact ztk; kernel_rfl; rintro v' m' B' hm' ⟨rfl, p2, c2, rfl, sl1⟩; (try replace sl0 := sl0.mono hm'); (try replace sl1 := sl1.mono hm'); (try (have hq0 : hm' = Mem.le_refl _ := rfl; clear hq0 hm'))) | ((with_reducible apply At.alloc (d := 6)); exact rfl; exact rfl; intro b6) | ((with_reducible apply At.alloc (d := 10)); exact rfl; exact rfl; intro b10) | (refine zsp ?_ ?_ <;> (intro hc; (try simp only [zhcs, reduceCtorEq] at hc); (try (exfalso; first | omega | contradiction | omega | exact absurd rfl hc | exact absurd (by decide) hc))))))
  refine At.own_nil Cell.cells 14 59 ?_
  (refine At.loopk (σ := FS) [1, 2, 6, 20, 21] (fun s F0 => (22, .int .i64 (s.j : Int)) :: (8, .slice s.p s.O.length s.c) :: F0) (fun s => m') (fun s => .blk b6 59 (Cell.cells Cell.z) :: .own Cell.cells 14 59 s.p s.c s.O :: Rest) (fun s => s.j ≤ A.length ∧ s.O = ((A.take s.j).filter fun s => decide (i ≤ s.w ∧ s.w < k)).map Slot.c ∧ s.O.length ≤ s.j) (fun s => A.length - s.j) ⟨0, [], none, 0⟩ (by rfl) ?_ zsubs zml zente ?_)
  · exact ⟨Nat.zero_le _, rfl, Nat.le_refl _⟩
  rintro ⟨j, O, pp, cc⟩ ⟨hj, hO, hOl⟩
  dsimp only at hj hO hOl ⊢
  by_cases hjl : j < A.length
  · have hs := filt_snoc (fun s : Slot => decide (i ≤ s.w ∧ s.w < k)) A j hjl
    by_cases hf : i ≤ A[j]!.w ∧ A[j]!.w < k
    · rw [if_pos (decide_eq_true hf)] at hs
      have hs2 : O ++ [A[j]!.c] = ((A.take (j + 1)).filter fun s => decide (i ≤ s.w ∧ s.w < k)).map Slot.c := by rw [hs, List.map_append, ← hO]; rfl
      clear hs hO hI hD hAI k1
      (repeat' (first | refine zss ?_ | refine zsM ?_ | ((with_reducible apply At.lit Cell.cells [_]); exact inferInstance; (iterate 7 exact rfl); intro _) | ((with_reducible apply At.apW (f := Cell.cells)); exact rfl; exact rfl; exact (by repeat constructor); exact inferInstance; exact zrdl; (iterate 4 exact rfl); exact zom; exact rfl; intro p3 c3) | ((with_reducible apply At.alloc (d := 6)); exact rfl; exact rfl; intro b6) | ((with_reducible apply At.alloc (d := 10)); exact rfl; exact rfl; intro b10) | (refine zsp ?_ ?_ <;> (intro hc; (try simp only [zhcs, reduceCtorEq] at hc); (try (exfalso; first | omega | contradiction | omega | exact absurd rfl hc | exact absurd (by decide) hc))))))
      all_goals ((with_reducible refine At.reachk (⟨j + 1, O ++ [A[j]!.c], p3, c3⟩) ?_ ?_ ?_ ?_); exact zsubs; exact zml; exact zente; exact ⟨⟨hjl, hs2, by dsimp only; rw [List.length_append, List.length_singleton]; omega⟩, by dsimp only; omega⟩)
    · rw [if_neg (by rw [decide_eq_false hf]; decide), List.append_nil] at hs
      rw [← hs] at hO
      clear hs hI hD hAI k1
      (repeat' (first | refine zss ?_ | refine zsM ?_ | ((with_reducible apply At.alloc (d := 6)); exact rfl; exact rfl; intro b6) | ((with_reducible apply At.alloc (d := 10)); exact rfl; exact rfl; intro b10) | (refine zsp ?_ ?_ <;> (intro hc; (try simp only [zhcs, reduceCtorEq] at hc); (try (exfalso; first | omega | contradiction | omega | exact absurd rfl hc | exact absurd (by decide) hc))))))
      all_goals ((with_reducible refine At.reachk (⟨j + 1, O, pp, cc⟩) ?_ ?_ ?_ ?_); exact zsubs; exact zml; exact zente; exact ⟨⟨hjl, hO, by dsimp only; omega⟩, by dsimp only; omega⟩)
  · rw [List.take_of_length_le (by omega)] at hO
    have hOI : ∀ x ∈ O, Cell.In x := fun x hx => by
      rw [hO] at hx
      obtain ⟨s, hs, rfl⟩ := List.mem_map.1 hx
      have hs := hAI s (List.mem_filter.1 hs).1
      exact ⟨hs.2.1, hs.2.2.1, hs.2.2.2.1, hs.2.2.2.2⟩
    have k2 := fun (m : Mem) => allFz (m := m) pp cc O (by omega) hOI
    rw [← hO]
    clear hO hOI hI hD hAI k1
    (repeat' (first | refine zss ?_ | refine zsM ?_ | ((with_reducible first | apply At.c1 | apply At.c0); exact rfl; exact rfl; exact k2 _; exact ztk; kernel_rfl; rintro v' m' B' hm' ⟨rfl, -, rfl⟩; (try replace sl0 := sl0.mono hm'); (try replace sl1 := sl1.mono hm'); (try (have hq0 : hm' = Mem.le_refl _ := rfl; clear hq0 hm'))) | ((with_reducible apply At.alloc (d := 6)); exact rfl; exact rfl; intro b6) | ((with_reducible apply At.alloc (d := 10)); exact rfl; exact rfl; intro b10) | (refine zsp ?_ ?_ <;> (intro hc; (try simp only [zhcs, reduceCtorEq] at hc); (try (exfalso; first | omega | contradiction | omega | exact absurd rfl hc | exact absurd (by decide) hc))))))
    all_goals ((with_reducible apply At.retV (B := [])); exact rfl; (repeat' (first | exact RVs.nil | (with_reducible apply RVs.cons) | exact rv_tmp (by rfl) | exact rv_cellN (by rfl) (by repeat constructor) (by rfl) (by rfl) (by rfl) | exact rv_cell1 (by rfl) (by repeat constructor) (by rfl) (by rfl))); exact zml; exact zkp; exact ⟨rfl, zml, rfl⟩))
end Ti
end Go.Proofs.YtkoijdmlehkhbaaGreatDoor
namespace Go.Proofs.YtkoijdmlehkhbaaGreatDoor
open Go Go.J
attribute [local irreducible] At AtQ AtM AtM1 PR Ct Pu Rd Res.blk Res.own Res.ex RVs RV
namespace Fo
open Slot Win Ti
abbrev pt (b : Nat) : Value := .pointer (some ⟨b, 0, none⟩)
abbrev kt (q : Nat) (K : Cfg) (t : TT) : List Res := [.blk q 248 (K.cells ++ t.cells)]
def bgn (w i : Int) : Bool := decide (0 ≤ i ∧ i ≤ 35184372088831 / w)
theorem begins0 {m : Mem} (q : Nat) (K : Cfg) (t : TT) (i : Int) (hK : 1 ≤ K.a ∧ K.a ≤ 1099511627776) : Rd Tryz.prog 166 #[pt q, .int .i64 0, .int .i64 i] m (kt q K t) (.bool (bgn K.a i)) := by
  unfold Rd bgn
  have hd : (35184372088831 : Int).tdiv K.a = 35184372088831 / K.a := Int.tdiv_eq_ediv_of_nonneg (by decide)
  have hw : IntKind.wrap .i64 ((35184372088831 : Int).tdiv K.a) = 35184372088831 / K.a := by
    rw [hd]
    have h1 := Int.ediv_le_self K.a (show (0 : Int) ≤ 35184372088831 by decide)
    have h2 := Int.ediv_nonneg (show (0 : Int) ≤ 35184372088831 by decide) (show 0 ≤ K.a by omega)
    exact IntWalk.i64_in _ (by omega)
  generalize (35184372088831 : Int) / K.a = e at hw ⊢
  refine Ct.enterV (by rfl) Tryz.func166 rfl Tryz.ntmps166 rfl (fun w0 Rest => ?_)
  (repeat' (first | refine zss ?_ | ((first | (with_reducible first | apply At.val | apply AtQ.val)); (first | exact pr_indexArr (k := 0) (by rfl) (by rfl) (by rfl) (by rfl) (by decide) | exact pr_quo (by rfl) (by rfl) (by omega) hw); exact rfl) | refine zs0 ?_ | (refine zsp ?_ ?_ <;> (intro hc; (try simp only [zhcs, reduceCtorEq] at hc); (try (exfalso; first | omega | contradiction | omega | exact absurd rfl hc | exact absurd (by decide) hc))))))
  all_goals ((with_reducible apply At.retB1 (B := kt q K t)); exact rfl; exact rfl; exact zml; exact zkp; exact ⟨by first | rfl | (exact congrArg Value.bool (decide_eq_decide.2 (by omega))) | (simp [hc]; done), rfl, rfl⟩)
/-- what put leaves -/
def PutP (q : Nat) (K : Cfg) (t : TT) (k : Nat) (i : Int) (x : Cell) : Value → Mem → List Res → Prop := fun v m' B =>
  v = .int .i64 (putE (t.get k).l (Kw K k) i x) ∧ ∃ n : Lst Slot, n.l = putO (t.get k).l (Kw K k) i x ∧ Sl m' cells 15 n.p n.c n.l ∧ B = kt q K (if putE (t.get k).l (Kw K k) i x = 0 then t.set n k else t)
theorem putE_cases (l : List Slot) (w i : Int) (x : Cell) : putE l w i x = 0 ∨ putE l w i x = 2 := by
  unfold putE
  split
  · exact .inl rfl
  · exact .inr rfl
theorem put0 {m : Mem} (q : Nat) (K : Cfg) (t : TT) (i : Int) (x : Cell) (ho : t.Ok m) (hi : -9223372036854775808 ≤ i ∧ i ≤ 9223372036854775807) (hx : -9223372036854775808 ≤ x.n ∧ x.n ≤ 9223372036854775807) :
    Ct Tryz.prog 167 #[pt q, .int .i64 0, .int .i64 i, x.v] m (kt q K t) (PutP q K t 0 i x) := by
  obtain ⟨⟨p1, c1, l1⟩, ⟨p2, c2, l2⟩, ⟨p3, c3, l3⟩⟩ := t
  have k1 := fun (m' : Mem) (h : m.le m') => put_ (m := m') p1 c1 l1 K.a i x ho.a.i hi hx ho.a.n (ho.a.sl.mono h)
  unfold PutP
  show Ct _ _ _ _ _ (fun v m' B => v = .int .i64 (putE l1 K.a i x) ∧ ∃ n : Lst Slot, n.l = putO l1 K.a i x ∧ Sl m' cells 15 n.p n.c n.l ∧ B = kt q K (if putE l1 K.a i x = 0 then _ else _))
  generalize putO l1 K.a i x = o at *
  rcases putE_cases l1 K.a i x with e | e
  · rw [e] at k1 ⊢
    clear e ho
    refine Ct.enterV (by rfl) Tryz.func167 rfl Tryz.ntmps167 rfl (fun w0 Rest => ?_)
    (repeat' (first | ((with_reducible apply At.mixed (id := 1) 21 (.q 0 (.q 1 (.q 2 (.q 3 (.q 4 (.q 5 (.q 6 (.q 7 (.q 8 (.q 9 (.q 10 (.q 11 (.q 12 (.q 13 (.q 14 (.x 15 (.q 16 (.q 17 (.q 18 (.q 19 (.q 20 .done)))))))))))))))))))))); exact rfl; kernel_rfl; kernel_rfl; kernel_rfl) | refine zsx ?_ | refine zss ?_ | ((with_reducible apply AtM.bo); exact rfl; exact rfl; exact rfl) | ((first | (with_reducible first | apply At.val | apply AtQ.val) | ((with_reducible first | apply AtM1.valz | apply AtM1.val); exact rfl) | ((with_reducible apply AtM1.val); exact rfl)); (exact pr_indexArr (k := 0) (by rfl) (by rfl) (by rfl) (by rfl) (by decide)); exact rfl) | refine zs0 ?_ | refine zx0 ?_ | ((with_reducible first | apply At.c1 | apply At.c0); exact rfl; exact rfl; exact k1 _ zml; exact ztk; kernel_rfl; rintro v' m' B' hm' ⟨rfl, p9, c9, rfl, sl9⟩; (try replace sl9 := sl9.mono hm'); (try (have hq0 : hm' = Mem.le_refl _ := rfl; clear hq0 hm'))) | ((with_reducible apply At.box (d := 7)); exact rfl; exact rfl; exact rfl; intro b7) | (refine zsp ?_ ?_ <;> (intro hc; (try simp only [zhcs, reduceCtorEq] at hc); (try (exfalso; first | contradiction | omega | exact absurd rfl hc | exact absurd (by decide) hc))))))
    all_goals ((with_reducible apply At.retB1 (B := kt q K ⟨⟨p9, c9, o⟩, ⟨p2, c2, l2⟩, ⟨p3, c3, l3⟩⟩)); exact rfl; exact rfl; exact zml; exact zkp; exact ⟨rfl, ⟨p9, c9, o⟩, rfl, sl9, rfl⟩)
  · rw [e] at k1 ⊢
    clear e ho
    refine Ct.enterV (by rfl) Tryz.func167 rfl Tryz.ntmps167 rfl (fun w0 Rest => ?_)
    (repeat' (first | ((with_reducible apply At.mixed (id := 1) 21 (.q 0 (.q 1 (.q 2 (.q 3 (.q 4 (.q 5 (.q 6 (.q 7 (.q 8 (.q 9 (.q 10 (.q 11 (.q 12 (.q 13 (.q 14 (.x 15 (.q 16 (.q 17 (.q 18 (.q 19 (.q 20 .done)))))))))))))))))))))); exact rfl; kernel_rfl; kernel_rfl; kernel_rfl) | refine zsx ?_ | refine zss ?_ | ((with_reducible apply AtM.bo); exact rfl; exact rfl; exact rfl) | ((first | (with_reducible first | apply At.val | apply AtQ.val) | ((with_reducible first | apply AtM1.valz | apply AtM1.val); exact rfl) | ((with_reducible apply AtM1.val); exact rfl)); (exact pr_indexArr (k := 0) (by rfl) (by rfl) (by rfl) (by rfl) (by decide)); exact rfl) | refine zs0 ?_ | refine zx0 ?_ | ((with_reducible first | apply At.c1 | apply At.c0); exact rfl; exact rfl; exact k1 _ zml; exact ztk; kernel_rfl; rintro v' m' B' hm' ⟨rfl, p9, c9, rfl, sl9⟩; (try replace sl9 := sl9.mono hm'); (try (have hq0 : hm' = Mem.le_refl _ := rfl; clear hq0 hm'))) | ((with_reducible apply At.box (d := 7)); exact rfl; exact rfl; exact rfl; intro b7) | (refine zsp ?_ ?_ <;> (intro hc; (try simp only [zhcs, reduceCtorEq] at hc); (try (exfalso; first | contradiction | omega | exact absurd rfl hc | exact absurd (by decide) hc))))))
    all_goals ((with_reducible apply At.retB1 (B := kt q K ⟨⟨p1, c1, l1⟩, ⟨p2, c2, l2⟩, ⟨p3, c3, l3⟩⟩)); exact rfl; exact rfl; exact zml; exact zkp; exact ⟨rfl, ⟨p9, c9, o⟩, rfl, sl9, rfl⟩)
theorem put1 {m : Mem} (q : Nat) (K : Cfg) (t : TT) (i : Int) (x : Cell) (ho : t.Ok m) (hi : -9223372036854775808 ≤ i ∧ i ≤ 9223372036854775807) (hx : -9223372036854775808 ≤ x.n ∧ x.n ≤ 9223372036854775807) :
    Ct Tryz.prog 167 #[pt q, (.int .i64 1), .int .i64 i, x.v] m (kt q K t) (PutP q K t 1 i x) := by
  obtain ⟨⟨p1, c1, l1⟩, ⟨p2, c2, l2⟩, ⟨p3, c3, l3⟩⟩ := t
  have k1 := fun (m' : Mem) (h : m.le m') => put_ (m := m') p2 c2 l2 K.b i x ho.b.i hi hx ho.b.n (ho.b.sl.mono h)
  unfold PutP
  show Ct _ _ _ _ _ (fun v m' B => v = .int .i64 (putE l2 K.b i x) ∧ ∃ n : Lst Slot, n.l = putO l2 K.b i x ∧ Sl m' cells 15 n.p n.c n.l ∧ B = kt q K (if putE l2 K.b i x = 0 then _ else _))
  generalize putO l2 K.b i x = o at *
  rcases putE_cases l2 K.b i x with e | e
  · rw [e] at k1 ⊢
    clear e ho
    refine Ct.enterV (by rfl) Tryz.func167 rfl Tryz.ntmps167 rfl (fun w0 Rest => ?_)
    (repeat' (first | ((with_reducible apply At.mixed (id := 1) 21 (.q 0 (.q 1 (.q 2 (.q 3 (.q 4 (.q 5 (.q 6 (.q 7 (.q 8 (.q 9 (.q 10 (.q 11 (.q 12 (.q 13 (.q 14 (.x 15 (.q 16 (.q 17 (.q 18 (.q 19 (.q 20 .done)))))))))))))))))))))); exact rfl; kernel_rfl; kernel_rfl; kernel_rfl) | refine zsx ?_ | refine zss ?_ | ((with_reducible apply AtM.bo); exact rfl; exact rfl; exact rfl) | ((first | (with_reducible first | apply At.val | apply AtQ.val) | ((with_reducible first | apply AtM1.valz | apply AtM1.val); exact rfl) | ((with_reducible apply AtM1.val); exact rfl)); (exact pr_indexArr (k := 1) (by rfl) (by rfl) (by rfl) (by rfl) (by decide)); exact rfl) | refine zs0 ?_ | refine zx0 ?_ | ((with_reducible first | apply At.c1 | apply At.c0); exact rfl; exact rfl; exact k1 _ zml; exact ztk; kernel_rfl; rintro v' m' B' hm' ⟨rfl, p9, c9, rfl, sl9⟩; (try replace sl9 := sl9.mono hm'); (try (have hq0 : hm' = Mem.le_refl _ := rfl; clear hq0 hm'))) | ((with_reducible apply At.box (d := 7)); exact rfl; exact rfl; exact rfl; intro b7) | (refine zsp ?_ ?_ <;> (intro hc; (try simp only [zhcs, reduceCtorEq] at hc); (try (exfalso; first | contradiction | omega | exact absurd rfl hc | exact absurd (by decide) hc))))))
    all_goals ((with_reducible apply At.retB1 (B := kt q K ⟨⟨p1, c1, l1⟩, ⟨p9, c9, o⟩, ⟨p3, c3, l3⟩⟩)); exact rfl; exact rfl; exact zml; exact zkp; exact ⟨rfl, ⟨p9, c9, o⟩, rfl, sl9, rfl⟩)
  · rw [e] at k1 ⊢
    clear e ho
    refine Ct.enterV (by rfl) Tryz.func167 rfl Tryz.ntmps167 rfl (fun w0 Rest => ?_)
    (repeat' (first | ((with_reducible apply At.mixed (id := 1) 21 (.q 0 (.q 1 (.q 2 (.q 3 (.q 4 (.q 5 (.q 6 (.q 7 (.q 8 (.q 9 (.q 10 (.q 11 (.q 12 (.q 13 (.q 14 (.x 15 (.q 16 (.q 17 (.q 18 (.q 19 (.q 20 .done)))))))))))))))))))))); exact rfl; kernel_rfl; kernel_rfl; kernel_rfl) | refine zsx ?_ | refine zss ?_ | ((with_reducible apply AtM.bo); exact rfl; exact rfl; exact rfl) | ((first | (with_reducible first | apply At.val | apply AtQ.val) | ((with_reducible first | apply AtM1.valz | apply AtM1.val); exact rfl) | ((with_reducible apply AtM1.val); exact rfl)); (exact pr_indexArr (k := 1) (by rfl) (by rfl) (by rfl) (by rfl) (by decide)); exact rfl) | refine zs0 ?_ | refine zx0 ?_ | ((with_reducible first | apply At.c1 | apply At.c0); exact rfl; exact rfl; exact k1 _ zml; exact ztk; kernel_rfl; rintro v' m' B' hm' ⟨rfl, p9, c9, rfl, sl9⟩; (try replace sl9 := sl9.mono hm'); (try (have hq0 : hm' = Mem.le_refl _ := rfl; clear hq0 hm'))) | ((with_reducible apply At.box (d := 7)); exact rfl; exact rfl; exact rfl; intro b7) | (refine zsp ?_ ?_ <;> (intro hc; (try simp only [zhcs, reduceCtorEq] at hc); (try (exfalso; first | contradiction | omega | exact absurd rfl hc | exact absurd (by decide) hc))))))
    all_goals ((with_reducible apply At.retB1 (B := kt q K ⟨⟨p1, c1, l1⟩, ⟨p2, c2, l2⟩, ⟨p3, c3, l3⟩⟩)); exact rfl; exact rfl; exact zml; exact zkp; exact ⟨rfl, ⟨p9, c9, o⟩, rfl, sl9, rfl⟩)
theorem put2 {m : Mem} (q : Nat) (K : Cfg) (t : TT) (i : Int) (x : Cell) (ho : t.Ok m) (hi : -9223372036854775808 ≤ i ∧ i ≤ 9223372036854775807) (hx : -9223372036854775808 ≤ x.n ∧ x.n ≤ 9223372036854775807) :
    Ct Tryz.prog 167 #[pt q, (.int .i64 2), .int .i64 i, x.v] m (kt q K t) (PutP q K t 2 i x) := by
  obtain ⟨⟨p1, c1, l1⟩, ⟨p2, c2, l2⟩, ⟨p3, c3, l3⟩⟩ := t
  have k1 := fun (m' : Mem) (h : m.le m') => put_ (m := m') p3 c3 l3 K.d i x ho.c.i hi hx ho.c.n (ho.c.sl.mono h)
  unfold PutP
  show Ct _ _ _ _ _ (fun v m' B => v = .int .i64 (putE l3 K.d i x) ∧ ∃ n : Lst Slot, n.l = putO l3 K.d i x ∧ Sl m' cells 15 n.p n.c n.l ∧ B = kt q K (if putE l3 K.d i x = 0 then _ else _))
  generalize putO l3 K.d i x = o at *
  rcases putE_cases l3 K.d i x with e | e
  · rw [e] at k1 ⊢
    clear e ho
    refine Ct.enterV (by rfl) Tryz.func167 rfl Tryz.ntmps167 rfl (fun w0 Rest => ?_)
    (repeat' (first | ((with_reducible apply At.mixed (id := 1) 21 (.q 0 (.q 1 (.q 2 (.q 3 (.q 4 (.q 5 (.q 6 (.q 7 (.q 8 (.q 9 (.q 10 (.q 11 (.q 12 (.q 13 (.q 14 (.x 15 (.q 16 (.q 17 (.q 18 (.q 19 (.q 20 .done)))))))))))))))))))))); exact rfl; kernel_rfl; kernel_rfl; kernel_rfl) | refine zsx ?_ | refine zss ?_ | ((with_reducible apply AtM.bo); exact rfl; exact rfl; exact rfl) | ((first | (with_reducible first | apply At.val | apply AtQ.val) | ((with_reducible first | apply AtM1.valz | apply AtM1.val); exact rfl) | ((with_reducible apply AtM1.val); exact rfl)); (exact pr_indexArr (k := 2) (by rfl) (by rfl) (by rfl) (by rfl) (by decide)); exact rfl) | refine zs0 ?_ | refine zx0 ?_ | ((with_reducible first | apply At.c1 | apply At.c0); exact rfl; exact rfl; exact k1 _ zml; exact ztk; kernel_rfl; rintro v' m' B' hm' ⟨rfl, p9, c9, rfl, sl9⟩; (try replace sl9 := sl9.mono hm'); (try (have hq0 : hm' = Mem.le_refl _ := rfl; clear hq0 hm'))) | ((with_reducible apply At.box (d := 7)); exact rfl; exact rfl; exact rfl; intro b7) | (refine zsp ?_ ?_ <;> (intro hc; (try simp only [zhcs, reduceCtorEq] at hc); (try (exfalso; first | contradiction | omega | exact absurd rfl hc | exact absurd (by decide) hc))))))
    all_goals ((with_reducible apply At.retB1 (B := kt q K ⟨⟨p1, c1, l1⟩, ⟨p2, c2, l2⟩, ⟨p9, c9, o⟩⟩)); exact rfl; exact rfl; exact zml; exact zkp; exact ⟨rfl, ⟨p9, c9, o⟩, rfl, sl9, rfl⟩)
  · rw [e] at k1 ⊢
    clear e ho
    refine Ct.enterV (by rfl) Tryz.func167 rfl Tryz.ntmps167 rfl (fun w0 Rest => ?_)
    (repeat' (first | ((with_reducible apply At.mixed (id := 1) 21 (.q 0 (.q 1 (.q 2 (.q 3 (.q 4 (.q 5 (.q 6 (.q 7 (.q 8 (.q 9 (.q 10 (.q 11 (.q 12 (.q 13 (.q 14 (.x 15 (.q 16 (.q 17 (.q 18 (.q 19 (.q 20 .done)))))))))))))))))))))); exact rfl; kernel_rfl; kernel_rfl; kernel_rfl) | refine zsx ?_ | refine zss ?_ | ((with_reducible apply AtM.bo); exact rfl; exact rfl; exact rfl) | ((first | (with_reducible first | apply At.val | apply AtQ.val) | ((with_reducible first | apply AtM1.valz | apply AtM1.val); exact rfl) | ((with_reducible apply AtM1.val); exact rfl)); (exact pr_indexArr (k := 2) (by rfl) (by rfl) (by rfl) (by rfl) (by decide)); exact rfl) | refine zs0 ?_ | refine zx0 ?_ | ((with_reducible first | apply At.c1 | apply At.c0); exact rfl; exact rfl; exact k1 _ zml; exact ztk; kernel_rfl; rintro v' m' B' hm' ⟨rfl, p9, c9, rfl, sl9⟩; (try replace sl9 := sl9.mono hm'); (try (have hq0 : hm' = Mem.le_refl _ := rfl; clear hq0 hm'))) | ((with_reducible apply At.box (d := 7)); exact rfl; exact rfl; exact rfl; intro b7) | (refine zsp ?_ ?_ <;> (intro hc; (try simp only [zhcs, reduceCtorEq] at hc); (try (exfalso; first | contradiction | omega | exact absurd rfl hc | exact absurd (by decide) hc))))))
    all_goals ((with_reducible apply At.retB1 (B := kt q K ⟨⟨p1, c1, l1⟩, ⟨p2, c2, l2⟩, ⟨p3, c3, l3⟩⟩)); exact rfl; exact rfl; exact zml; exact zkp; exact ⟨rfl, ⟨p9, c9, o⟩, rfl, sl9, rfl⟩)
theorem mul_le_f {i f w : Int} (hi : 0 ≤ i) (h0 : 0 ≤ f) (hf : f ≤ w) (hb : i * w ≤ 35184372088832) (hw : w ≤ 1099511627776) : (0 ≤ i * f ∧ i * f ≤ 35184372088832) ∧ (0 ≤ (i + 1) * f ∧ (i + 1) * f ≤ 36283883716608) := by
  have h1 : i * f ≤ i * w := Int.mul_le_mul_of_nonneg_left hf hi
  have h2 : 0 ≤ i * f := Int.mul_nonneg hi h0
  rw [Int.add_mul, Int.one_mul]
  omega
theorem made1 {m : Mem} (q : Nat) (K : Cfg) (t : TT) (i : Int) (ho : t.Ok m) (hK : K.ok) (hD : Dis t.a.l) (hi : 0 ≤ i ∧ i ≤ 35184372088832) (hb : i * K.b ≤ 35184372088832) :
    Rd Tryz.prog 204 #[pt q, .int .i64 1, .int .i64 i] m (kt q K t) (.tuple #[(madeC K t 1 i).1.v, .int .i64 (madeC K t 1 i).2]) := by
  unfold Rd
  have hu : 1 ≤ K.a ∧ K.a ≤ 1099511627776 := Kw_bd hK 0
  have hw : 1 ≤ K.b ∧ K.b ≤ 1099511627776 := Kw_bd hK 1
  show Ct _ _ _ _ _ (fun v m' B => v = .tuple #[(foldC t.a.l (i * (K.b / K.a)) ((i + 1) * (K.b / K.a))).1.v, .int .i64 (foldC t.a.l (i * (K.b / K.a)) ((i + 1) * (K.b / K.a))).2] ∧ _)
  have hq : (K.b).tdiv K.a = K.b / K.a := Int.tdiv_eq_ediv_of_nonneg (by omega)
  have f0 : 0 ≤ K.b / K.a := Int.ediv_nonneg (by omega) (by omega)
  have f1 : K.b / K.a ≤ K.b := Int.ediv_le_self _ (by omega)
  obtain ⟨⟨b1, b2⟩, b3, b4⟩ := mul_le_f hi.1 f0 f1 hb hw.2
  have w1 : IntKind.wrap .i64 ((K.b).tdiv K.a) = K.b / K.a := by rw [hq]; exact IntWalk.i64_in _ (by omega)
  generalize K.b / K.a = f at *
  have w2 : IntKind.wrap .i64 (i * f) = i * f := IntWalk.i64_in _ (by omega)
  have w3 : IntKind.wrap .i64 (i + 1) = i + 1 := IntWalk.i64_in _ (by omega)
  have w4 : IntKind.wrap .i64 ((i + 1) * f) = (i + 1) * f := IntWalk.i64_in _ (by omega)
  have w5 : IntKind.wrap .i64 ((1 : Int) - 1) = 0 := by decide
  have k1 := fun (m' : Mem) (h : m.le m') => fold_ (m := m') t.a.p t.a.c t.a.l (i * f) ((i + 1) * f) ho.a.i hD ho.a.n (ho.a.sl.mono h)
  generalize foldC t.a.l (i * f) ((i + 1) * f) = r at *
  clear ho hD b1 b2 b3 b4 hq f0 f1 hb
  obtain ⟨⟨p1, c1, l1⟩, ⟨p2, c2, l2⟩, ⟨p3, c3, l3⟩⟩ := t
  refine Ct.enterV (by rfl) Tryz.func204 rfl Tryz.ntmps204 rfl (fun w0 Rest => ?_)
  (repeat' (first | refine zss ?_ | ((first | (with_reducible first | apply At.val | apply AtQ.val)); (first | exact pr_sub (by rfl) (by rfl) w5 | exact pr_indexArr (k := 1) (by rfl) (by rfl) (by rfl) (by rfl) (by decide) | exact pr_indexArr (k := 0) (by rfl) (by rfl) (by rfl) (by rfl) (by decide) | exact pr_quo (by rfl) (by rfl) (by omega) w1 | exact pr_mul (by rfl) (by rfl) w2 | exact pr_add (by rfl) (by rfl) w3 | exact pr_mul (by rfl) (by rfl) w4); exact rfl) | refine zs0 ?_ | ((with_reducible first | apply AtM1.cr | apply AtQ.cr | apply At.cr); exact rfl; exact rfl; exact fun _ hmm => k1 _ hmm; exact ztk; kernel_rfl) | ((with_reducible apply At.alloc (d := 6)); exact rfl; exact rfl; intro b6) | (refine zsp ?_ ?_ <;> (intro hc; (try simp only [zhcs, reduceCtorEq] at hc); (try (exfalso; first | omega | contradiction | omega | exact absurd rfl hc | exact absurd (by decide) hc))))))
  all_goals ((with_reducible apply At.retV (B := kt q K ⟨⟨p1, c1, l1⟩, ⟨p2, c2, l2⟩, ⟨p3, c3, l3⟩⟩)); exact rfl; (repeat' (first | exact RVs.nil | (with_reducible apply RVs.cons) | exact rv_tmp (by rfl) | exact rv_cellN (by rfl) (by repeat constructor) (by rfl) (by rfl) (by rfl) | exact rv_cell1 (by rfl) (by repeat constructor) (by rfl) (by rfl))); exact zml; exact zkp; exact ⟨rfl, rfl, rfl⟩)
theorem made2 {m : Mem} (q : Nat) (K : Cfg) (t : TT) (i : Int) (ho : t.Ok m) (hK : K.ok) (hD : Dis t.b.l) (hi : 0 ≤ i ∧ i ≤ 35184372088832) (hb : i * K.d ≤ 35184372088832) :
    Rd Tryz.prog 204 #[pt q, .int .i64 2, .int .i64 i] m (kt q K t) (.tuple #[(madeC K t 2 i).1.v, .int .i64 (madeC K t 2 i).2]) := by
  unfold Rd
  have hu : 1 ≤ K.b ∧ K.b ≤ 1099511627776 := Kw_bd hK 1
  have hw : 1 ≤ K.d ∧ K.d ≤ 1099511627776 := Kw_bd hK 2
  show Ct _ _ _ _ _ (fun v m' B => v = .tuple #[(foldC t.b.l (i * (K.d / K.b)) ((i + 1) * (K.d / K.b))).1.v, .int .i64 (foldC t.b.l (i * (K.d / K.b)) ((i + 1) * (K.d / K.b))).2] ∧ _)
  have hq : (K.d).tdiv K.b = K.d / K.b := Int.tdiv_eq_ediv_of_nonneg (by omega)
  have f0 : 0 ≤ K.d / K.b := Int.ediv_nonneg (by omega) (by omega)
  have f1 : K.d / K.b ≤ K.d := Int.ediv_le_self _ (by omega)
  obtain ⟨⟨b1, b2⟩, b3, b4⟩ := mul_le_f hi.1 f0 f1 hb hw.2
  have w1 : IntKind.wrap .i64 ((K.d).tdiv K.b) = K.d / K.b := by rw [hq]; exact IntWalk.i64_in _ (by omega)
  generalize K.d / K.b = f at *
  have w2 : IntKind.wrap .i64 (i * f) = i * f := IntWalk.i64_in _ (by omega)
  have w3 : IntKind.wrap .i64 (i + 1) = i + 1 := IntWalk.i64_in _ (by omega)
  have w4 : IntKind.wrap .i64 ((i + 1) * f) = (i + 1) * f := IntWalk.i64_in _ (by omega)
  have w5 : IntKind.wrap .i64 ((2 : Int) - 1) = 1 := by decide
  have k1 := fun (m' : Mem) (h : m.le m') => fold_ (m := m') t.b.p t.b.c t.b.l (i * f) ((i + 1) * f) ho.b.i hD ho.b.n (ho.b.sl.mono h)
  generalize foldC t.b.l (i * f) ((i + 1) * f) = r at *
  clear ho hD b1 b2 b3 b4 hq f0 f1 hb
  obtain ⟨⟨p1, c1, l1⟩, ⟨p2, c2, l2⟩, ⟨p3, c3, l3⟩⟩ := t
  refine Ct.enterV (by rfl) Tryz.func204 rfl Tryz.ntmps204 rfl (fun w0 Rest => ?_)
  (repeat' (first | refine zss ?_ | ((first | (with_reducible first | apply At.val | apply AtQ.val)); (first | exact pr_sub (by rfl) (by rfl) w5 | exact pr_indexArr (k := 2) (by rfl) (by rfl) (by rfl) (by rfl) (by decide) | exact pr_indexArr (k := 1) (by rfl) (by rfl) (by rfl) (by rfl) (by decide) | exact pr_quo (by rfl) (by rfl) (by omega) w1 | exact pr_mul (by rfl) (by rfl) w2 | exact pr_add (by rfl) (by rfl) w3 | exact pr_mul (by rfl) (by rfl) w4); exact rfl) | refine zs0 ?_ | ((with_reducible first | apply AtM1.cr | apply AtQ.cr | apply At.cr); exact rfl; exact rfl; exact fun _ hmm => k1 _ hmm; exact ztk; kernel_rfl) | ((with_reducible apply At.alloc (d := 6)); exact rfl; exact rfl; intro b6) | (refine zsp ?_ ?_ <;> (intro hc; (try simp only [zhcs, reduceCtorEq] at hc); (try (exfalso; first | omega | contradiction | omega | exact absurd rfl hc | exact absurd (by decide) hc))))))
  all_goals ((with_reducible apply At.retV (B := kt q K ⟨⟨p1, c1, l1⟩, ⟨p2, c2, l2⟩, ⟨p3, c3, l3⟩⟩)); exact rfl; (repeat' (first | exact RVs.nil | (with_reducible apply RVs.cons) | exact rv_tmp (by rfl) | exact rv_cellN (by rfl) (by repeat constructor) (by rfl) (by rfl) (by rfl) | exact rv_cell1 (by rfl) (by repeat constructor) (by rfl) (by rfl))); exact zml; exact zkp; exact ⟨rfl, rfl, rfl⟩)
end Fo
end Go.Proofs.YtkoijdmlehkhbaaGreatDoor

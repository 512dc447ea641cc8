/- TopBetween: the rate of both together lies between the two rates; each rate says by how much it rose in a second. Conditions: the library's tables read as the row's cells say (the card ties them to the program's text). -/
import Derived.Test.YtnpgnlphdkbfiaaDoorTop1BZ7
/- TopBetween: the rate of both together lies between the two rates; each rate says by how much it rose in a second. Conditions: the library's tables read as the row's cells say (the card ties them to the program's text). -/
set_option linter.unusedSimpArgs false
set_option linter.unusedVariables false
set_option linter.unusedSectionVars false
set_option maxRecDepth 20000
set_option maxHeartbeats 4000000
namespace Go.Proofs.YtnpgnlphdkbfiaaDoor
open Go Go.J
attribute [local irreducible] At AtQ AtM AtM1 PR Ct Pu Rd Res.blk Res.own Res.ex RVs RV
namespace Ra
open Wide
/-- a fraction of small numbers, reduced -/
structure Red (X k n d : Nat) : Prop where
  ok : chk n d = 0
  ex : ∃ g, 0 < g ∧ n * g = X ∧ d * g = k
  hn : n ≤ X
  hd : d ≤ k
theorem rat_red {x k : Nat} (hx : x < 8589934592) (hk : k ≠ 0) : ∃ n d, rat x k = ((n, d), 0) ∧ Red (x * 1000) k n d := by
  have hs : sE (x * 1000) = 0 := if_pos (by omega)
  have hg : 0 < Nat.gcd (x * 1000) k := Nat.gcd_pos_of_pos_right _ (Nat.pos_of_ne_zero hk)
  refine ⟨x * 1000 / Nat.gcd (x * 1000) k, k / Nat.gcd (x * 1000) k, ?_, ?_, ⟨Nat.gcd (x * 1000) k, hg, Nat.div_mul_cancel (Nat.gcd_dvd_left _ _), Nat.div_mul_cancel (Nat.gcd_dvd_right _ _)⟩, Nat.div_le_self _ _, Nat.div_le_self _ _⟩
  · unfold rat
    rw [if_neg hk, if_neg (not_not_intro hs)]
    exact if_neg hk
  · unfold chk
    rw [if_neg]
    rintro (h | h)
    · have := Nat.div_mul_cancel (Nat.gcd_dvd_right (x * 1000) k)
      rw [h, Nat.zero_mul] at this
      exact hk this.symm
    · exact h (Nat.gcd_div_gcd_div_gcd_of_pos_right (Nat.pos_of_ne_zero hk))
theorem les_red {X k n d Y l p q : Nat} (h1 : Red X k n d) (h2 : Red Y l p q) (hX : X < 17592186044416) (hk : k < 17179869184) (hY : Y < 17592186044416) (hl : l < 17179869184) : les n d p q = (decide (X * l < Y * k), 0) := by
  obtain ⟨o1, ⟨g, hg, e1, e2⟩, a1, a2⟩ := h1
  obtain ⟨o2, ⟨f, hf, e3, e4⟩, a3, a4⟩ := h2
  have b1 : n * q ≤ 17592186044416 * 17179869184 := Nat.mul_le_mul (by omega) (by omega)
  have b2 : p * d ≤ 17592186044416 * 17179869184 := Nat.mul_le_mul (by omega) (by omega)
  unfold les
  rw [if_neg (fun h => h.elim (fun h => h o1) (fun h => h o2)), if_neg (fun h => h.elim (fun h => h (if_pos (by omega))) (fun h => h (if_pos (by omega))))]
  congr 1
  have c1 : X * l = n * q * (g * f) := by rw [← e1, ← e4, Nat.mul_mul_mul_comm]
  have c2 : Y * k = p * d * (g * f) := by rw [← e3, ← e2, Nat.mul_mul_mul_comm, Nat.mul_comm f g]
  rw [c1, c2]
  have hgf : 0 < g * f := Nat.mul_pos hg hf
  rw [decide_eq_decide]
  exact (Nat.mul_lt_mul_right hgf).symm
theorem flo_red {X k n d : Nat} (h : Red X k n d) : flo n d = (X / k, 0) := by
  obtain ⟨o1, ⟨g, hg, e1, e2⟩, a1, a2⟩ := h
  have hd : d ≠ 0 := by
    intro h0
    unfold chk at o1
    rw [if_pos (.inl h0)] at o1
    exact absurd o1 (by decide)
  unfold flo
  rw [if_neg hd, ← e1, ← e2, Nat.mul_div_mul_right _ _ hg]
set_option maxRecDepth 100000 in
theorem betweenL {m : Mem} (hz : TZ m) (hT : Tab m) (a b c d : Int) (ha : 0 ≤ a ∧ a ≤ 4294967295) (hb : 0 ≤ b ∧ b ≤ 4294967295) (hc' : 0 ≤ c ∧ c ≤ 4294967295) (hd : 0 ≤ d ∧ d ≤ 4294967295) :
    Ct Tryd.prog 4 #[.int .u32 a, .int .u32 b, .int .u32 c, .int .u32 d] m [] (fun v m' B => v = .bool true ∧ B = []) := by
  obtain ⟨A, rfl⟩ : ∃ e : Nat, a = (e : Int) := ⟨a.toNat, by omega⟩
  obtain ⟨B, rfl⟩ : ∃ e : Nat, b = (e : Int) := ⟨b.toNat, by omega⟩
  obtain ⟨C, rfl⟩ : ∃ e : Nat, c = (e : Int) := ⟨c.toNat, by omega⟩
  obtain ⟨D, rfl⟩ : ∃ e : Nat, d = (e : Int) := ⟨d.toNat, by omega⟩
  have hl := fun (m' : Mem) (h : m.le m') => begins1 (hz.mono h) (hT.mono h)
  have oA := of_ A (by omega)
  have oC := of_ C (by omega)
  have oS := of_ (A + C) (by omega)
  rw [Int.natCast_add] at oS
  have oT := of_ ((A + C) * 1000) (by omega)
  rw [show (((A + C) * 1000 : Nat) : Int) = 1000 * ((A : Int) + (C : Int)) by omega] at oT
  have k1 := fun (m' : Mem) (h : m.le m') => rate (m := m') (hz.mono h) A B (by omega) (by omega)
  have k2 := fun (m' : Mem) (h : m.le m') => rate (m := m') (hz.mono h) C D (by omega) (by omega)
  have k3 := fun (m' : Mem) (h : m.le m') => rate (m := m') (hz.mono h) (A + C) (B + D) (by omega) (by omega)
  rw [Int.natCast_add] at k3
  by_cases hB : B = 0
  · subst hB
    have k1' : ∀ m' : Mem, m.le m' → Rd Tryd.prog 12 #[wv A, .int .u64 0] m' [] (.tuple #[r4 0 0 0 0, .int .i64 12]) := fun m' h => Rd.cast (k1 m' h) (by rfl) (by kernel_rfl)
    clear k1
    generalize rat (A + C) (0 + D) = R at k3
    by_cases hD : D = 0
    · subst hD
      have k2' : ∀ m' : Mem, m.le m' → Rd Tryd.prog 12 #[wv C, .int .u64 0] m' [] (.tuple #[r4 0 0 0 0, .int .i64 12]) := fun m' h => Rd.cast (k2 m' h) (by rfl) (by kernel_rfl)
      clear k2
      refine Ct.enterV (by rfl) Tryd.func4 rfl Tryd.ntmps4 rfl (fun w0 Rest => ?_)
      (repeat' (first | refine zss ?_ | ((first | (with_reducible first | apply At.val | apply AtQ.val)); (exact zprA); exact rfl) | refine zs0 ?_ | ((with_reducible first | apply AtM1.cr | apply AtQ.cr | apply At.cr); exact rfl; exact rfl; exact fun _ hmm => hl _ hmm; exact ztk; kernel_rfl) | ((with_reducible first | apply AtM1.callp | apply AtQ.callp | apply At.callp); kernel_rfl; exact rfl; exact rfl; exact oA) | ((with_reducible first | apply AtM1.callp | apply AtQ.callp | apply At.callp); kernel_rfl; exact rfl; exact rfl; exact oC) | ((with_reducible first | apply AtM1.callp | apply AtQ.callp | apply At.callp); kernel_rfl; exact rfl; exact rfl; exact oS) | ((with_reducible first | apply AtM1.cr | apply AtQ.cr | apply At.cr); exact rfl; exact rfl; exact fun _ hmm => k1' _ hmm; exact ztk; kernel_rfl) | ((with_reducible first | apply AtM1.cr | apply AtQ.cr | apply At.cr); exact rfl; exact rfl; exact fun _ hmm => k2' _ hmm; exact ztk; kernel_rfl) | ((with_reducible first | apply AtM1.cr | apply AtQ.cr | apply At.cr); exact rfl; exact rfl; exact fun _ hmm => k3 _ hmm; exact ztk; kernel_rfl) | ((with_reducible apply At.alloc (d := 9)); exact rfl; exact rfl; intro b9) | ((with_reducible apply At.alloc (d := 11)); exact rfl; exact rfl; intro b11) | ((with_reducible apply At.alloc (d := 13)); exact rfl; exact rfl; intro b13) | ((with_reducible apply At.alloc (d := 21)); exact rfl; exact rfl; intro b21) | ((with_reducible apply At.alloc (d := 23)); exact rfl; exact rfl; intro b23) | (refine zsp ?_ ?_ <;> (intro hc; (try simp only [zhcs, reduceCtorEq] at hc); (try (exfalso; first | (first | omega | exact absurd rfl hc | exact absurd hc (by decide)) | contradiction | omega | exact absurd rfl hc | exact absurd (by decide) hc))))))
      all_goals ((with_reducible apply At.retB1 (B := [])); exact rfl; exact rfl; exact zml; exact zkp; exact ⟨rfl, rfl⟩)
    · have nD : ¬ (D : Int) = 0 := by omega
      generalize rat C D = R2 at k2
      refine Ct.enterV (by rfl) Tryd.func4 rfl Tryd.ntmps4 rfl (fun w0 Rest => ?_)
      (repeat' (first | refine zss ?_ | ((first | (with_reducible first | apply At.val | apply AtQ.val)); (exact zprA); exact rfl) | refine zs0 ?_ | ((with_reducible first | apply AtM1.cr | apply AtQ.cr | apply At.cr); exact rfl; exact rfl; exact fun _ hmm => hl _ hmm; exact ztk; kernel_rfl) | ((with_reducible first | apply AtM1.callp | apply AtQ.callp | apply At.callp); kernel_rfl; exact rfl; exact rfl; exact oA) | ((with_reducible first | apply AtM1.callp | apply AtQ.callp | apply At.callp); kernel_rfl; exact rfl; exact rfl; exact oC) | ((with_reducible first | apply AtM1.callp | apply AtQ.callp | apply At.callp); kernel_rfl; exact rfl; exact rfl; exact oS) | ((with_reducible first | apply AtM1.cr | apply AtQ.cr | apply At.cr); exact rfl; exact rfl; exact fun _ hmm => k1' _ hmm; exact ztk; kernel_rfl) | ((with_reducible first | apply AtM1.cr | apply AtQ.cr | apply At.cr); exact rfl; exact rfl; exact fun _ hmm => k2 _ hmm; exact ztk; kernel_rfl) | ((with_reducible first | apply AtM1.cr | apply AtQ.cr | apply At.cr); exact rfl; exact rfl; exact fun _ hmm => k3 _ hmm; exact ztk; kernel_rfl) | ((with_reducible apply At.alloc (d := 9)); exact rfl; exact rfl; intro b9) | ((with_reducible apply At.alloc (d := 11)); exact rfl; exact rfl; intro b11) | ((with_reducible apply At.alloc (d := 13)); exact rfl; exact rfl; intro b13) | ((with_reducible apply At.alloc (d := 21)); exact rfl; exact rfl; intro b21) | ((with_reducible apply At.alloc (d := 23)); exact rfl; exact rfl; intro b23) | (refine zsp ?_ ?_ <;> (intro hc; (try simp only [zhcs, reduceCtorEq] at hc); (try (exfalso; first | (first | omega | exact absurd rfl hc | exact absurd hc (by decide) | exact absurd hc nD | exact absurd nD hc) | contradiction | omega | exact absurd rfl hc | exact absurd (by decide) hc))))))
      all_goals ((with_reducible apply At.retB1 (B := [])); exact rfl; exact rfl; exact zml; exact zkp; exact ⟨rfl, rfl⟩)
  have nB : ¬ (B : Int) = 0 := by omega
  by_cases hD : D = 0
  · subst hD
    have k2' : ∀ m' : Mem, m.le m' → Rd Tryd.prog 12 #[wv C, .int .u64 0] m' [] (.tuple #[r4 0 0 0 0, .int .i64 12]) := fun m' h => Rd.cast (k2 m' h) (by rfl) (by kernel_rfl)
    clear k2
    generalize rat (A + C) (B + 0) = R at k3
    generalize rat A B = R2 at k1
    refine Ct.enterV (by rfl) Tryd.func4 rfl Tryd.ntmps4 rfl (fun w0 Rest => ?_)
    (repeat' (first | refine zss ?_ | ((first | (with_reducible first | apply At.val | apply AtQ.val)); (exact zprA); exact rfl) | refine zs0 ?_ | ((with_reducible first | apply AtM1.cr | apply AtQ.cr | apply At.cr); exact rfl; exact rfl; exact fun _ hmm => hl _ hmm; exact ztk; kernel_rfl) | ((with_reducible first | apply AtM1.callp | apply AtQ.callp | apply At.callp); kernel_rfl; exact rfl; exact rfl; exact oA) | ((with_reducible first | apply AtM1.callp | apply AtQ.callp | apply At.callp); kernel_rfl; exact rfl; exact rfl; exact oC) | ((with_reducible first | apply AtM1.callp | apply AtQ.callp | apply At.callp); kernel_rfl; exact rfl; exact rfl; exact oS) | ((with_reducible first | apply AtM1.cr | apply AtQ.cr | apply At.cr); exact rfl; exact rfl; exact fun _ hmm => k1 _ hmm; exact ztk; kernel_rfl) | ((with_reducible first | apply AtM1.cr | apply AtQ.cr | apply At.cr); exact rfl; exact rfl; exact fun _ hmm => k2' _ hmm; exact ztk; kernel_rfl) | ((with_reducible first | apply AtM1.cr | apply AtQ.cr | apply At.cr); exact rfl; exact rfl; exact fun _ hmm => k3 _ hmm; exact ztk; kernel_rfl) | ((with_reducible apply At.alloc (d := 9)); exact rfl; exact rfl; intro b9) | ((with_reducible apply At.alloc (d := 11)); exact rfl; exact rfl; intro b11) | ((with_reducible apply At.alloc (d := 13)); exact rfl; exact rfl; intro b13) | ((with_reducible apply At.alloc (d := 21)); exact rfl; exact rfl; intro b21) | ((with_reducible apply At.alloc (d := 23)); exact rfl; exact rfl; intro b23) | (refine zsp ?_ ?_ <;> (intro hc; (try simp only [zhcs, reduceCtorEq] at hc); (try (exfalso; first | (first | omega | exact absurd rfl hc | exact absurd hc (by decide) | exact absurd hc nB | exact absurd nB hc) | contradiction | omega | exact absurd rfl hc | exact absurd (by decide) hc))))))
    all_goals ((with_reducible apply At.retB1 (B := [])); exact rfl; exact rfl; exact zml; exact zkp; exact ⟨rfl, rfl⟩)
  have nD : ¬ (D : Int) = 0 := by omega
  obtain ⟨n1, d1, e1, r1⟩ := rat_red (x := A) (by omega) hB
  obtain ⟨n2, d2, e2, r2⟩ := rat_red (x := C) (by omega) hD
  obtain ⟨n3, d3, e3, r3⟩ := rat_red (x := A + C) (k := B + D) (by omega) (by omega)
  rw [e1] at k1
  rw [e2] at k2
  rw [e3] at k3
  clear e1 e2 e3
  have bn1 : n1 < 340282366920938463463374607431768211456 := by have := r1.hn; omega
  have bd1 : d1 < 340282366920938463463374607431768211456 := by have := r1.hd; omega
  have bn2 : n2 < 340282366920938463463374607431768211456 := by have := r2.hn; omega
  have bd2 : d2 < 340282366920938463463374607431768211456 := by have := r2.hd; omega
  have bn3 : n3 < 340282366920938463463374607431768211456 := by have := r3.hn; omega
  have bd3 : d3 < 340282366920938463463374607431768211456 := by have := r3.hd; omega
  have l21 := fun (m' : Mem) (h : m.le m') => lessT (m := m') (hz.mono h) n2 d2 n1 d1 bn2 bd2 bn1 bd1
  have l31 := fun (m' : Mem) (h : m.le m') => lessT (m := m') (hz.mono h) n3 d3 n1 d1 bn3 bd3 bn1 bd1
  have l32 := fun (m' : Mem) (h : m.le m') => lessT (m := m') (hz.mono h) n3 d3 n2 d2 bn3 bd3 bn2 bd2
  have l13 := fun (m' : Mem) (h : m.le m') => lessT (m := m') (hz.mono h) n1 d1 n3 d3 bn1 bd1 bn3 bd3
  have l23 := fun (m' : Mem) (h : m.le m') => lessT (m := m') (hz.mono h) n2 d2 n3 d3 bn2 bd2 bn3 bd3
  have fl := floor n3 d3 bn3 bd3
  have dv := div ((A + C) * 1000) (B + D) (by omega) (by omega) (by omega)
  rw [Int.natCast_add] at dv
  rw [flo_red r3] at fl
  rw [les_red r2 r1 (by omega) (by omega) (by omega) (by omega)] at l21
  rw [les_red r3 r1 (by omega) (by omega) (by omega) (by omega)] at l31
  rw [les_red r3 r2 (by omega) (by omega) (by omega) (by omega)] at l32
  rw [les_red r1 r3 (by omega) (by omega) (by omega) (by omega)] at l13
  rw [les_red r2 r3 (by omega) (by omega) (by omega) (by omega)] at l23
  have hm := Nat.mod_lt ((A + C) * 1000) (show 0 < B + D by omega)
  clear r1 r2 r3 bn1 bd1 bn2 bd2 bn3 bd3 hz hT
  have x1 : (A + C) * 1000 * B = A * B * 1000 + C * B * 1000 := by rw [Nat.mul_right_comm, Nat.add_mul, Nat.add_mul]
  have x2 : (A + C) * 1000 * D = A * D * 1000 + C * D * 1000 := by rw [Nat.mul_right_comm, Nat.add_mul, Nat.add_mul]
  have x3 : A * 1000 * (B + D) = A * B * 1000 + A * D * 1000 := by rw [Nat.mul_right_comm, Nat.mul_add, Nat.add_mul]
  have x4 : C * 1000 * (B + D) = C * B * 1000 + C * D * 1000 := by rw [Nat.mul_right_comm, Nat.mul_add, Nat.add_mul]
  rw [x1, x3] at l31 l13
  rw [x2, x4] at l32 l23
  rw [Nat.mul_right_comm C 1000 B, Nat.mul_right_comm A 1000 D] at l21
  clear x1 x2 x3 x4
  generalize A * B = ab at l31 l13
  generalize C * B = cb at l31 l13 l32 l23 l21
  generalize A * D = ad at l31 l13 l32 l23 l21
  generalize C * D = cd at l32 l23
  generalize (A + C) * 1000 / (B + D) = q at fl dv
  generalize (A + C) * 1000 % (B + D) = r at dv hm
  by_cases hlt : cb * 1000 < ad * 1000
  · rw [decide_eq_true hlt] at l21
    rw [decide_eq_false (show ¬ ad * 1000 + cd * 1000 < cb * 1000 + cd * 1000 by omega)] at l32
    rw [decide_eq_false (show ¬ ab * 1000 + ad * 1000 < ab * 1000 + cb * 1000 by omega)] at l13
    clear l31 l23 hlt
    refine Ct.enterV (by rfl) Tryd.func4 rfl Tryd.ntmps4 rfl (fun w0 Rest => ?_)
    (repeat' (first | refine zss ?_ | ((first | (with_reducible first | apply At.val | apply AtQ.val)); (exact zprA); exact rfl) | refine zs0 ?_ | ((with_reducible first | apply AtM1.cr | apply AtQ.cr | apply At.cr); exact rfl; exact rfl; exact fun _ hmm => hl _ hmm; exact ztk; kernel_rfl) | ((with_reducible first | apply AtM1.callp | apply AtQ.callp | apply At.callp); kernel_rfl; exact rfl; exact rfl; exact oA) | ((with_reducible first | apply AtM1.callp | apply AtQ.callp | apply At.callp); kernel_rfl; exact rfl; exact rfl; exact oC) | ((with_reducible first | apply AtM1.callp | apply AtQ.callp | apply At.callp); kernel_rfl; exact rfl; exact rfl; exact oS) | ((with_reducible first | apply AtM1.callp | apply AtQ.callp | apply At.callp); kernel_rfl; exact rfl; exact rfl; exact oT) | ((with_reducible first | apply AtM1.cr | apply AtQ.cr | apply At.cr); exact rfl; exact rfl; exact fun _ hmm => k1 _ hmm; exact ztk; kernel_rfl) | ((with_reducible first | apply AtM1.cr | apply AtQ.cr | apply At.cr); exact rfl; exact rfl; exact fun _ hmm => k2 _ hmm; exact ztk; kernel_rfl) | ((with_reducible first | apply AtM1.cr | apply AtQ.cr | apply At.cr); exact rfl; exact rfl; exact fun _ hmm => k3 _ hmm; exact ztk; kernel_rfl) | ((with_reducible first | apply AtM1.cr | apply AtQ.cr | apply At.cr); exact rfl; exact rfl; exact fun _ hmm => l21 _ hmm; exact ztk; kernel_rfl) | ((with_reducible first | apply AtM1.cr | apply AtQ.cr | apply At.cr); exact rfl; exact rfl; exact fun _ hmm => l32 _ hmm; exact ztk; kernel_rfl) | ((with_reducible first | apply AtM1.cr | apply AtQ.cr | apply At.cr); exact rfl; exact rfl; exact fun _ hmm => l13 _ hmm; exact ztk; kernel_rfl) | ((with_reducible first | apply AtM1.callp | apply AtQ.callp | apply At.callp); kernel_rfl; exact rfl; exact rfl; exact fl) | ((with_reducible first | apply AtM1.callp | apply AtQ.callp | apply At.callp); kernel_rfl; exact rfl; exact rfl; exact dv) | ((with_reducible apply At.alloc (d := 9)); exact rfl; exact rfl; intro b9) | ((with_reducible apply At.alloc (d := 11)); exact rfl; exact rfl; intro b11) | ((with_reducible apply At.alloc (d := 13)); exact rfl; exact rfl; intro b13) | ((with_reducible apply At.alloc (d := 21)); exact rfl; exact rfl; intro b21) | ((with_reducible apply At.alloc (d := 23)); exact rfl; exact rfl; intro b23) | (refine zsp ?_ ?_ <;> (intro hc; (try simp only [zhcs, reduceCtorEq] at hc); (try (exfalso; first | (first | omega | exact absurd rfl hc | exact absurd hc (by decide) | exact absurd hc nD | exact absurd hc nB) | contradiction | omega | exact absurd rfl hc | exact absurd (by decide) hc))))))
    all_goals ((with_reducible apply At.retB1 (B := [])); exact rfl; exact rfl; exact zml; exact zkp; exact ⟨by first | rfl | (simp [andL]; omega), rfl⟩)
  · rw [decide_eq_false hlt] at l21
    rw [decide_eq_false (show ¬ ab * 1000 + cb * 1000 < ab * 1000 + ad * 1000 by omega)] at l31
    rw [decide_eq_false (show ¬ cb * 1000 + cd * 1000 < ad * 1000 + cd * 1000 by omega)] at l23
    clear l32 l13 hlt
    refine Ct.enterV (by rfl) Tryd.func4 rfl Tryd.ntmps4 rfl (fun w0 Rest => ?_)
    (repeat' (first | refine zss ?_ | ((first | (with_reducible first | apply At.val | apply AtQ.val)); (exact zprA); exact rfl) | refine zs0 ?_ | ((with_reducible first | apply AtM1.cr | apply AtQ.cr | apply At.cr); exact rfl; exact rfl; exact fun _ hmm => hl _ hmm; exact ztk; kernel_rfl) | ((with_reducible first | apply AtM1.callp | apply AtQ.callp | apply At.callp); kernel_rfl; exact rfl; exact rfl; exact oA) | ((with_reducible first | apply AtM1.callp | apply AtQ.callp | apply At.callp); kernel_rfl; exact rfl; exact rfl; exact oC) | ((with_reducible first | apply AtM1.callp | apply AtQ.callp | apply At.callp); kernel_rfl; exact rfl; exact rfl; exact oS) | ((with_reducible first | apply AtM1.callp | apply AtQ.callp | apply At.callp); kernel_rfl; exact rfl; exact rfl; exact oT) | ((with_reducible first | apply AtM1.cr | apply AtQ.cr | apply At.cr); exact rfl; exact rfl; exact fun _ hmm => k1 _ hmm; exact ztk; kernel_rfl) | ((with_reducible first | apply AtM1.cr | apply AtQ.cr | apply At.cr); exact rfl; exact rfl; exact fun _ hmm => k2 _ hmm; exact ztk; kernel_rfl) | ((with_reducible first | apply AtM1.cr | apply AtQ.cr | apply At.cr); exact rfl; exact rfl; exact fun _ hmm => k3 _ hmm; exact ztk; kernel_rfl) | ((with_reducible first | apply AtM1.cr | apply AtQ.cr | apply At.cr); exact rfl; exact rfl; exact fun _ hmm => l21 _ hmm; exact ztk; kernel_rfl) | ((with_reducible first | apply AtM1.cr | apply AtQ.cr | apply At.cr); exact rfl; exact rfl; exact fun _ hmm => l31 _ hmm; exact ztk; kernel_rfl) | ((with_reducible first | apply AtM1.cr | apply AtQ.cr | apply At.cr); exact rfl; exact rfl; exact fun _ hmm => l23 _ hmm; exact ztk; kernel_rfl) | ((with_reducible first | apply AtM1.callp | apply AtQ.callp | apply At.callp); kernel_rfl; exact rfl; exact rfl; exact fl) | ((with_reducible first | apply AtM1.callp | apply AtQ.callp | apply At.callp); kernel_rfl; exact rfl; exact rfl; exact dv) | ((with_reducible apply At.alloc (d := 9)); exact rfl; exact rfl; intro b9) | ((with_reducible apply At.alloc (d := 11)); exact rfl; exact rfl; intro b11) | ((with_reducible apply At.alloc (d := 13)); exact rfl; exact rfl; intro b13) | ((with_reducible apply At.alloc (d := 21)); exact rfl; exact rfl; intro b21) | ((with_reducible apply At.alloc (d := 23)); exact rfl; exact rfl; intro b23) | (refine zsp ?_ ?_ <;> (intro hc; (try simp only [zhcs, reduceCtorEq] at hc); (try (exfalso; first | (first | omega | exact absurd rfl hc | exact absurd hc (by decide) | exact absurd hc nD | exact absurd hc nB) | contradiction | omega | exact absurd rfl hc | exact absurd (by decide) hc))))))
    all_goals ((with_reducible apply At.retB1 (B := [])); exact rfl; exact rfl; exact zml; exact zkp; exact ⟨by first | rfl | (simp [andL]; omega), rfl⟩)
end Ra
namespace TopBetweenCardL
open Go.ChangeShapes Go.WideShapes Go.ChangeAt Go.RowKit
open Go.ChangeMaps (open_string shut_string)
theorem own : ownKnob Tryd.prog.godebug = none := by kernel_rfl
theorem laidOut : laidOutB Tryd.prog = true := by kernel_rfl
set_option maxRecDepth 100000 in
theorem door_met (os : Os) (args : Array Value) : laidMetH Tryd.prog Rows.topBetweenRow.laid ((World.doorLaid Tryd.prog 400 os).forCall (fun _ _ => 0) ⟨#[], args, []⟩).memory :=
  laidMetH_of_parts3 (fuel := 8) (laidMet_of_run' 8 (by kernel_rfl) (by kernel_rfl)) (by kernel_rfl) (by kernel_rfl)
set_option maxRecDepth 100000 in
theorem lifted (os : Os) (started : os.Started) (H : Type) (enc : TypeId × Value → H) :
    ReturnsInHanded {} Tryd.checked os 4 .any (fun w args => (Rows.topBetweenSpec.pre enc Tryd.prog Tryd.f4 [] false w args ∧ laidMetH Tryd.prog Rows.topBetweenRow.laid w) ∧ sizedMet enc Tryd.prog Tryd.f4 (OpenSpec.ofChange Rows.topBetweenSpec) false w args)
      (Rows.topBetweenSpec.post enc Tryd.prog Tryd.f4 false true false false) := by
  refine returnsInHanded_of_change_and (C := Tryd.checked) (X := fun w _ => laidMetH Tryd.prog Rows.topBetweenRow.laid w) (fun _ _ _ hh h => h.of_heap hh) own started (by kernel_rfl) Tryd.func4
    (ChangeSpec.witness_shaped (enc := enc) (C := Tryd.checked) (os := os) (X := fun w _ => laidMetH Tryd.prog Rows.topBetweenRow.laid w) false (World.doorLaid Tryd.prog 400 os) #[.int .u32 0, .int .u32 0, .int .u32 0, .int .u32 0] 8 rfl (World.shaped_of_RefB (by kernel_rfl) (by kernel_rfl)) (by kernel_rfl) (by kernel_rfl) (by kernel_rfl) (door_met os _)) ?_
  intro W base args ds gs before hval0 hW hcnd _ hL _
  have hval : ∀ (j : Nat) t v, Tryd.f4.params[j]? = some t → args[j]? = some v → Value.okWide Tryd.prog W .any base t v := hval0
  have hW' := hW
  obtain ⟨p, q, hA0, hV, rfl, hfz, hnd⟩ := hW
  have hA : DataW.TrodAll enc Tryd.prog W 0 (fun _ => true) true Tryd.f4.params.toList args.toList ds p := hA0
  rw [Tryd.params4] at hA hval
  obtain ⟨rfl, rfl⟩ := trodVars_none hV
  have hlt : ∀ x ∈ p, x.block < W.heap.size := fun x hx => hW'.lt x (by simpa using hx)
  have hback := fun (W' : World) (bel : Below W.heap.size W W') => trodAll_below laidOut bel _ _ _ _ (by kernel_rfl) hA hlt
  obtain ⟨v0, vs0, d0, ds0, p0, q0, hargs, rfl, rfl, h0, r0⟩ := trodAll_cons hA
  obtain ⟨v1, vs1, d1, ds1, p1, q1, rfl, rfl, rfl, h1, r1⟩ := trodAll_cons r0
  obtain ⟨v2, vs2, d2, ds2, p2, q2, rfl, rfl, rfl, h2, r2⟩ := trodAll_cons r1
  obtain ⟨v3, vs3, d3, ds3, p3, q3, rfl, rfl, rfl, h3, r3⟩ := trodAll_cons r2
  obtain ⟨rfl, rfl, rfl⟩ := trodAll_nil r3
  obtain rfl : args = #[v0, v1, v2, v3] := by cases args; simp_all
  obtain ⟨a0, rfl, rfl, rfl, w0⟩ := open_int Tryd.underlying36 (hval 0 36 v0 rfl rfl) h0
  obtain ⟨a1, rfl, rfl, rfl, w1⟩ := open_int Tryd.underlying36 (hval 1 36 v1 rfl rfl) h1
  obtain ⟨a2, rfl, rfl, rfl, w2⟩ := open_int Tryd.underlying36 (hval 2 36 v2 rfl rfl) h2
  obtain ⟨a3, rfl, rfl, rfl, w3⟩ := open_int Tryd.underlying36 (hval 3 36 v3 rfl rfl) h3
  refine (law_calls (Ct.mono (Ra.betweenL (m := memOf W) (Ra.tz_of hL (by kernel_rfl)) (Ra.tab_of hL (by kernel_rfl)) a0 a1 a2 a3 (bounds_u32 w0) (bounds_u32 w1) (bounds_u32 w2) (bounds_u32 w3)) fun v m' B _ h => h.1)).mono fun e W' ⟨he, bel⟩ => ?_
  subst he
  exact ⟨_, rfl, _, _, _, [], _, [], hW', trodAll_mk1 (shut_bool Tryd.underlying4 _), hback W' bel, rfl, bel.frame _, fun h => by cases h⟩
theorem over : Rows.topBetweenRow.holds Tryd.pinned (OpenSpec.ofChange Rows.topBetweenSpec) :=
  OpenClaim.holds_of_wide 4 Tryd.f4 rfl rfl rfl rfl rfl rfl rfl ⟨rfl, rfl, rfl, rfl, rfl⟩ rfl rfl rfl rfl rfl (by kernel_rfl) Tryd.func4 (by kernel_rfl)
    (of_decide_eq_true (by kernel_rfl)) (by unfold Func.isWrapper; first | (rw [if_pos (by decide +kernel)]; kernel_rfl) | (rw [if_neg (by decide +kernel)]; exact ⟨rfl, rfl⟩))
    (fun os started H enc _ => lifted os started H enc)
theorem proved : Rows.TopBetweenCardSaid :=
  Claim7.holds_tied_plain_at .later [] Rows.topBetweenCard.laidKinds true Rows.topBetweenCard.stood.harness Rows.topBetweenCard.stood.looks
    over (fun _ h => by cases h) (by kernel_rfl) (fun _ h => by cases h) topBetween_row_tie rfl ⟨rfl, rfl⟩ (by kernel_rfl) rfl
    (fun f fn hf hfn => by
      obtain rfl : f = 4 := Option.some.inj ((show Tryd.prog.funcNamed Tryd.f4.name = some 4 by kernel_rfl).symm.trans hf) |>.symm
      obtain rfl : fn = Tryd.f4 := (Option.some.inj (Tryd.func4.symm.trans hfn)).symm
      exact ⟨by kernel_rfl, fun j t ht => by
        rw [Tryd.params4] at ht
        have hm := Array.mem_of_getElem? ht
        have hall : ((Tryd.f4.params).all fun u => !Tryd.prog.wantsStandIn u) = true := by kernel_rfl
        rw [Tryd.params4] at hall
        exact (show Tryd.prog.wantsStandIn t = false by simpa using Array.all_eq_true'.1 hall t hm)⟩)
    (by kernel_rfl)
end TopBetweenCardL
end Go.Proofs.YtnpgnlphdkbfiaaDoor

/- Part 13 of what the law's proof needs: rules of the walk, contracts of functions, plain laws. No condition. -/
import Derived.Test.YtgkgbdkcbbpjhaaGreatRu2Z12
/- States, the document's answers. -/
set_option linter.unusedSimpArgs false
set_option linter.unusedVariables false
set_option linter.unusedSectionVars false
set_option maxRecDepth 20000
set_option maxHeartbeats 4000000
namespace Go.Proofs.YtgkgbdkcbbpjhaaGreat
open Go Go.J
attribute [local irreducible] At AtQ AtM AtM1 PR Ct Pu Rd Res.blk Res.own Res.ex RVs RV
namespace Dd
open Se Win St
theorem time (t : Int) : Pu Tryz.prog 45 #[.int .i64 t] (.bool (decide (tm t))) := Pu.intro fun m => by
  unfold tm
  refine Ct.enterV (by rfl) Tryz.func45 rfl Tryz.ntmps45 rfl (fun w0 Rest => ?_)
  (repeat' (first | refine zss ?_ | refine zs0 ?_ | (refine zsp ?_ ?_ <;> (intro hc; (try simp only [zhcs, reduceCtorEq] at hc); (try (exfalso; first | contradiction | omega | exact absurd rfl hc | exact absurd (by decide) hc))))))
  all_goals ((with_reducible apply At.retB1 (B := [])); exact rfl; exact rfl; exact zml; exact zkp; exact ⟨congrArg Value.bool (by simp [hc]), rfl, rfl⟩)
theorem empty {m : Mem} (x : Ser) (hx : x.Ok m) : Rd Tryz.prog 46 #[x.v] m [] (.bool (emp x)) := by
  unfold Rd
  have k := fun (m' : Mem) (h : m.le m') => Ds.sameS x Ser.z (hx.mono h) (zok m')
  unfold emp
  refine Ct.enterV (by rfl) Tryz.func46 rfl Tryz.ntmps46 rfl (fun w0 Rest => ?_)
  (repeat' (first | refine zss ?_ | refine zsM ?_ | ((with_reducible first | apply AtM1.cr | apply AtQ.cr | apply At.cr); exact rfl; exact rfl; exact fun _ hmm => k _ hmm; exact ztk; kernel_rfl) | ((with_reducible apply At.box (d := 1)); exact rfl; exact rfl; exact rfl; intro b1) | (refine zsp ?_ ?_ <;> (intro hc; (try simp only [zhcs, reduceCtorEq] at hc); (try (exfalso; first | contradiction | omega | exact absurd rfl hc | exact absurd (by decide) hc))))))
  all_goals ((with_reducible apply At.retB1 (B := [])); exact rfl; exact rfl; exact zml; exact zkp; exact ⟨rfl, rfl, rfl⟩)
theorem whole_ (s : Sta) : Pu Tryz.prog 40 #[s.v] (.bool (decide (whole s))) := Pu.intro fun m => by
  have k0 := Dc.check s.k
  unfold Cfg.chk at k0
  by_cases h0 : s.k.ok
  · rw [if_pos h0] at k0
    rw [show decide (whole s) = decide ((s.pl.l.length : Int) = s.k.c) from decide_eq_decide.2 ⟨fun h => h.2, fun h => ⟨h0, h⟩⟩]
    refine Ct.enterV (by rfl) Tryz.func40 rfl Tryz.ntmps40 rfl (fun w0 Rest => ?_)
    (repeat' (first | refine zss ?_ | refine zs0 ?_ | ((with_reducible first | apply AtM1.callp | apply AtQ.callp | apply At.callp); kernel_rfl; exact rfl; exact rfl; exact k0) | ((with_reducible apply At.box (d := 1)); exact rfl; exact rfl; exact rfl; intro b1) | (refine zsp ?_ ?_ <;> (intro hc; (try simp only [zhcs, reduceCtorEq] at hc); (try (exfalso; first | (first | omega | exact absurd rfl hc) | contradiction | omega | exact absurd rfl hc | exact absurd (by decide) hc))))))
    all_goals ((with_reducible apply At.retB1 (B := [])); exact rfl; exact rfl; exact zml; exact zkp; exact ⟨rfl, rfl, rfl⟩)
  · rw [if_neg h0] at k0
    rw [decide_eq_false (fun h : whole s => h0 h.1)]
    refine Ct.enterV (by rfl) Tryz.func40 rfl Tryz.ntmps40 rfl (fun w0 Rest => ?_)
    (repeat' (first | refine zss ?_ | refine zs0 ?_ | ((with_reducible first | apply AtM1.callp | apply AtQ.callp | apply At.callp); kernel_rfl; exact rfl; exact rfl; exact k0) | ((with_reducible apply At.box (d := 1)); exact rfl; exact rfl; exact rfl; intro b1) | (refine zsp ?_ ?_ <;> (intro hc; (try simp only [zhcs, reduceCtorEq] at hc); (try (exfalso; first | (first | omega | exact absurd rfl hc) | contradiction | omega | exact absurd rfl hc | exact absurd (by decide) hc))))))
    all_goals ((with_reducible apply At.retB1 (B := [])); exact rfl; exact rfl; exact zml; exact zkp; exact ⟨rfl, rfl, rfl⟩)
theorem lives {m : Mem} (s : Sta) (i : Nat) (hs : s.Ok m) (hi : i < s.pl.l.length) : Rd Tryz.prog 41 #[s.v, .int .i64 (i : Int)] m [] (.bool (liv s s.pl.l[i]!)) := by
  unfold Rd
  have sl0 := hs.sl
  have np := hs.np
  have k1 := fun (m' : Mem) (h : m.le m') => empty s.pl.l[i]! ((hs.at hi).mono h)
  have k2 := Dc.deadR s.k s.pl.l[i]!.last s.swept
  unfold liv
  generalize emp s.pl.l[i]! = e at k1 ⊢
  generalize dead s.k s.pl.l[i]!.last s.swept = d at k2 ⊢
  clear hs
  cases e
  rotate_left
  · refine Ct.enterV (by rfl) Tryz.func41 rfl Tryz.ntmps41 rfl (fun w0 Rest => ?_)
    (repeat' (first | refine zss ?_ | refine zsM ?_ | ((with_reducible first | apply AtM1.cr | apply AtQ.cr | apply At.cr); exact rfl; exact rfl; exact fun _ hmm => k1 _ hmm; exact ztk; kernel_rfl) | ((with_reducible apply At.box (d := 2)); exact rfl; exact rfl; exact rfl; intro b2) | (refine zsp ?_ ?_ <;> (intro hc; (try simp only [zhcs, reduceCtorEq] at hc); (try (exfalso; first | (first | omega | exact absurd rfl hc) | contradiction | omega | exact absurd rfl hc | exact absurd (by decide) hc))))))
    all_goals ((with_reducible apply At.retB1 (B := [])); exact rfl; exact rfl; exact zml; exact zkp; exact ⟨rfl, rfl, rfl⟩)
  by_cases hw : s.swept = -1
  · rw [decide_eq_true hw]
    refine Ct.enterV (by rfl) Tryz.func41 rfl Tryz.ntmps41 rfl (fun w0 Rest => ?_)
    (repeat' (first | refine zss ?_ | refine zsM ?_ | ((with_reducible first | apply AtM1.cr | apply AtQ.cr | apply At.cr); exact rfl; exact rfl; exact fun _ hmm => k1 _ hmm; exact ztk; kernel_rfl) | ((with_reducible apply At.box (d := 2)); exact rfl; exact rfl; exact rfl; intro b2) | (refine zsp ?_ ?_ <;> (intro hc; (try simp only [zhcs, reduceCtorEq] at hc); (try (exfalso; first | (first | omega | exact absurd rfl hc | exact absurd hw hc) | contradiction | omega | exact absurd rfl hc | exact absurd (by decide) hc))))))
    all_goals ((with_reducible apply At.retB1 (B := [])); exact rfl; exact rfl; exact zml; exact zkp; exact ⟨rfl, rfl, rfl⟩)
  · rw [decide_eq_false hw]
    refine Ct.enterV (by rfl) Tryz.func41 rfl Tryz.ntmps41 rfl (fun w0 Rest => ?_)
    (repeat' (first | refine zss ?_ | refine zsM ?_ | ((with_reducible first | apply AtM1.cr | apply AtQ.cr | apply At.cr); exact rfl; exact rfl; exact fun _ hmm => k1 _ hmm; exact ztk; kernel_rfl) | ((with_reducible first | apply AtM1.callp | apply AtQ.callp | apply At.callp); kernel_rfl; exact rfl; exact rfl; exact k2) | ((with_reducible apply At.box (d := 2)); exact rfl; exact rfl; exact rfl; intro b2) | (refine zsp ?_ ?_ <;> (intro hc; (try simp only [zhcs, reduceCtorEq] at hc); (try (exfalso; first | (first | omega | exact absurd rfl hc | exact absurd hc hw) | contradiction | omega | exact absurd rfl hc | exact absurd (by decide) hc))))))
    all_goals ((with_reducible apply At.retB1 (B := [])); exact rfl; exact rfl; exact zml; exact zkp; exact ⟨by first | rfl | (cases d <;> rfl), rfl, rfl⟩)
theorem markR (s : Sta) : Pu Tryz.prog 25 #[s.v] (.int .i64 (mkU s)) := Pu.intro fun m => by
  have k0 := whole_ s
  have k1 := time s.now
  unfold mkU
  by_cases h0 : whole s
  rotate_left
  · rw [decide_eq_false h0] at k0
    rw [if_neg (fun h => h0 h.1)]
    refine Ct.enterV (by rfl) Tryz.func25 rfl Tryz.ntmps25 rfl (fun w0 Rest => ?_)
    (repeat' (first | refine zss ?_ | refine zs0 ?_ | ((with_reducible first | apply AtM1.callp | apply AtQ.callp | apply At.callp); kernel_rfl; exact rfl; exact rfl; exact k0) | ((with_reducible apply At.box (d := 1)); exact rfl; exact rfl; exact rfl; intro b1) | (refine zsp ?_ ?_ <;> (intro hc; (try simp only [zhcs, reduceCtorEq] at hc); (try (exfalso; first | (first | omega | exact absurd rfl hc) | contradiction | omega | exact absurd rfl hc | exact absurd (by decide) hc))))))
    all_goals ((with_reducible apply At.retB1 (B := [])); exact rfl; exact rfl; exact zml; exact zkp; exact ⟨rfl, rfl, rfl⟩)
  rw [decide_eq_true h0] at k0
  by_cases h1 : tm s.now
  rotate_left
  · rw [decide_eq_false h1] at k1
    rw [if_neg (fun h => h1 h.2)]
    refine Ct.enterV (by rfl) Tryz.func25 rfl Tryz.ntmps25 rfl (fun w0 Rest => ?_)
    (repeat' (first | refine zss ?_ | refine zs0 ?_ | ((with_reducible first | apply AtM1.callp | apply AtQ.callp | apply At.callp); kernel_rfl; exact rfl; exact rfl; exact k0) | ((with_reducible first | apply AtM1.callp | apply AtQ.callp | apply At.callp); kernel_rfl; exact rfl; exact rfl; exact k1) | ((with_reducible apply At.box (d := 1)); exact rfl; exact rfl; exact rfl; intro b1) | (refine zsp ?_ ?_ <;> (intro hc; (try simp only [zhcs, reduceCtorEq] at hc); (try (exfalso; first | (first | omega | exact absurd rfl hc) | contradiction | omega | exact absurd rfl hc | exact absurd (by decide) hc))))))
    all_goals ((with_reducible apply At.retB1 (B := [])); exact rfl; exact rfl; exact zml; exact zkp; exact ⟨rfl, rfl, rfl⟩)
  rw [decide_eq_true h1] at k1
  rw [if_pos ⟨h0, h1⟩]
  have ha := h0.1.ha
  obtain ⟨t1, t2⟩ := h1
  have fq : IntKind.wrap .i64 (s.now.tdiv s.k.a) = s.now / s.k.a := IntWalk.i64_quo _ _ (by omega)
  have e1 := Int.emod_add_mul_ediv s.now s.k.a
  have e2 := mod_bd (t := s.now) (w := s.k.a) ha.1
  have em : s.now / s.k.a * s.k.a = mk s := by unfold mk; rw [Int.mul_comm]; omega
  have hb := mk_bd h0.1 ⟨t1, t2⟩
  have fm : IntKind.wrap .i64 (s.now / s.k.a * s.k.a) = mk s := by rw [em]; exact IntWalk.i64_in _ (by omega)
  obtain ⟨r, hr⟩ : ∃ r, s.now / s.k.a = r := ⟨_, rfl⟩
  rw [hr] at fq fm
  clear e1 e2 em hr h0 hb
  refine Ct.enterV (by rfl) Tryz.func25 rfl Tryz.ntmps25 rfl (fun w0 Rest => ?_)
  (repeat' (first | refine zss ?_ | ((first | (with_reducible first | apply At.val | apply AtQ.val)); (first | exact pr_indexArr (k := 0) (by rfl) (by rfl) (by rfl) (by rfl) (by decide) | exact pr_quo (by rfl) (by rfl) (by omega) fq | exact pr_mul (by rfl) (by rfl) fm); exact rfl) | refine zs0 ?_ | ((with_reducible first | apply AtM1.callp | apply AtQ.callp | apply At.callp); kernel_rfl; exact rfl; exact rfl; exact k0) | ((with_reducible first | apply AtM1.callp | apply AtQ.callp | apply At.callp); kernel_rfl; exact rfl; exact rfl; exact k1) | ((with_reducible apply At.box (d := 1)); exact rfl; exact rfl; exact rfl; intro b1) | (refine zsp ?_ ?_ <;> (intro hc; (try simp only [zhcs, reduceCtorEq] at hc); (try (exfalso; first | (first | omega | exact absurd rfl hc) | contradiction | omega | exact absurd rfl hc | exact absurd (by decide) hc))))))
  all_goals ((with_reducible apply At.retB1 (B := [])); exact rfl; exact rfl; exact zml; exact zkp; exact ⟨rfl, rfl, rfl⟩)
/-- this place, and one ahead of it -/
def tw2 (u : Sta) (i k : Nat) : Bool := liv u u.pl.l[i]! && liv u u.pl.l[k]! && decide (u.pl.l[k]!.lab.l = u.pl.l[i]!.lab.l)
theorem twn_no {u : Sta} {i : Nat} (h : ∀ k, k < i → tw2 u i k = false) : twn u i = false := by
  unfold twn
  cases hl : liv u u.pl.l[i]!
  · rfl
  · rw [Bool.true_and, List.any_eq_false]
    intro k hk
    have := h k (List.mem_range.1 hk)
    unfold tw2 at this
    rw [hl, Bool.true_and] at this
    rw [this]; decide
theorem twn_yes {u : Sta} {i k : Nat} (hk : k < i) (h : tw2 u i k = true) : twn u i = true := by
  unfold tw2 at h
  rw [Bool.and_assoc, Bool.and_eq_true] at h
  unfold twn
  rw [h.1, Bool.true_and, List.any_eq_true]
  exact ⟨k, List.mem_range.2 hk, h.2⟩
set_option maxRecDepth 100000 in
theorem check {m : Mem} (u : Sta) (hs : u.Ok m) : Rd Tryz.prog 24 #[u.v] m [] (.int .i64 (chk u)) := by
  unfold Rd
  have k0 := whole_ u
  have k1 := time u.now
  have k2 := time u.swept
  have kb : ¬ okU u → chk u = 2 := fun h => if_neg h
  by_cases h0 : whole u
  rotate_left
  · rw [decide_eq_false h0] at k0
    rw [kb fun h => h0 h.1]
    refine Ct.enterV (by rfl) Tryz.func24 rfl Tryz.ntmps24 rfl (fun w0 Rest => ?_)
    (repeat' (first | refine zss ?_ | refine zs0 ?_ | ((with_reducible first | apply AtM1.callp | apply AtQ.callp | apply At.callp); kernel_rfl; exact rfl; exact rfl; exact k0) | ((with_reducible apply At.box (d := 1)); exact rfl; exact rfl; exact rfl; intro b1) | ((with_reducible apply At.alloc (d := 5)); exact rfl; exact rfl; intro b5) | (refine zsp ?_ ?_ <;> (intro hc; (try simp only [zhcs, reduceCtorEq] at hc); (try (exfalso; first | (first | omega | exact absurd rfl hc) | contradiction | omega | exact absurd rfl hc | exact absurd (by decide) hc))))))
    all_goals ((with_reducible apply At.retB1 (B := [])); exact rfl; exact rfl; exact zml; exact zkp; exact ⟨rfl, rfl, rfl⟩)
  rw [decide_eq_true h0] at k0
  by_cases h1 : tm u.now
  rotate_left
  · rw [decide_eq_false h1] at k1
    rw [kb fun h => h1 h.2.1.1]
    refine Ct.enterV (by rfl) Tryz.func24 rfl Tryz.ntmps24 rfl (fun w0 Rest => ?_)
    (repeat' (first | refine zss ?_ | refine zs0 ?_ | ((with_reducible first | apply AtM1.callp | apply AtQ.callp | apply At.callp); kernel_rfl; exact rfl; exact rfl; exact k0) | ((with_reducible first | apply AtM1.callp | apply AtQ.callp | apply At.callp); kernel_rfl; exact rfl; exact rfl; exact k1) | ((with_reducible apply At.box (d := 1)); exact rfl; exact rfl; exact rfl; intro b1) | ((with_reducible apply At.alloc (d := 5)); exact rfl; exact rfl; intro b5) | (refine zsp ?_ ?_ <;> (intro hc; (try simp only [zhcs, reduceCtorEq] at hc); (try (exfalso; first | (first | omega | exact absurd rfl hc) | contradiction | omega | exact absurd rfl hc | exact absurd (by decide) hc))))))
    all_goals ((with_reducible apply At.retB1 (B := [])); exact rfl; exact rfl; exact zml; exact zkp; exact ⟨rfl, rfl, rfl⟩)
  rw [decide_eq_true h1] at k1
  by_cases h2 : u.swept = -1 ∨ tm u.swept
  rotate_left
  · have g1 : ¬ u.swept = -1 := fun e => h2 (.inl e)
    rw [decide_eq_false (fun e => h2 (.inr e))] at k2
    rw [kb fun h => h2 h.2.1.2.1]
    refine Ct.enterV (by rfl) Tryz.func24 rfl Tryz.ntmps24 rfl (fun w0 Rest => ?_)
    (repeat' (first | refine zss ?_ | refine zs0 ?_ | ((with_reducible first | apply AtM1.callp | apply AtQ.callp | apply At.callp); kernel_rfl; exact rfl; exact rfl; exact k0) | ((with_reducible first | apply AtM1.callp | apply AtQ.callp | apply At.callp); kernel_rfl; exact rfl; exact rfl; exact k1) | ((with_reducible first | apply AtM1.callp | apply AtQ.callp | apply At.callp); kernel_rfl; exact rfl; exact rfl; exact k2) | ((with_reducible apply At.box (d := 1)); exact rfl; exact rfl; exact rfl; intro b1) | ((with_reducible apply At.alloc (d := 5)); exact rfl; exact rfl; intro b5) | (refine zsp ?_ ?_ <;> (intro hc; (try simp only [zhcs, reduceCtorEq] at hc); (try (exfalso; first | (first | omega | exact absurd rfl hc | exact absurd hc g1) | contradiction | omega | exact absurd rfl hc | exact absurd (by decide) hc))))))
    all_goals ((with_reducible apply At.retB1 (B := [])); exact rfl; exact rfl; exact zml; exact zkp; exact ⟨rfl, rfl, rfl⟩)
  have k2' : u.swept ≠ -1 → Pu Tryz.prog 45 #[.int .i64 u.swept] (.bool true) := fun g => by
    rw [← decide_eq_true (h2.elim (fun e => absurd e g) id)]; exact k2
  by_cases h3 : u.swept ≤ u.now
  rotate_left
  · rw [kb fun h => h3 h.2.1.2.2]
    by_cases g : u.swept = -1
    · refine Ct.enterV (by rfl) Tryz.func24 rfl Tryz.ntmps24 rfl (fun w0 Rest => ?_)
      (repeat' (first | refine zss ?_ | refine zs0 ?_ | ((with_reducible first | apply AtM1.callp | apply AtQ.callp | apply At.callp); kernel_rfl; exact rfl; exact rfl; exact k0) | ((with_reducible first | apply AtM1.callp | apply AtQ.callp | apply At.callp); kernel_rfl; exact rfl; exact rfl; exact k1) | ((with_reducible apply At.box (d := 1)); exact rfl; exact rfl; exact rfl; intro b1) | ((with_reducible apply At.alloc (d := 5)); exact rfl; exact rfl; intro b5) | (refine zsp ?_ ?_ <;> (intro hc; (try simp only [zhcs, reduceCtorEq] at hc); (try (exfalso; first | (first | omega | exact absurd rfl hc | exact absurd g hc) | contradiction | omega | exact absurd rfl hc | exact absurd (by decide) hc))))))
      all_goals ((with_reducible apply At.retB1 (B := [])); exact rfl; exact rfl; exact zml; exact zkp; exact ⟨rfl, rfl, rfl⟩)
    · have k3 := k2' g
      refine Ct.enterV (by rfl) Tryz.func24 rfl Tryz.ntmps24 rfl (fun w0 Rest => ?_)
      (repeat' (first | refine zss ?_ | refine zs0 ?_ | ((with_reducible first | apply AtM1.callp | apply AtQ.callp | apply At.callp); kernel_rfl; exact rfl; exact rfl; exact k0) | ((with_reducible first | apply AtM1.callp | apply AtQ.callp | apply At.callp); kernel_rfl; exact rfl; exact rfl; exact k1) | ((with_reducible first | apply AtM1.callp | apply AtQ.callp | apply At.callp); kernel_rfl; exact rfl; exact rfl; exact k3) | ((with_reducible apply At.box (d := 1)); exact rfl; exact rfl; exact rfl; intro b1) | ((with_reducible apply At.alloc (d := 5)); exact rfl; exact rfl; intro b5) | (refine zsp ?_ ?_ <;> (intro hc; (try simp only [zhcs, reduceCtorEq] at hc); (try (exfalso; first | (first | omega | exact absurd rfl hc | exact absurd hc g) | contradiction | omega | exact absurd rfl hc | exact absurd (by decide) hc))))))
      all_goals ((with_reducible apply At.retB1 (B := [])); exact rfl; exact rfl; exact zml; exact zkp; exact ⟨rfl, rfl, rfl⟩)
  have hclk : clk u := ⟨h1, h2, h3⟩
  have km := markR u
  rw [show mkU u = mk u from if_pos ⟨h0, h1⟩] at km
  have hb := mk_bd h0.1 h1
  have ha := h0.1.ha
  have ht : 0 ≤ u.now ∧ u.now < 35184372088832 := h1
  have sl0 := hs.sl
  have np := hs.np
  have hok : (∀ i, i < u.pl.l.length → rgt u i = true) → chk u = 0 := fun h => if_pos ⟨h0, hclk, h⟩
  have hno : ∀ i, i < u.pl.l.length → rgt u i = false → chk u = 2 := fun i hi h => kb fun g => by rw [g.2.2 i hi] at h; cases h
  clear kb h1 hclk
  have fa : IntKind.wrap .i64 (mk u + u.k.a) = mk u + u.k.a := IntWalk.i64_in _ (by omega)
  clear k2'
  refine Ct.enterV (by rfl) Tryz.func24 rfl Tryz.ntmps24 rfl (fun w0 Rest => ?_)
  (repeat' (first | (refine At.cutp (id := 1) (False) 33 [1] (by rfl) ?_ ?_) | refine zss ?_ | ((first | (with_reducible first | apply At.val | apply AtQ.val)); (first | exact pr_indexArr (k := 0) (by rfl) (by rfl) (by rfl) (by rfl) (by decide) | exact pr_add (by rfl) (by rfl) fa); exact rfl) | refine zsM ?_ | ((with_reducible first | apply AtM1.callp | apply AtQ.callp | apply At.callp); kernel_rfl; exact rfl; exact rfl; exact k0) | ((with_reducible first | apply AtM1.callp | apply AtQ.callp | apply At.callp); kernel_rfl; exact rfl; exact rfl; exact k1) | ((with_reducible first | apply AtM1.callp | apply AtQ.callp | apply At.callp); kernel_rfl; exact rfl; exact rfl; exact k2) | ((with_reducible first | apply AtM1.callp | apply AtQ.callp | apply At.callp); kernel_rfl; exact rfl; exact rfl; exact km) | ((with_reducible apply At.endp); exact rfl; exact zsubs; exact zml; exact zente; (first | (rcases h2 with h2 | h2 <;> contradiction) | (simp_all; done) | (simp_all <;> omega))) | ((with_reducible apply At.box (d := 1)); exact rfl; exact rfl; exact rfl; intro b1) | ((with_reducible apply At.alloc (d := 5)); exact rfl; exact rfl; intro b5) | (refine zsp ?_ ?_ <;> (intro hc; (try simp only [zhcs, reduceCtorEq] at hc); (try (exfalso; first | (first | omega | exact absurd rfl hc | exact hc | (rcases h2 with h2 | h2 <;> contradiction)) | contradiction | omega | exact absurd rfl hc | exact absurd (by decide) hc))))))
  clear h2
  (refine At.loopk (σ := Nat) [1, 3, 42, 43] (fun s F0 => (44, .int .i64 (s : Int)) :: F0) (fun s => m) (fun s => .blk b1 28 u.cells :: Rest) (fun s => s ≤ u.pl.l.length ∧ ∀ i, i < s → rgt u i = true) (fun s => u.pl.l.length - s) 0 (by rfl) ?_ zsubs zml zente ?_)
  · exact ⟨Nat.zero_le _, fun i hi => absurd hi (Nat.not_lt_zero i)⟩
  rintro i ⟨hi0, hn⟩
  by_cases hi : i < u.pl.l.length
  rotate_left
  · rw [hok (fun j hj => hn j (by omega))]
    clear hok hno hn
    (repeat' (first | refine zss ?_ | refine zsM ?_ | ((with_reducible apply At.box (d := 1)); exact rfl; exact rfl; exact rfl; intro b1) | ((with_reducible apply At.alloc (d := 5)); exact rfl; exact rfl; intro b5) | (refine zsp ?_ ?_ <;> (intro hc; (try simp only [zhcs, reduceCtorEq] at hc); (try (exfalso; first | (first | omega | exact absurd rfl hc) | contradiction | omega | exact absurd rfl hc | exact absurd (by decide) hc))))))
    all_goals ((with_reducible apply At.retB1 (B := [])); exact rfl; exact rfl; exact zml; exact zkp; exact ⟨rfl, rfl, rfl⟩)
  have hx := hs.at hi
  have ke := fun (m' : Mem) (h : m.le m') => empty u.pl.l[i]! (hx.mono h)
  have kc := fun (m' : Mem) (h : m.le m') => Ds.checkS u.k u.pl.l[i]! (hx.mono h)
  unfold schk at kc
  have hst : rgt u i = true → ∀ j, j < i + 1 → rgt u j = true := fun g j hj => by
    by_cases e : j = i
    · subst e; exact g
    · exact hn j (by omega)
  replace hno := hno i hi
  have hr : rgt u i = (emp u.pl.l[i]! || (decide (rgh u u.pl.l[i]!) && !twn u i)) := rfl
  clear hn hok k0 k1 k2 km fa
  by_cases he : emp u.pl.l[i]! = true
  · rw [he] at ke
    rw [he, Bool.true_or] at hr
    have hst := hst hr
    clear hno hr kc he
    (repeat' (first | refine zss ?_ | refine zsM ?_ | ((with_reducible first | apply AtM1.cr | apply AtQ.cr | apply At.cr); exact rfl; exact rfl; exact fun _ hmm => ke _ hmm; exact ztk; kernel_rfl) | ((with_reducible apply At.box (d := 1)); exact rfl; exact rfl; exact rfl; intro b1) | ((with_reducible apply At.alloc (d := 5)); exact rfl; exact rfl; intro b5) | (refine zsp ?_ ?_ <;> (intro hc; (try simp only [zhcs, reduceCtorEq] at hc); (try (exfalso; first | (first | omega | exact absurd rfl hc) | contradiction | omega | exact absurd rfl hc | exact absurd (by decide) hc))))))
    all_goals ((with_reducible refine At.reachk ((i + 1)) ?_ ?_ ?_ ?_); exact zsubs; exact zml; exact zente; exact ⟨⟨hi, hst⟩, by omega⟩)
  replace he : emp u.pl.l[i]! = false := by simpa using he
  rw [he] at ke
  rw [he, Bool.false_or] at hr
  by_cases g1 : sok u.k u.pl.l[i]!
  rotate_left
  · rw [hno (by rw [hr, decide_eq_false (fun h => g1 h.1)]; rfl)]
    rw [if_neg g1] at kc
    clear hr hst hno g1
    (repeat' (first | refine zss ?_ | refine zsM ?_ | ((with_reducible first | apply AtM1.cr | apply AtQ.cr | apply At.cr); exact rfl; exact rfl; exact fun _ hmm => ke _ hmm; exact ztk; kernel_rfl) | ((with_reducible first | apply AtM1.cr | apply AtQ.cr | apply At.cr); exact rfl; exact rfl; exact fun _ hmm => kc _ hmm; exact ztk; kernel_rfl) | ((with_reducible apply At.box (d := 1)); exact rfl; exact rfl; exact rfl; intro b1) | ((with_reducible apply At.alloc (d := 5)); exact rfl; exact rfl; intro b5) | (refine zsp ?_ ?_ <;> (intro hc; (try simp only [zhcs, reduceCtorEq] at hc); (try (exfalso; first | (first | omega | exact absurd rfl hc) | contradiction | omega | exact absurd rfl hc | exact absurd (by decide) hc))))))
    all_goals ((with_reducible apply At.retB1 (B := [])); exact rfl; exact rfl; exact zml; exact zkp; exact ⟨rfl, rfl, rfl⟩)
  rw [if_pos g1] at kc
  by_cases g2 : 0 ≤ u.pl.l[i]!.last
  rotate_left
  · rw [hno (by rw [hr, decide_eq_false (fun h => g2 h.2.1)]; rfl)]
    clear hr hst hno g1
    (repeat' (first | refine zss ?_ | refine zsM ?_ | ((with_reducible first | apply AtM1.cr | apply AtQ.cr | apply At.cr); exact rfl; exact rfl; exact fun _ hmm => ke _ hmm; exact ztk; kernel_rfl) | ((with_reducible first | apply AtM1.cr | apply AtQ.cr | apply At.cr); exact rfl; exact rfl; exact fun _ hmm => kc _ hmm; exact ztk; kernel_rfl) | ((with_reducible apply At.box (d := 1)); exact rfl; exact rfl; exact rfl; intro b1) | ((with_reducible apply At.alloc (d := 5)); exact rfl; exact rfl; intro b5) | (refine zsp ?_ ?_ <;> (intro hc; (try simp only [zhcs, reduceCtorEq] at hc); (try (exfalso; first | (first | omega | exact absurd rfl hc) | contradiction | omega | exact absurd rfl hc | exact absurd (by decide) hc))))))
    all_goals ((with_reducible apply At.retB1 (B := [])); exact rfl; exact rfl; exact zml; exact zkp; exact ⟨rfl, rfl, rfl⟩)
  by_cases g3 : u.pl.l[i]!.last < mk u + u.k.a
  rotate_left
  · rw [hno (by rw [hr, decide_eq_false (fun h => g3 h.2.2)]; rfl)]
    clear hr hst hno g1
    (repeat' (first | refine zss ?_ | refine zsM ?_ | ((with_reducible first | apply AtM1.cr | apply AtQ.cr | apply At.cr); exact rfl; exact rfl; exact fun _ hmm => ke _ hmm; exact ztk; kernel_rfl) | ((with_reducible first | apply AtM1.cr | apply AtQ.cr | apply At.cr); exact rfl; exact rfl; exact fun _ hmm => kc _ hmm; exact ztk; kernel_rfl) | ((with_reducible apply At.box (d := 1)); exact rfl; exact rfl; exact rfl; intro b1) | ((with_reducible apply At.alloc (d := 5)); exact rfl; exact rfl; intro b5) | (refine zsp ?_ ?_ <;> (intro hc; (try simp only [zhcs, reduceCtorEq] at hc); (try (exfalso; first | (first | omega | exact absurd rfl hc) | contradiction | omega | exact absurd rfl hc | exact absurd (by decide) hc))))))
    all_goals ((with_reducible apply At.retB1 (B := [])); exact rfl; exact rfl; exact zml; exact zkp; exact ⟨rfl, rfl, rfl⟩)
  rw [decide_eq_true (show rgh u u.pl.l[i]! from ⟨g1, g2, g3⟩), Bool.true_and] at hr
  clear g1
  (repeat' (first | refine zss ?_ | refine zsM ?_ | ((with_reducible first | apply AtM1.cr | apply AtQ.cr | apply At.cr); exact rfl; exact rfl; exact fun _ hmm => ke _ hmm; exact ztk; kernel_rfl) | ((with_reducible first | apply AtM1.cr | apply AtQ.cr | apply At.cr); exact rfl; exact rfl; exact fun _ hmm => kc _ hmm; exact ztk; kernel_rfl) | ((with_reducible apply At.box (d := 1)); exact rfl; exact rfl; exact rfl; intro b1) | ((with_reducible apply At.alloc (d := 5)); exact rfl; exact rfl; intro b5) | (refine zsp ?_ ?_ <;> (intro hc; (try simp only [zhcs, reduceCtorEq] at hc); (try (exfalso; first | (first | omega | exact absurd rfl hc) | contradiction | omega | exact absurd rfl hc | exact absurd (by decide) hc))))))
  (refine At.loopk (σ := Nat) [1, 3, 4, 5, 42, 43, 44, 71] (fun s F0 => (72, .int .i64 (s : Int)) :: F0) (fun s => m) (fun s => .blk b5 55 (Ser.cells u.pl.l[i]!) :: .blk b1 28 u.cells :: Rest) (fun s => s ≤ i ∧ ∀ k, k < s → tw2 u i k = false) (fun s => i - s) 0 (by rfl) ?_ zsubs zml zente ?_)
  · exact ⟨Nat.zero_le _, fun k hk => absurd hk (Nat.not_lt_zero k)⟩
  rintro k ⟨hk0, hn⟩
  by_cases hk : k < i
  rotate_left
  · have hst := hst (by rw [hr, twn_no (fun j hj => hn j (by omega))]; rfl)
    clear hno hr hn ke kc
    (repeat' (first | refine zss ?_ | refine zsM ?_ | ((with_reducible apply At.box (d := 1)); exact rfl; exact rfl; exact rfl; intro b1) | ((with_reducible apply At.alloc (d := 5)); exact rfl; exact rfl; intro b5) | (refine zsp ?_ ?_ <;> (intro hc; (try simp only [zhcs, reduceCtorEq] at hc); (try (exfalso; first | (first | omega | exact absurd rfl hc) | contradiction | omega | exact absurd rfl hc | exact absurd (by decide) hc))))))
    all_goals ((with_reducible refine At.reachk ((i + 1)) ?_ ?_ ?_ ?_); exact zsubs; exact zml; exact zente; exact ⟨⟨hi, hst⟩, by omega⟩)
  have hy := hs.at (show k < u.pl.l.length by omega)
  have q1 := fun (m' : Mem) (h : m.le m') => lives u i (hs.mono h) hi
  have q2 := fun (m' : Mem) (h : m.le m') => lives u k (hs.mono h) (show k < u.pl.l.length by omega)
  have q3 := fun (m' : Mem) (h : m.le m') => Lb.rsame u.pl.l[k]!.lab.p u.pl.l[k]!.lab.c u.pl.l[k]!.lab.l u.pl.l[i]!.lab.p u.pl.l[i]!.lab.c u.pl.l[i]!.lab.l (Nat.le_trans hy.nl (by decide)) (Nat.le_trans hx.nl (by decide)) (hy.sl.mono h) (hx.sl.mono h)
  have hnn : tw2 u i k = false → ∀ j, j < k + 1 → tw2 u i j = false := fun g j hj => by
    by_cases e : j = k
    · subst e; exact g
    · exact hn j (by omega)
  have hyes : tw2 u i k = true → chk u = 2 := fun g => hno (by rw [hr, twn_yes hk g]; rfl)
  have ht2 : tw2 u i k = (liv u u.pl.l[i]! && liv u u.pl.l[k]! && decide (u.pl.l[k]!.lab.l = u.pl.l[i]!.lab.l)) := rfl
  clear hn hno hr hst ke kc hx hy
  generalize liv u u.pl.l[i]! = c1 at q1 ht2
  generalize liv u u.pl.l[k]! = c2 at q2 ht2
  generalize decide (u.pl.l[k]!.lab.l = u.pl.l[i]!.lab.l) = c3 at q3 ht2
  cases c1
  · have hnn := hnn ht2
    clear hyes ht2 hs
    (repeat' (first | refine zss ?_ | refine zsM ?_ | ((with_reducible first | apply AtM1.cr | apply AtQ.cr | apply At.cr); exact rfl; exact rfl; exact fun _ hmm => q1 _ hmm; exact ztk; kernel_rfl) | ((with_reducible apply At.box (d := 1)); exact rfl; exact rfl; exact rfl; intro b1) | ((with_reducible apply At.alloc (d := 5)); exact rfl; exact rfl; intro b5) | (refine zsp ?_ ?_ <;> (intro hc; (try simp only [zhcs, reduceCtorEq] at hc); (try (exfalso; first | (first | omega | exact absurd rfl hc) | contradiction | omega | exact absurd rfl hc | exact absurd (by decide) hc))))))
    all_goals ((with_reducible refine At.reachk ((k + 1)) ?_ ?_ ?_ ?_); exact zsubs; exact zml; exact zente; exact ⟨⟨hk, hnn⟩, by omega⟩)
  cases c2
  · have hnn := hnn ht2
    clear hyes ht2 hs
    (repeat' (first | refine zss ?_ | refine zsM ?_ | ((with_reducible first | apply AtM1.cr | apply AtQ.cr | apply At.cr); exact rfl; exact rfl; exact fun _ hmm => q1 _ hmm; exact ztk; kernel_rfl) | ((with_reducible first | apply AtM1.cr | apply AtQ.cr | apply At.cr); exact rfl; exact rfl; exact fun _ hmm => q2 _ hmm; exact ztk; kernel_rfl) | ((with_reducible apply At.box (d := 1)); exact rfl; exact rfl; exact rfl; intro b1) | ((with_reducible apply At.alloc (d := 5)); exact rfl; exact rfl; intro b5) | (refine zsp ?_ ?_ <;> (intro hc; (try simp only [zhcs, reduceCtorEq] at hc); (try (exfalso; first | (first | omega | exact absurd rfl hc) | contradiction | omega | exact absurd rfl hc | exact absurd (by decide) hc))))))
    all_goals ((with_reducible refine At.reachk ((k + 1)) ?_ ?_ ?_ ?_); exact zsubs; exact zml; exact zente; exact ⟨⟨hk, hnn⟩, by omega⟩)
  cases c3
  · have hnn := hnn ht2
    clear hyes ht2 hs
    (repeat' (first | refine zss ?_ | refine zsM ?_ | ((with_reducible first | apply AtM1.cr | apply AtQ.cr | apply At.cr); exact rfl; exact rfl; exact fun _ hmm => q1 _ hmm; exact ztk; kernel_rfl) | ((with_reducible first | apply AtM1.cr | apply AtQ.cr | apply At.cr); exact rfl; exact rfl; exact fun _ hmm => q2 _ hmm; exact ztk; kernel_rfl) | ((with_reducible first | apply AtM1.cr | apply AtQ.cr | apply At.cr); exact rfl; exact rfl; exact fun _ hmm => q3 _ hmm; exact ztk; kernel_rfl) | ((with_reducible apply At.box (d := 1)); exact rfl; exact rfl; exact rfl; intro b1) | ((with_reducible apply At.alloc (d := 5)); exact rfl; exact rfl; intro b5) | (refine zsp ?_ ?_ <;> (intro hc; (try simp only [zhcs, reduceCtorEq] at hc); (try (exfalso; first | (first | omega | exact absurd rfl hc) | contradiction | omega | exact absurd rfl hc | exact absurd (by decide) hc))))))
    all_goals ((with_reducible refine At.reachk ((k + 1)) ?_ ?_ ?_ ?_); exact zsubs; exact zml; exact zente; exact ⟨⟨hk, hnn⟩, by omega⟩)
  · rw [hyes ht2]
    clear hnn ht2 hs
    (repeat' (first | refine zss ?_ | refine zsM ?_ | ((with_reducible first | apply AtM1.cr | apply AtQ.cr | apply At.cr); exact rfl; exact rfl; exact fun _ hmm => q1 _ hmm; exact ztk; kernel_rfl) | ((with_reducible first | apply AtM1.cr | apply AtQ.cr | apply At.cr); exact rfl; exact rfl; exact fun _ hmm => q2 _ hmm; exact ztk; kernel_rfl) | ((with_reducible first | apply AtM1.cr | apply AtQ.cr | apply At.cr); exact rfl; exact rfl; exact fun _ hmm => q3 _ hmm; exact ztk; kernel_rfl) | ((with_reducible apply At.box (d := 1)); exact rfl; exact rfl; exact rfl; intro b1) | ((with_reducible apply At.alloc (d := 5)); exact rfl; exact rfl; intro b5) | (refine zsp ?_ ?_ <;> (intro hc; (try simp only [zhcs, reduceCtorEq] at hc); (try (exfalso; first | (first | omega | exact absurd rfl hc) | contradiction | omega | exact absurd rfl hc | exact absurd (by decide) hc))))))
    all_goals ((with_reducible apply At.retB1 (B := [])); exact rfl; exact rfl; exact zml; exact zkp; exact ⟨rfl, rfl, rfl⟩)
theorem find {m : Mem} (u : Sta) (l : Lst Lab) (hs : u.Ok m) (hl : l.l.length ≤ 1000000000) (sl1 : Sl m Lb.cells 2 l.p l.c l.l) :
    Rd Tryz.prog 21 #[u.v, l.v] m [] (.tuple #[.int .i64 (sel u (fnd u l.l) 3).1, .int .i64 (sel u (fnd u l.l) 3).2]) := by
  unfold Rd
  have k0 := whole_ u
  have sl0 := hs.sl
  have np := hs.np
  by_cases h0 : whole u
  rotate_left
  · rw [decide_eq_false h0] at k0
    rw [sel_bad h0]
    refine Ct.enterV (by rfl) Tryz.func21 rfl Tryz.ntmps21 rfl (fun w0 Rest => ?_)
    (repeat' (first | refine zss ?_ | refine zsM ?_ | ((with_reducible first | apply AtM1.callp | apply AtQ.callp | apply At.callp); kernel_rfl; exact rfl; exact rfl; exact k0) | ((with_reducible apply At.box (d := 2)); exact rfl; exact rfl; exact rfl; intro b2) | ((with_reducible apply At.alloc (d := 7)); exact rfl; exact rfl; intro b7) | (refine zsp ?_ ?_ <;> (intro hc; (try simp only [zhcs, reduceCtorEq] at hc); (try (exfalso; first | (first | omega | exact absurd rfl hc) | contradiction | omega | exact absurd rfl hc | exact absurd (by decide) hc))))))
    all_goals ((with_reducible apply At.retV (B := [])); exact rfl; (repeat' (first | exact RVs.nil | (with_reducible apply RVs.cons) | exact rv_tmp (by rfl) | exact rv_cellN (by rfl) (by repeat constructor) (by rfl) (by rfl) (by rfl) | exact rv_cell1 (by rfl) (by repeat constructor) (by rfl) (by rfl))); exact zml; exact zkp; exact ⟨rfl, rfl, rfl⟩)
  rw [decide_eq_true h0] at k0
  refine Ct.enterV (by rfl) Tryz.func21 rfl Tryz.ntmps21 rfl (fun w0 Rest => ?_)
  (repeat' (first | refine zss ?_ | refine zsM ?_ | ((with_reducible first | apply AtM1.callp | apply AtQ.callp | apply At.callp); kernel_rfl; exact rfl; exact rfl; exact k0) | ((with_reducible apply At.box (d := 2)); exact rfl; exact rfl; exact rfl; intro b2) | ((with_reducible apply At.alloc (d := 7)); exact rfl; exact rfl; intro b7) | (refine zsp ?_ ?_ <;> (intro hc; (try simp only [zhcs, reduceCtorEq] at hc); (try (exfalso; first | (first | omega | exact absurd rfl hc) | contradiction | omega | exact absurd rfl hc | exact absurd (by decide) hc))))))
  (refine At.loopk (σ := Nat) [1, 2, 12, 13] (fun s F0 => (14, .int .i64 (s : Int)) :: F0) (fun s => m) (fun s => .blk b2 28 u.cells :: Rest) (fun s => s ≤ u.pl.l.length ∧ ∀ i, i < s → fnd u l.l i = false) (fun s => u.pl.l.length - s) 0 (by rfl) ?_ zsubs zml zente ?_)
  · exact ⟨Nat.zero_le _, fun i hi => absurd hi (Nat.not_lt_zero i)⟩
  rintro i ⟨hi0, hn⟩
  by_cases hi : i < u.pl.l.length
  rotate_left
  · rw [sel_none h0 (fun j hj => hn j (by omega))]
    clear hn
    (repeat' (first | refine zss ?_ | refine zsM ?_ | ((with_reducible apply At.box (d := 2)); exact rfl; exact rfl; exact rfl; intro b2) | ((with_reducible apply At.alloc (d := 7)); exact rfl; exact rfl; intro b7) | (refine zsp ?_ ?_ <;> (intro hc; (try simp only [zhcs, reduceCtorEq] at hc); (try (exfalso; first | (first | omega | exact absurd rfl hc) | contradiction | omega | exact absurd rfl hc | exact absurd (by decide) hc))))))
    all_goals ((with_reducible apply At.retV (B := [])); exact rfl; (repeat' (first | exact RVs.nil | (with_reducible apply RVs.cons) | exact rv_tmp (by rfl) | exact rv_cellN (by rfl) (by repeat constructor) (by rfl) (by rfl) (by rfl) | exact rv_cell1 (by rfl) (by repeat constructor) (by rfl) (by rfl))); exact zml; exact zkp; exact ⟨rfl, rfl, rfl⟩)
  have hx := hs.at hi
  have q1 := fun (m' : Mem) (h : m.le m') => lives u i (hs.mono h) hi
  have q2 := fun (m' : Mem) (h : m.le m') => Lb.rsame u.pl.l[i]!.lab.p u.pl.l[i]!.lab.c u.pl.l[i]!.lab.l l.p l.c l.l (Nat.le_trans hx.nl (by decide)) hl (hx.sl.mono h) (sl1.mono h)
  have hnn : fnd u l.l i = false → ∀ j, j < i + 1 → fnd u l.l j = false := fun g j hj => by
    by_cases e : j = i
    · subst e; exact g
    · exact hn j (by omega)
  have hyes : fnd u l.l i = true → sel u (fnd u l.l) 3 = ((i : Int), 0) := fun g => sel_some h0 hi g hn
  have hf : fnd u l.l i = (decide (u.pl.l[i]!.lab.l = l.l) && liv u u.pl.l[i]!) := rfl
  clear hn hx
  generalize liv u u.pl.l[i]! = c1 at q1 hf
  generalize decide (u.pl.l[i]!.lab.l = l.l) = c2 at q2 hf
  cases c1
  · have hnn := hnn (by rw [hf, Bool.and_false])
    clear hyes hf hs k0
    (repeat' (first | refine zss ?_ | refine zsM ?_ | ((with_reducible first | apply AtM1.cr | apply AtQ.cr | apply At.cr); exact rfl; exact rfl; exact fun _ hmm => q1 _ hmm; exact ztk; kernel_rfl) | ((with_reducible apply At.box (d := 2)); exact rfl; exact rfl; exact rfl; intro b2) | ((with_reducible apply At.alloc (d := 7)); exact rfl; exact rfl; intro b7) | (refine zsp ?_ ?_ <;> (intro hc; (try simp only [zhcs, reduceCtorEq] at hc); (try (exfalso; first | (first | omega | exact absurd rfl hc) | contradiction | omega | exact absurd rfl hc | exact absurd (by decide) hc))))))
    all_goals ((with_reducible refine At.reachk ((i + 1)) ?_ ?_ ?_ ?_); exact zsubs; exact zml; exact zente; exact ⟨⟨hi, hnn⟩, by omega⟩)
  cases c2
  · have hnn := hnn hf
    clear hyes hf hs k0
    (repeat' (first | refine zss ?_ | refine zsM ?_ | ((with_reducible first | apply AtM1.cr | apply AtQ.cr | apply At.cr); exact rfl; exact rfl; exact fun _ hmm => q1 _ hmm; exact ztk; kernel_rfl) | ((with_reducible first | apply AtM1.cr | apply AtQ.cr | apply At.cr); exact rfl; exact rfl; exact fun _ hmm => q2 _ hmm; exact ztk; kernel_rfl) | ((with_reducible apply At.box (d := 2)); exact rfl; exact rfl; exact rfl; intro b2) | ((with_reducible apply At.alloc (d := 7)); exact rfl; exact rfl; intro b7) | (refine zsp ?_ ?_ <;> (intro hc; (try simp only [zhcs, reduceCtorEq] at hc); (try (exfalso; first | (first | omega | exact absurd rfl hc) | contradiction | omega | exact absurd rfl hc | exact absurd (by decide) hc))))))
    all_goals ((with_reducible refine At.reachk ((i + 1)) ?_ ?_ ?_ ?_); exact zsubs; exact zml; exact zente; exact ⟨⟨hi, hnn⟩, by omega⟩)
  · rw [hyes hf]
    clear hnn hf hs k0
    (repeat' (first | refine zss ?_ | refine zsM ?_ | ((with_reducible first | apply AtM1.cr | apply AtQ.cr | apply At.cr); exact rfl; exact rfl; exact fun _ hmm => q1 _ hmm; exact ztk; kernel_rfl) | ((with_reducible first | apply AtM1.cr | apply AtQ.cr | apply At.cr); exact rfl; exact rfl; exact fun _ hmm => q2 _ hmm; exact ztk; kernel_rfl) | ((with_reducible apply At.box (d := 2)); exact rfl; exact rfl; exact rfl; intro b2) | ((with_reducible apply At.alloc (d := 7)); exact rfl; exact rfl; intro b7) | (refine zsp ?_ ?_ <;> (intro hc; (try simp only [zhcs, reduceCtorEq] at hc); (try (exfalso; first | (first | omega | exact absurd rfl hc) | contradiction | omega | exact absurd rfl hc | exact absurd (by decide) hc))))))
    all_goals ((with_reducible apply At.retV (B := [])); exact rfl; (repeat' (first | exact RVs.nil | (with_reducible apply RVs.cons) | exact rv_tmp (by rfl) | exact rv_cellN (by rfl) (by repeat constructor) (by rfl) (by rfl) (by rfl) | exact rv_cell1 (by rfl) (by repeat constructor) (by rfl) (by rfl))); exact zml; exact zkp; exact ⟨rfl, rfl, rfl⟩)
theorem room {m : Mem} (u : Sta) (hs : u.Ok m) : Rd Tryz.prog 22 #[u.v] m [] (.tuple #[.int .i64 (sel u (roo u) 7).1, .int .i64 (sel u (roo u) 7).2]) := by
  unfold Rd
  have k0 := whole_ u
  have sl0 := hs.sl
  have np := hs.np
  by_cases h0 : whole u
  rotate_left
  · rw [decide_eq_false h0] at k0
    rw [sel_bad h0]
    refine Ct.enterV (by rfl) Tryz.func22 rfl Tryz.ntmps22 rfl (fun w0 Rest => ?_)
    (repeat' (first | refine zss ?_ | refine zsM ?_ | ((with_reducible first | apply AtM1.callp | apply AtQ.callp | apply At.callp); kernel_rfl; exact rfl; exact rfl; exact k0) | ((with_reducible apply At.box (d := 1)); exact rfl; exact rfl; exact rfl; intro b1) | (refine zsp ?_ ?_ <;> (intro hc; (try simp only [zhcs, reduceCtorEq] at hc); (try (exfalso; first | (first | omega | exact absurd rfl hc) | contradiction | omega | exact absurd rfl hc | exact absurd (by decide) hc))))))
    all_goals ((with_reducible apply At.retV (B := [])); exact rfl; (repeat' (first | exact RVs.nil | (with_reducible apply RVs.cons) | exact rv_tmp (by rfl) | exact rv_cellN (by rfl) (by repeat constructor) (by rfl) (by rfl) (by rfl) | exact rv_cell1 (by rfl) (by repeat constructor) (by rfl) (by rfl))); exact zml; exact zkp; exact ⟨rfl, rfl, rfl⟩)
  rw [decide_eq_true h0] at k0
  refine Ct.enterV (by rfl) Tryz.func22 rfl Tryz.ntmps22 rfl (fun w0 Rest => ?_)
  (repeat' (first | refine zss ?_ | refine zsM ?_ | ((with_reducible first | apply AtM1.callp | apply AtQ.callp | apply At.callp); kernel_rfl; exact rfl; exact rfl; exact k0) | ((with_reducible apply At.box (d := 1)); exact rfl; exact rfl; exact rfl; intro b1) | (refine zsp ?_ ?_ <;> (intro hc; (try simp only [zhcs, reduceCtorEq] at hc); (try (exfalso; first | (first | omega | exact absurd rfl hc) | contradiction | omega | exact absurd rfl hc | exact absurd (by decide) hc))))))
  (refine At.loopk (σ := Nat) [1, 10] (fun s F0 => (11, .int .i64 (s : Int)) :: F0) (fun s => m) (fun s => .blk b1 28 u.cells :: Rest) (fun s => s ≤ u.pl.l.length ∧ ∀ i, i < s → roo u i = false) (fun s => u.pl.l.length - s) 0 (by rfl) ?_ zsubs zml zente ?_)
  · exact ⟨Nat.zero_le _, fun i hi => absurd hi (Nat.not_lt_zero i)⟩
  rintro i ⟨hi0, hn⟩
  by_cases hi : i < u.pl.l.length
  rotate_left
  · rw [sel_none h0 (fun j hj => hn j (by omega))]
    clear hn
    (repeat' (first | refine zss ?_ | refine zsM ?_ | ((with_reducible apply At.box (d := 1)); exact rfl; exact rfl; exact rfl; intro b1) | (refine zsp ?_ ?_ <;> (intro hc; (try simp only [zhcs, reduceCtorEq] at hc); (try (exfalso; first | (first | omega | exact absurd rfl hc) | contradiction | omega | exact absurd rfl hc | exact absurd (by decide) hc))))))
    all_goals ((with_reducible apply At.retV (B := [])); exact rfl; (repeat' (first | exact RVs.nil | (with_reducible apply RVs.cons) | exact rv_tmp (by rfl) | exact rv_cellN (by rfl) (by repeat constructor) (by rfl) (by rfl) (by rfl) | exact rv_cell1 (by rfl) (by repeat constructor) (by rfl) (by rfl))); exact zml; exact zkp; exact ⟨rfl, rfl, rfl⟩)
  have q1 := fun (m' : Mem) (h : m.le m') => lives u i (hs.mono h) hi
  have hnn : roo u i = false → ∀ j, j < i + 1 → roo u j = false := fun g j hj => by
    by_cases e : j = i
    · subst e; exact g
    · exact hn j (by omega)
  have hyes : roo u i = true → sel u (roo u) 7 = ((i : Int), 0) := fun g => sel_some h0 hi g hn
  have hf : roo u i = !liv u u.pl.l[i]! := rfl
  clear hn
  generalize liv u u.pl.l[i]! = c1 at q1 hf
  cases c1
  · rw [hyes hf]
    clear hnn hf hs k0
    (repeat' (first | refine zss ?_ | refine zsM ?_ | ((with_reducible first | apply AtM1.cr | apply AtQ.cr | apply At.cr); exact rfl; exact rfl; exact fun _ hmm => q1 _ hmm; exact ztk; kernel_rfl) | ((with_reducible apply At.box (d := 1)); exact rfl; exact rfl; exact rfl; intro b1) | (refine zsp ?_ ?_ <;> (intro hc; (try simp only [zhcs, reduceCtorEq] at hc); (try (exfalso; first | (first | omega | exact absurd rfl hc) | contradiction | omega | exact absurd rfl hc | exact absurd (by decide) hc))))))
    all_goals ((with_reducible apply At.retV (B := [])); exact rfl; (repeat' (first | exact RVs.nil | (with_reducible apply RVs.cons) | exact rv_tmp (by rfl) | exact rv_cellN (by rfl) (by repeat constructor) (by rfl) (by rfl) (by rfl) | exact rv_cell1 (by rfl) (by repeat constructor) (by rfl) (by rfl))); exact zml; exact zkp; exact ⟨rfl, rfl, rfl⟩)
  · have hnn := hnn hf
    clear hyes hf hs k0
    (repeat' (first | refine zss ?_ | refine zsM ?_ | ((with_reducible first | apply AtM1.cr | apply AtQ.cr | apply At.cr); exact rfl; exact rfl; exact fun _ hmm => q1 _ hmm; exact ztk; kernel_rfl) | ((with_reducible apply At.box (d := 1)); exact rfl; exact rfl; exact rfl; intro b1) | (refine zsp ?_ ?_ <;> (intro hc; (try simp only [zhcs, reduceCtorEq] at hc); (try (exfalso; first | (first | omega | exact absurd rfl hc) | contradiction | omega | exact absurd rfl hc | exact absurd (by decide) hc))))))
    all_goals ((with_reducible refine At.reachk ((i + 1)) ?_ ?_ ?_ ?_); exact zsubs; exact zml; exact zente; exact ⟨⟨hi, hnn⟩, by omega⟩)
end Dd
end Go.Proofs.YtgkgbdkcbbpjhaaGreat
/- Rules, the document's: what may be written, and where. -/
set_option linter.unusedSimpArgs false
set_option linter.unusedVariables false
set_option linter.unusedSectionVars false
set_option maxRecDepth 20000
set_option maxHeartbeats 4000000
namespace Go.Proofs.YtgkgbdkcbbpjhaaGreat
open Go Go.J
attribute [local irreducible] At AtQ AtM AtM1 PR Ct Pu Rd Res.blk Res.own Res.ex RVs RV
namespace Dd
open Se Win St Ru
theorem open_ {m : Mem} (u : Sta) (hs : u.Ok m) : Rd Tryz.prog 10 #[u.v] m [] (.tuple #[.int .i64 (opA u), .int .i64 (opB u)]) := by
  unfold Rd
  have k0 := fun (m' : Mem) (h : m.le m') => check u (hs.mono h)
  have k1 := markR u
  unfold chk at k0
  unfold opA opB
  clear hs
  by_cases h0 : okU u
  rotate_left
  · rw [if_neg h0] at k0
    rw [if_neg h0, if_neg h0]
    refine Ct.enterV (by rfl) Tryz.func10 rfl Tryz.ntmps10 rfl (fun w0 Rest => ?_)
    (repeat' (first | refine zss ?_ | refine zs0 ?_ | ((with_reducible first | apply AtM1.cr | apply AtQ.cr | apply At.cr); exact rfl; exact rfl; exact fun _ hmm => k0 _ hmm; exact ztk; kernel_rfl) | ((with_reducible apply At.box (d := 1)); exact rfl; exact rfl; exact rfl; intro b1) | (refine zsp ?_ ?_ <;> (intro hc; (try simp only [zhcs, reduceCtorEq] at hc); (try (exfalso; first | (first | omega | exact absurd rfl hc | exact absurd hc (by decide)) | contradiction | omega | exact absurd rfl hc | exact absurd (by decide) hc))))))
    all_goals ((with_reducible apply At.retV (B := [])); exact rfl; (repeat' (first | exact RVs.nil | (with_reducible apply RVs.cons) | exact rv_tmp (by rfl) | exact rv_cellN (by rfl) (by repeat constructor) (by rfl) (by rfl) (by rfl) | exact rv_cell1 (by rfl) (by repeat constructor) (by rfl) (by rfl))); exact zml; exact zkp; exact ⟨rfl, rfl, rfl⟩)
  rw [if_pos h0] at k0
  rw [if_pos h0, if_pos h0]
  have hb := mk_bd h0.1.1 h0.2.1.1
  have ht : tm u.now := h0.2.1.1
  have ha := h0.1.1.ha
  have hm : mkU u = mk u := if_pos ⟨h0.1, h0.2.1.1⟩
  rw [hm] at k1
  unfold tm at ht
  unfold toB
  clear h0 hm
  refine Ct.enterV (by rfl) Tryz.func10 rfl Tryz.ntmps10 rfl (fun w0 Rest => ?_)
  (repeat' (first | refine zss ?_ | ((first | (with_reducible first | apply At.val | apply AtQ.val)); (first | exact pr_minI (by rfl) (by rfl) | exact pr_indexArr (k := 0) (by rfl) (by rfl) (by rfl) (by rfl) (by decide)); exact rfl) | refine zs0 ?_ | ((with_reducible first | apply AtM1.cr | apply AtQ.cr | apply At.cr); exact rfl; exact rfl; exact fun _ hmm => k0 _ hmm; exact ztk; kernel_rfl) | ((with_reducible first | apply AtM1.callp | apply AtQ.callp | apply At.callp); kernel_rfl; exact rfl; exact rfl; exact k1) | ((with_reducible apply At.box (d := 1)); exact rfl; exact rfl; exact rfl; intro b1) | (refine zsp ?_ ?_ <;> (intro hc; (try simp only [zhcs, reduceCtorEq] at hc); (try (exfalso; first | (first | omega | exact absurd rfl hc | exact absurd hc (by decide)) | contradiction | omega | exact absurd rfl hc | exact absurd (by decide) hc))))))
  all_goals ((with_reducible apply At.retV (B := [])); exact rfl; (repeat' (first | exact RVs.nil | (with_reducible apply RVs.cons) | exact rv_tmp (by rfl) | exact rv_cellN (by rfl) (by repeat constructor) (by rfl) (by rfl) (by rfl) | exact rv_cell1 (by rfl) (by repeat constructor) (by rfl) (by rfl))); exact zml; exact zkp; exact ⟨rfl, rfl, rfl⟩)
theorem accept {m : Mem} (u : Sta) (l : Lst Lab) (e : Ev) (hs : u.Ok m) (hl : l.l.length ≤ 1000000000) (hm : Lb.Mid l.l) (sl1 : Sl m Lb.cells 2 l.p l.c l.l) :
    Rd Tryz.prog 12 #[u.v, l.v, e.v] m [] (.int .i64 (whr u l.l e).2.2) := by
  unfold Rd
  have sl0 := hs.sl
  have np := hs.np
  have k0 := fun (m' : Mem) (h : m.le m') => check u (hs.mono h)
  have k1 := fun (m' : Mem) (h : m.le m') => Lb.rcheck l.p l.c l.l hm (sl1.mono h)
  have k2 := Ev.rcheck e
  have k3 := fun (m' : Mem) (h : m.le m') => open_ u (hs.mono h)
  have k4 := fun (m' : Mem) (h : m.le m') => find u l (hs.mono h) hl (sl1.mono h)
  have k5 := fun (m' : Mem) (h : m.le m') => room u (hs.mono h)
  unfold chk at k0
  unfold Lb.chk at k1
  unfold Ev.chk at k2
  unfold opA opB at k3
  unfold sel at k4 k5
  unfold whr
  clear hs hm
  by_cases h0 : okU u
  rotate_left
  · rw [if_neg h0] at k0
    rw [if_pos h0]
    refine Ct.enterV (by rfl) Tryz.func12 rfl Tryz.ntmps12 rfl (fun w0 Rest => ?_)
    (repeat' (first | refine zss ?_ | refine zs0 ?_ | ((with_reducible first | apply AtM1.cr | apply AtQ.cr | apply At.cr); exact rfl; exact rfl; exact fun _ hmm => k0 _ hmm; exact ztk; kernel_rfl) | ((with_reducible apply At.box (d := 3)); exact rfl; exact rfl; exact rfl; intro b3) | ((with_reducible apply At.box (d := 5)); exact rfl; exact rfl; exact rfl; intro b5) | (refine zsp ?_ ?_ <;> (intro hc; (try simp only [zhcs, reduceCtorEq] at hc); (try (exfalso; first | (first | omega | exact absurd rfl hc | exact absurd hc (by decide)) | contradiction | omega | exact absurd rfl hc | exact absurd (by decide) hc))))))
    all_goals ((with_reducible apply At.retB1 (B := [])); exact rfl; exact rfl; exact zml; exact zkp; exact ⟨rfl, rfl, rfl⟩)
  rw [if_pos h0] at k0
  rw [if_pos h0, if_pos h0] at k3
  rw [if_pos h0.1] at k4 k5
  rw [if_neg (not_not_intro h0)]
  by_cases h1 : Lb.right l.l
  rotate_left
  · rw [if_neg h1] at k1
    rw [if_pos h1]
    clear h0
    refine Ct.enterV (by rfl) Tryz.func12 rfl Tryz.ntmps12 rfl (fun w0 Rest => ?_)
    (repeat' (first | refine zss ?_ | refine zs0 ?_ | ((with_reducible first | apply AtM1.cr | apply AtQ.cr | apply At.cr); exact rfl; exact rfl; exact fun _ hmm => k0 _ hmm; exact ztk; kernel_rfl) | ((with_reducible first | apply AtM1.cr | apply AtQ.cr | apply At.cr); exact rfl; exact rfl; exact fun _ hmm => k1 _ hmm; exact ztk; kernel_rfl) | ((with_reducible apply At.box (d := 3)); exact rfl; exact rfl; exact rfl; intro b3) | ((with_reducible apply At.box (d := 5)); exact rfl; exact rfl; exact rfl; intro b5) | (refine zsp ?_ ?_ <;> (intro hc; (try simp only [zhcs, reduceCtorEq] at hc); (try (exfalso; first | (first | omega | exact absurd rfl hc | exact absurd hc (by decide)) | contradiction | omega | exact absurd rfl hc | exact absurd (by decide) hc))))))
    all_goals ((with_reducible apply At.retB1 (B := [])); exact rfl; exact rfl; exact zml; exact zkp; exact ⟨rfl, rfl, rfl⟩)
  rw [if_pos h1] at k1
  rw [if_neg (not_not_intro h1)]
  by_cases h2 : e.ok
  rotate_left
  · rw [if_neg h2] at k2
    rw [if_pos h2]
    clear h0 h1
    refine Ct.enterV (by rfl) Tryz.func12 rfl Tryz.ntmps12 rfl (fun w0 Rest => ?_)
    (repeat' (first | refine zss ?_ | refine zs0 ?_ | ((with_reducible first | apply AtM1.cr | apply AtQ.cr | apply At.cr); exact rfl; exact rfl; exact fun _ hmm => k0 _ hmm; exact ztk; kernel_rfl) | ((with_reducible first | apply AtM1.cr | apply AtQ.cr | apply At.cr); exact rfl; exact rfl; exact fun _ hmm => k1 _ hmm; exact ztk; kernel_rfl) | ((with_reducible first | apply AtM1.callp | apply AtQ.callp | apply At.callp); kernel_rfl; exact rfl; exact rfl; exact k2) | ((with_reducible apply At.box (d := 3)); exact rfl; exact rfl; exact rfl; intro b3) | ((with_reducible apply At.box (d := 5)); exact rfl; exact rfl; exact rfl; intro b5) | (refine zsp ?_ ?_ <;> (intro hc; (try simp only [zhcs, reduceCtorEq] at hc); (try (exfalso; first | (first | omega | exact absurd rfl hc | exact absurd hc (by decide)) | contradiction | omega | exact absurd rfl hc | exact absurd (by decide) hc))))))
    all_goals ((with_reducible apply At.retB1 (B := [])); exact rfl; exact rfl; exact zml; exact zkp; exact ⟨rfl, rfl, rfl⟩)
  rw [if_pos h2] at k2
  rw [if_neg (not_not_intro h2)]
  clear h0 h1 h2
  generalize toB u = tb at k3 ⊢
  generalize mk u = ta at k3 ⊢
  by_cases h3 : e.T < ta ∨ tb ≤ e.T
  · rw [if_pos h3]
    generalize (match fstO u.pl.l.length (fnd u l.l) with | some k => ((k : Int), (0 : Int)) | none => (0, 3)) = fv at k4
    clear k5
    refine Ct.enterV (by rfl) Tryz.func12 rfl Tryz.ntmps12 rfl (fun w0 Rest => ?_)
    (repeat' (first | refine zss ?_ | refine zs0 ?_ | ((with_reducible first | apply AtM1.cr | apply AtQ.cr | apply At.cr); exact rfl; exact rfl; exact fun _ hmm => k0 _ hmm; exact ztk; kernel_rfl) | ((with_reducible first | apply AtM1.cr | apply AtQ.cr | apply At.cr); exact rfl; exact rfl; exact fun _ hmm => k1 _ hmm; exact ztk; kernel_rfl) | ((with_reducible first | apply AtM1.callp | apply AtQ.callp | apply At.callp); kernel_rfl; exact rfl; exact rfl; exact k2) | ((with_reducible first | apply AtM1.cr | apply AtQ.cr | apply At.cr); exact rfl; exact rfl; exact fun _ hmm => k3 _ hmm; exact ztk; kernel_rfl) | ((with_reducible first | apply AtM1.cr | apply AtQ.cr | apply At.cr); exact rfl; exact rfl; exact fun _ hmm => k4 _ hmm; exact ztk; kernel_rfl) | ((with_reducible apply At.box (d := 3)); exact rfl; exact rfl; exact rfl; intro b3) | ((with_reducible apply At.box (d := 5)); exact rfl; exact rfl; exact rfl; intro b5) | (refine zsp ?_ ?_ <;> (intro hc; (try simp only [zhcs, reduceCtorEq] at hc); (try (exfalso; first | (first | omega | exact absurd rfl hc | exact absurd hc (by decide)) | contradiction | omega | exact absurd rfl hc | exact absurd (by decide) hc))))))
    all_goals ((with_reducible apply At.retB1 (B := [])); exact rfl; exact rfl; exact zml; exact zkp; exact ⟨rfl, rfl, rfl⟩)
  rw [if_neg h3]
  cases hf : fstO u.pl.l.length (fnd u l.l) with
  | some i =>
    obtain ⟨hi, -, -⟩ := fstO_spec hf
    rw [hf] at k4
    dsimp only at k4 ⊢
    clear hf k5
    by_cases h4 : e.T ≤ u.pl.l[i]!.last
    · rw [if_pos h4]
      refine Ct.enterV (by rfl) Tryz.func12 rfl Tryz.ntmps12 rfl (fun w0 Rest => ?_)
      (repeat' (first | refine zss ?_ | refine zsM ?_ | ((with_reducible first | apply AtM1.cr | apply AtQ.cr | apply At.cr); exact rfl; exact rfl; exact fun _ hmm => k0 _ hmm; exact ztk; kernel_rfl) | ((with_reducible first | apply AtM1.cr | apply AtQ.cr | apply At.cr); exact rfl; exact rfl; exact fun _ hmm => k1 _ hmm; exact ztk; kernel_rfl) | ((with_reducible first | apply AtM1.callp | apply AtQ.callp | apply At.callp); kernel_rfl; exact rfl; exact rfl; exact k2) | ((with_reducible first | apply AtM1.cr | apply AtQ.cr | apply At.cr); exact rfl; exact rfl; exact fun _ hmm => k3 _ hmm; exact ztk; kernel_rfl) | ((with_reducible first | apply AtM1.cr | apply AtQ.cr | apply At.cr); exact rfl; exact rfl; exact fun _ hmm => k4 _ hmm; exact ztk; kernel_rfl) | ((with_reducible apply At.box (d := 3)); exact rfl; exact rfl; exact rfl; intro b3) | ((with_reducible apply At.box (d := 5)); exact rfl; exact rfl; exact rfl; intro b5) | (refine zsp ?_ ?_ <;> (intro hc; (try simp only [zhcs, reduceCtorEq] at hc); (try (exfalso; first | (first | omega | exact absurd rfl hc | exact absurd hc (by decide)) | contradiction | omega | exact absurd rfl hc | exact absurd (by decide) hc))))))
      all_goals ((with_reducible apply At.retB1 (B := [])); exact rfl; exact rfl; exact zml; exact zkp; exact ⟨rfl, rfl, rfl⟩)
    · rw [if_neg h4]
      refine Ct.enterV (by rfl) Tryz.func12 rfl Tryz.ntmps12 rfl (fun w0 Rest => ?_)
      (repeat' (first | refine zss ?_ | refine zsM ?_ | ((with_reducible first | apply AtM1.cr | apply AtQ.cr | apply At.cr); exact rfl; exact rfl; exact fun _ hmm => k0 _ hmm; exact ztk; kernel_rfl) | ((with_reducible first | apply AtM1.cr | apply AtQ.cr | apply At.cr); exact rfl; exact rfl; exact fun _ hmm => k1 _ hmm; exact ztk; kernel_rfl) | ((with_reducible first | apply AtM1.callp | apply AtQ.callp | apply At.callp); kernel_rfl; exact rfl; exact rfl; exact k2) | ((with_reducible first | apply AtM1.cr | apply AtQ.cr | apply At.cr); exact rfl; exact rfl; exact fun _ hmm => k3 _ hmm; exact ztk; kernel_rfl) | ((with_reducible first | apply AtM1.cr | apply AtQ.cr | apply At.cr); exact rfl; exact rfl; exact fun _ hmm => k4 _ hmm; exact ztk; kernel_rfl) | ((with_reducible apply At.box (d := 3)); exact rfl; exact rfl; exact rfl; intro b3) | ((with_reducible apply At.box (d := 5)); exact rfl; exact rfl; exact rfl; intro b5) | (refine zsp ?_ ?_ <;> (intro hc; (try simp only [zhcs, reduceCtorEq] at hc); (try (exfalso; first | (first | omega | exact absurd rfl hc | exact absurd hc (by decide)) | contradiction | omega | exact absurd rfl hc | exact absurd (by decide) hc))))))
      all_goals ((with_reducible apply At.retB1 (B := [])); exact rfl; exact rfl; exact zml; exact zkp; exact ⟨rfl, rfl, rfl⟩)
  | none =>
    rw [hf] at k4
    dsimp only at k4 ⊢
    clear hf
    cases hst : e.S
    rotate_left
    · rw [if_pos rfl]
      clear k5
      refine Ct.enterV (by rfl) Tryz.func12 rfl Tryz.ntmps12 rfl (fun w0 Rest => ?_)
      (repeat' (first | refine zss ?_ | refine zsM ?_ | ((with_reducible first | apply AtM1.cr | apply AtQ.cr | apply At.cr); exact rfl; exact rfl; exact fun _ hmm => k0 _ hmm; exact ztk; kernel_rfl) | ((with_reducible first | apply AtM1.cr | apply AtQ.cr | apply At.cr); exact rfl; exact rfl; exact fun _ hmm => k1 _ hmm; exact ztk; kernel_rfl) | ((with_reducible first | apply AtM1.callp | apply AtQ.callp | apply At.callp); kernel_rfl; exact rfl; exact rfl; exact k2) | ((with_reducible first | apply AtM1.cr | apply AtQ.cr | apply At.cr); exact rfl; exact rfl; exact fun _ hmm => k3 _ hmm; exact ztk; kernel_rfl) | ((with_reducible first | apply AtM1.cr | apply AtQ.cr | apply At.cr); exact rfl; exact rfl; exact fun _ hmm => k4 _ hmm; exact ztk; kernel_rfl) | ((with_reducible apply At.box (d := 3)); exact rfl; exact rfl; exact rfl; intro b3) | ((with_reducible apply At.box (d := 5)); exact rfl; exact rfl; exact rfl; intro b5) | (refine zsp ?_ ?_ <;> (intro hc; (try simp only [zhcs, reduceCtorEq] at hc); (try (exfalso; first | (first | omega | exact absurd rfl hc | exact absurd hc (by decide) | exact absurd hst hc | (rw [hst] at hc; exact absurd hc (by decide))) | contradiction | omega | exact absurd rfl hc | exact absurd (by decide) hc))))))
      all_goals ((with_reducible apply At.retB1 (B := [])); exact rfl; exact rfl; exact zml; exact zkp; exact ⟨rfl, rfl, rfl⟩)
    rw [if_neg (by decide)]
    cases hr : fstO u.pl.l.length (roo u) with
    | some i =>
      rw [hr] at k5
      dsimp only at k5 ⊢
      clear hr
      refine Ct.enterV (by rfl) Tryz.func12 rfl Tryz.ntmps12 rfl (fun w0 Rest => ?_)
      (repeat' (first | refine zss ?_ | refine zsM ?_ | ((with_reducible first | apply AtM1.cr | apply AtQ.cr | apply At.cr); exact rfl; exact rfl; exact fun _ hmm => k0 _ hmm; exact ztk; kernel_rfl) | ((with_reducible first | apply AtM1.cr | apply AtQ.cr | apply At.cr); exact rfl; exact rfl; exact fun _ hmm => k1 _ hmm; exact ztk; kernel_rfl) | ((with_reducible first | apply AtM1.callp | apply AtQ.callp | apply At.callp); kernel_rfl; exact rfl; exact rfl; exact k2) | ((with_reducible first | apply AtM1.cr | apply AtQ.cr | apply At.cr); exact rfl; exact rfl; exact fun _ hmm => k3 _ hmm; exact ztk; kernel_rfl) | ((with_reducible first | apply AtM1.cr | apply AtQ.cr | apply At.cr); exact rfl; exact rfl; exact fun _ hmm => k4 _ hmm; exact ztk; kernel_rfl) | ((with_reducible first | apply AtM1.cr | apply AtQ.cr | apply At.cr); exact rfl; exact rfl; exact fun _ hmm => k5 _ hmm; exact ztk; kernel_rfl) | ((with_reducible apply At.box (d := 3)); exact rfl; exact rfl; exact rfl; intro b3) | ((with_reducible apply At.box (d := 5)); exact rfl; exact rfl; exact rfl; intro b5) | (refine zsp ?_ ?_ <;> (intro hc; (try simp only [zhcs, reduceCtorEq] at hc); (try (exfalso; first | (first | omega | exact absurd rfl hc | exact absurd hc (by decide) | (rw [hst] at hc; exact absurd hc (by decide))) | contradiction | omega | exact absurd rfl hc | exact absurd (by decide) hc))))))
      all_goals ((with_reducible apply At.retB1 (B := [])); exact rfl; exact rfl; exact zml; exact zkp; exact ⟨rfl, rfl, rfl⟩)
    | none =>
      rw [hr] at k5
      dsimp only at k5 ⊢
      clear hr
      refine Ct.enterV (by rfl) Tryz.func12 rfl Tryz.ntmps12 rfl (fun w0 Rest => ?_)
      (repeat' (first | refine zss ?_ | refine zsM ?_ | ((with_reducible first | apply AtM1.cr | apply AtQ.cr | apply At.cr); exact rfl; exact rfl; exact fun _ hmm => k0 _ hmm; exact ztk; kernel_rfl) | ((with_reducible first | apply AtM1.cr | apply AtQ.cr | apply At.cr); exact rfl; exact rfl; exact fun _ hmm => k1 _ hmm; exact ztk; kernel_rfl) | ((with_reducible first | apply AtM1.callp | apply AtQ.callp | apply At.callp); kernel_rfl; exact rfl; exact rfl; exact k2) | ((with_reducible first | apply AtM1.cr | apply AtQ.cr | apply At.cr); exact rfl; exact rfl; exact fun _ hmm => k3 _ hmm; exact ztk; kernel_rfl) | ((with_reducible first | apply AtM1.cr | apply AtQ.cr | apply At.cr); exact rfl; exact rfl; exact fun _ hmm => k4 _ hmm; exact ztk; kernel_rfl) | ((with_reducible first | apply AtM1.cr | apply AtQ.cr | apply At.cr); exact rfl; exact rfl; exact fun _ hmm => k5 _ hmm; exact ztk; kernel_rfl) | ((with_reducible apply At.box (d := 3)); exact rfl; exact rfl; exact rfl; intro b3) | ((with_reducible apply At.box (d := 5)); exact rfl; exact rfl; exact rfl; intro b5) | (refine zsp ?_ ?_ <;> (intro hc; (try simp only [zhcs, reduceCtorEq] at hc); (try (exfalso; first | (first | omega | exact absurd rfl hc | exact absurd hc (by decide) | (rw [hst] at hc; exact absurd hc (by decide))) | contradiction | omega | exact absurd rfl hc | exact absurd (by decide) hc))))))
      all_goals ((with_reducible apply At.retB1 (B := [])); exact rfl; exact rfl; exact zml; exact zkp; exact ⟨rfl, rfl, rfl⟩)
theorem whr_cases (u : Sta) (l : List Lab) (e : Ev) : ((whr u l e).2.2 ≠ 0 ∧ whr u l e = (0, false, (whr u l e).2.2)) ∨
    (okU u ∧ ((∃ i, fstO u.pl.l.length (fnd u l) = some i ∧ whr u l e = ((i : Int), false, 0)) ∨
      (fstO u.pl.l.length (fnd u l) = none ∧ ∃ i, fstO u.pl.l.length (roo u) = some i ∧ whr u l e = ((i : Int), true, 0)))) := by
  have hw := (rfl : whr u l e = whr u l e)
  generalize hx : whr u l e = w at hw ⊢
  clear hw
  unfold whr at hx
  by_cases h0 : okU u
  rotate_left
  · rw [if_pos h0] at hx; subst hx; exact .inl ⟨by decide, rfl⟩
  rw [if_neg (not_not_intro h0)] at hx
  by_cases h1 : Lb.right l
  rotate_left
  · rw [if_pos h1] at hx; subst hx; exact .inl ⟨by decide, rfl⟩
  rw [if_neg (not_not_intro h1)] at hx
  by_cases h2 : e.ok
  rotate_left
  · rw [if_pos h2] at hx; subst hx; exact .inl ⟨by decide, rfl⟩
  rw [if_neg (not_not_intro h2)] at hx
  by_cases h3 : e.T < mk u ∨ toB u ≤ e.T
  · rw [if_pos h3] at hx; subst hx; exact .inl ⟨by decide, rfl⟩
  rw [if_neg h3] at hx
  cases hf : fstO u.pl.l.length (fnd u l) with
  | some i =>
    rw [hf] at hx
    dsimp only at hx
    by_cases h4 : e.T ≤ u.pl.l[i]!.last
    · rw [if_pos h4] at hx; subst hx; exact .inl ⟨by decide, rfl⟩
    · rw [if_neg h4] at hx; subst hx; exact .inr ⟨h0, .inl ⟨i, rfl, rfl⟩⟩
  | none =>
    rw [hf] at hx
    dsimp only at hx
    cases hst : e.S
    rotate_left
    · rw [hst, if_pos rfl] at hx; subst hx; exact .inl ⟨by decide, rfl⟩
    rw [hst, if_neg (by decide)] at hx
    cases hr : fstO u.pl.l.length (roo u) with
    | some i => rw [hr] at hx; dsimp only at hx; subst hx; exact .inr ⟨h0, .inr ⟨rfl, i, rfl, rfl⟩⟩
    | none => rw [hr] at hx; dsimp only at hx; subst hx; exact .inl ⟨by decide, rfl⟩
theorem where_ {m : Mem} (u : Sta) (l : Lst Lab) (e : Ev) (hs : u.Ok m) (hl : l.l.length ≤ 1000000000) (hm : Lb.Mid l.l) (sl1 : Sl m Lb.cells 2 l.p l.c l.l) :
    Rd Tryz.prog 8 #[u.v, l.v, e.v] m [] (whv (whr u l.l e)) := by
  unfold Rd
  have k0 := fun (m' : Mem) (h : m.le m') => accept u l e (hs.mono h) hl hm (sl1.mono h)
  have k4 := fun (m' : Mem) (h : m.le m') => find u l (hs.mono h) hl (sl1.mono h)
  have k5 := fun (m' : Mem) (h : m.le m') => room u (hs.mono h)
  unfold sel at k4 k5
  rcases whr_cases u l.l e with ⟨h1, h2⟩ | ⟨h0, ⟨i, h1, h2⟩ | ⟨h1, i, h3, h2⟩⟩
  · rw [h2]
    generalize (whr u l.l e).2.2 = w at k0 h1 ⊢
    clear k4 k5 h2 hs hm
    refine Ct.enterV (by rfl) Tryz.func8 rfl Tryz.ntmps8 rfl (fun w0 Rest => ?_)
    (repeat' (first | refine zss ?_ | refine zs0 ?_ | ((with_reducible first | apply AtM1.cr | apply AtQ.cr | apply At.cr); exact rfl; exact rfl; exact fun _ hmm => k0 _ hmm; exact ztk; kernel_rfl) | ((with_reducible apply At.box (d := 3)); exact rfl; exact rfl; exact rfl; intro b3) | ((with_reducible apply At.box (d := 5)); exact rfl; exact rfl; exact rfl; intro b5) | (refine zsp ?_ ?_ <;> (intro hc; (try simp only [zhcs, reduceCtorEq] at hc); (try (exfalso; first | (first | omega | exact absurd rfl hc | exact absurd hc h1 | exact h1 hc) | contradiction | omega | exact absurd rfl hc | exact absurd (by decide) hc))))))
    all_goals ((with_reducible apply At.retV (B := [])); exact rfl; (repeat' (first | exact RVs.nil | (with_reducible apply RVs.cons) | exact rv_tmp (by rfl) | exact rv_cellN (by rfl) (by repeat constructor) (by rfl) (by rfl) (by rfl) | exact rv_cell1 (by rfl) (by repeat constructor) (by rfl) (by rfl))); exact zml; exact zkp; exact ⟨rfl, rfl, rfl⟩)
  · rw [h2]
    rw [h2] at k0
    rw [if_pos h0.1, h1] at k4
    dsimp only at k0 k4
    clear k5 h2 h1 h0 hs hm
    refine Ct.enterV (by rfl) Tryz.func8 rfl Tryz.ntmps8 rfl (fun w0 Rest => ?_)
    (repeat' (first | refine zss ?_ | refine zs0 ?_ | ((with_reducible first | apply AtM1.cr | apply AtQ.cr | apply At.cr); exact rfl; exact rfl; exact fun _ hmm => k0 _ hmm; exact ztk; kernel_rfl) | ((with_reducible first | apply AtM1.cr | apply AtQ.cr | apply At.cr); exact rfl; exact rfl; exact fun _ hmm => k4 _ hmm; exact ztk; kernel_rfl) | ((with_reducible apply At.box (d := 3)); exact rfl; exact rfl; exact rfl; intro b3) | ((with_reducible apply At.box (d := 5)); exact rfl; exact rfl; exact rfl; intro b5) | (refine zsp ?_ ?_ <;> (intro hc; (try simp only [zhcs, reduceCtorEq] at hc); (try (exfalso; first | (first | omega | exact absurd rfl hc | exact absurd hc (by decide)) | contradiction | omega | exact absurd rfl hc | exact absurd (by decide) hc))))))
    all_goals ((with_reducible apply At.retV (B := [])); exact rfl; (repeat' (first | exact RVs.nil | (with_reducible apply RVs.cons) | exact rv_tmp (by rfl) | exact rv_cellN (by rfl) (by repeat constructor) (by rfl) (by rfl) (by rfl) | exact rv_cell1 (by rfl) (by repeat constructor) (by rfl) (by rfl))); exact zml; exact zkp; exact ⟨rfl, rfl, rfl⟩)
  · rw [h2]
    rw [h2] at k0
    rw [if_pos h0.1, h1] at k4
    rw [if_pos h0.1, h3] at k5
    dsimp only at k0 k4 k5
    clear h3 h2 h1 h0 hs hm
    refine Ct.enterV (by rfl) Tryz.func8 rfl Tryz.ntmps8 rfl (fun w0 Rest => ?_)
    (repeat' (first | refine zss ?_ | refine zs0 ?_ | ((with_reducible first | apply AtM1.cr | apply AtQ.cr | apply At.cr); exact rfl; exact rfl; exact fun _ hmm => k0 _ hmm; exact ztk; kernel_rfl) | ((with_reducible first | apply AtM1.cr | apply AtQ.cr | apply At.cr); exact rfl; exact rfl; exact fun _ hmm => k4 _ hmm; exact ztk; kernel_rfl) | ((with_reducible first | apply AtM1.cr | apply AtQ.cr | apply At.cr); exact rfl; exact rfl; exact fun _ hmm => k5 _ hmm; exact ztk; kernel_rfl) | ((with_reducible apply At.box (d := 3)); exact rfl; exact rfl; exact rfl; intro b3) | ((with_reducible apply At.box (d := 5)); exact rfl; exact rfl; exact rfl; intro b5) | (refine zsp ?_ ?_ <;> (intro hc; (try simp only [zhcs, reduceCtorEq] at hc); (try (exfalso; first | (first | omega | exact absurd rfl hc | exact absurd hc (by decide)) | contradiction | omega | exact absurd rfl hc | exact absurd (by decide) hc))))))
    all_goals ((with_reducible apply At.retV (B := [])); exact rfl; (repeat' (first | exact RVs.nil | (with_reducible apply RVs.cons) | exact rv_tmp (by rfl) | exact rv_cellN (by rfl) (by repeat constructor) (by rfl) (by rfl) (by rfl) | exact rv_cell1 (by rfl) (by repeat constructor) (by rfl) (by rfl))); exact zml; exact zkp; exact ⟨rfl, rfl, rfl⟩)
end Dd
end Go.Proofs.YtgkgbdkcbbpjhaaGreat

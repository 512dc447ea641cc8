/- Part 13 of what the law's proof needs: rules of the walk, contracts of functions, plain laws. No condition. -/
import Derived.Test.YtecifniognbomaaGreatAuTZ12
/- States, the document's answers. -/
set_option linter.unusedSimpArgs false
set_option linter.unusedVariables false
set_option linter.unusedSectionVars false
set_option maxRecDepth 20000
set_option maxHeartbeats 4000000
namespace Go.Proofs.YtecifniognbomaaGreat
open Go Go.J
attribute [local irreducible] At AtQ AtM AtM1 PR Ct Pu Rd Res.blk Res.own Res.ex RVs RV
namespace Dd
open Se Win St
theorem time (t : Int) : Pu Tryz.prog 39 #[.int .i64 t] (.bool (decide (tm t))) := Pu.intro fun m => by
  unfold tm
  refine Ct.enterV (by rfl) Tryz.func39 rfl Tryz.ntmps39 rfl (fun w0 Rest => ?_)
  (repeat' (first | refine zss ?_ | refine zs0 ?_ | (refine zsp ?_ ?_ <;> (intro hc; (try simp only [zhcs, reduceCtorEq] at hc); (try (exfalso; first | contradiction | omega | exact absurd rfl hc | exact absurd (by decide) hc))))))
  all_goals ((with_reducible apply At.retB1 (B := [])); exact rfl; exact rfl; exact zml; exact zkp; exact ⟨congrArg Value.bool (by simp [hc]), rfl, rfl⟩)
theorem empty {m : Mem} (x : Ser) (hx : x.Ok m) : Rd Tryz.prog 41 #[x.v] m [] (.bool (emp x)) := by
  unfold Rd
  have k := fun (m' : Mem) (h : m.le m') => Ds.sameS x Ser.z (hx.mono h) (zok m')
  unfold emp
  refine Ct.enterV (by rfl) Tryz.func41 rfl Tryz.ntmps41 rfl (fun w0 Rest => ?_)
  (repeat' (first | refine zss ?_ | refine zsM ?_ | ((with_reducible first | apply AtM1.cr | apply AtQ.cr | apply At.cr); exact rfl; exact rfl; exact fun _ hmm => k _ hmm; exact ztk; kernel_rfl) | ((with_reducible apply At.box (d := 1)); exact rfl; exact rfl; exact rfl; intro b1) | (refine zsp ?_ ?_ <;> (intro hc; (try simp only [zhcs, reduceCtorEq] at hc); (try (exfalso; first | contradiction | omega | exact absurd rfl hc | exact absurd (by decide) hc))))))
  all_goals ((with_reducible apply At.retB1 (B := [])); exact rfl; exact rfl; exact zml; exact zkp; exact ⟨rfl, rfl, rfl⟩)
theorem whole_ (s : Sta) : Pu Tryz.prog 38 #[s.v] (.bool (decide (whole s))) := Pu.intro fun m => by
  have k0 := Dc.check s.k
  unfold Cfg.chk at k0
  by_cases h0 : s.k.ok
  · rw [if_pos h0] at k0
    rw [show decide (whole s) = decide ((s.pl.l.length : Int) = s.k.c) from decide_eq_decide.2 ⟨fun h => h.2, fun h => ⟨h0, h⟩⟩]
    refine Ct.enterV (by rfl) Tryz.func38 rfl Tryz.ntmps38 rfl (fun w0 Rest => ?_)
    (repeat' (first | refine zss ?_ | refine zs0 ?_ | ((with_reducible first | apply AtM1.callp | apply AtQ.callp | apply At.callp); kernel_rfl; exact rfl; exact rfl; exact k0) | ((with_reducible apply At.box (d := 1)); exact rfl; exact rfl; exact rfl; intro b1) | (refine zsp ?_ ?_ <;> (intro hc; (try simp only [zhcs, reduceCtorEq] at hc); (try (exfalso; first | (first | omega | exact absurd rfl hc) | contradiction | omega | exact absurd rfl hc | exact absurd (by decide) hc))))))
    all_goals ((with_reducible apply At.retB1 (B := [])); exact rfl; exact rfl; exact zml; exact zkp; exact ⟨rfl, rfl, rfl⟩)
  · rw [if_neg h0] at k0
    rw [decide_eq_false (fun h : whole s => h0 h.1)]
    refine Ct.enterV (by rfl) Tryz.func38 rfl Tryz.ntmps38 rfl (fun w0 Rest => ?_)
    (repeat' (first | refine zss ?_ | refine zs0 ?_ | ((with_reducible first | apply AtM1.callp | apply AtQ.callp | apply At.callp); kernel_rfl; exact rfl; exact rfl; exact k0) | ((with_reducible apply At.box (d := 1)); exact rfl; exact rfl; exact rfl; intro b1) | (refine zsp ?_ ?_ <;> (intro hc; (try simp only [zhcs, reduceCtorEq] at hc); (try (exfalso; first | (first | omega | exact absurd rfl hc) | contradiction | omega | exact absurd rfl hc | exact absurd (by decide) hc))))))
    all_goals ((with_reducible apply At.retB1 (B := [])); exact rfl; exact rfl; exact zml; exact zkp; exact ⟨rfl, rfl, rfl⟩)
theorem lives {m : Mem} (s : Sta) (i : Nat) (hs : s.Ok m) (hi : i < s.pl.l.length) : Rd Tryz.prog 43 #[s.v, .int .i64 (i : Int)] m [] (.bool (liv s s.pl.l[i]!)) := by
  unfold Rd
  have sl0 := hs.sl
  have np := hs.np
  have k1 := fun (m' : Mem) (h : m.le m') => empty s.pl.l[i]! ((hs.at hi).mono h)
  have k2 := Dc.deadR s.k s.pl.l[i]!.last s.swept
  unfold liv
  generalize emp s.pl.l[i]! = e at k1 ⊢
  generalize dead s.k s.pl.l[i]!.last s.swept = d at k2 ⊢
  clear hs
  cases e
  rotate_left
  · refine Ct.enterV (by rfl) Tryz.func43 rfl Tryz.ntmps43 rfl (fun w0 Rest => ?_)
    (repeat' (first | refine zss ?_ | refine zsM ?_ | ((with_reducible first | apply AtM1.cr | apply AtQ.cr | apply At.cr); exact rfl; exact rfl; exact fun _ hmm => k1 _ hmm; exact ztk; kernel_rfl) | ((with_reducible apply At.box (d := 2)); exact rfl; exact rfl; exact rfl; intro b2) | (refine zsp ?_ ?_ <;> (intro hc; (try simp only [zhcs, reduceCtorEq] at hc); (try (exfalso; first | (first | omega | exact absurd rfl hc) | contradiction | omega | exact absurd rfl hc | exact absurd (by decide) hc))))))
    all_goals ((with_reducible apply At.retB1 (B := [])); exact rfl; exact rfl; exact zml; exact zkp; exact ⟨rfl, rfl, rfl⟩)
  by_cases hw : s.swept = -1
  · rw [decide_eq_true hw]
    refine Ct.enterV (by rfl) Tryz.func43 rfl Tryz.ntmps43 rfl (fun w0 Rest => ?_)
    (repeat' (first | refine zss ?_ | refine zsM ?_ | ((with_reducible first | apply AtM1.cr | apply AtQ.cr | apply At.cr); exact rfl; exact rfl; exact fun _ hmm => k1 _ hmm; exact ztk; kernel_rfl) | ((with_reducible apply At.box (d := 2)); exact rfl; exact rfl; exact rfl; intro b2) | (refine zsp ?_ ?_ <;> (intro hc; (try simp only [zhcs, reduceCtorEq] at hc); (try (exfalso; first | (first | omega | exact absurd rfl hc | exact absurd hw hc) | contradiction | omega | exact absurd rfl hc | exact absurd (by decide) hc))))))
    all_goals ((with_reducible apply At.retB1 (B := [])); exact rfl; exact rfl; exact zml; exact zkp; exact ⟨rfl, rfl, rfl⟩)
  · rw [decide_eq_false hw]
    refine Ct.enterV (by rfl) Tryz.func43 rfl Tryz.ntmps43 rfl (fun w0 Rest => ?_)
    (repeat' (first | refine zss ?_ | refine zsM ?_ | ((with_reducible first | apply AtM1.cr | apply AtQ.cr | apply At.cr); exact rfl; exact rfl; exact fun _ hmm => k1 _ hmm; exact ztk; kernel_rfl) | ((with_reducible first | apply AtM1.callp | apply AtQ.callp | apply At.callp); kernel_rfl; exact rfl; exact rfl; exact k2) | ((with_reducible apply At.box (d := 2)); exact rfl; exact rfl; exact rfl; intro b2) | (refine zsp ?_ ?_ <;> (intro hc; (try simp only [zhcs, reduceCtorEq] at hc); (try (exfalso; first | (first | omega | exact absurd rfl hc | exact absurd hc hw) | contradiction | omega | exact absurd rfl hc | exact absurd (by decide) hc))))))
    all_goals ((with_reducible apply At.retB1 (B := [])); exact rfl; exact rfl; exact zml; exact zkp; exact ⟨by first | rfl | (cases d <;> rfl), rfl, rfl⟩)
theorem markR (s : Sta) : Pu Tryz.prog 40 #[s.v] (.int .i64 (mkU s)) := Pu.intro fun m => by
  have k0 := whole_ s
  have k1 := time s.now
  unfold mkU
  by_cases h0 : whole s
  rotate_left
  · rw [decide_eq_false h0] at k0
    rw [if_neg (fun h => h0 h.1)]
    refine Ct.enterV (by rfl) Tryz.func40 rfl Tryz.ntmps40 rfl (fun w0 Rest => ?_)
    (repeat' (first | refine zss ?_ | refine zs0 ?_ | ((with_reducible first | apply AtM1.callp | apply AtQ.callp | apply At.callp); kernel_rfl; exact rfl; exact rfl; exact k0) | ((with_reducible apply At.box (d := 1)); exact rfl; exact rfl; exact rfl; intro b1) | (refine zsp ?_ ?_ <;> (intro hc; (try simp only [zhcs, reduceCtorEq] at hc); (try (exfalso; first | (first | omega | exact absurd rfl hc) | contradiction | omega | exact absurd rfl hc | exact absurd (by decide) hc))))))
    all_goals ((with_reducible apply At.retB1 (B := [])); exact rfl; exact rfl; exact zml; exact zkp; exact ⟨rfl, rfl, rfl⟩)
  rw [decide_eq_true h0] at k0
  by_cases h1 : tm s.now
  rotate_left
  · rw [decide_eq_false h1] at k1
    rw [if_neg (fun h => h1 h.2)]
    refine Ct.enterV (by rfl) Tryz.func40 rfl Tryz.ntmps40 rfl (fun w0 Rest => ?_)
    (repeat' (first | refine zss ?_ | refine zs0 ?_ | ((with_reducible first | apply AtM1.callp | apply AtQ.callp | apply At.callp); kernel_rfl; exact rfl; exact rfl; exact k0) | ((with_reducible first | apply AtM1.callp | apply AtQ.callp | apply At.callp); kernel_rfl; exact rfl; exact rfl; exact k1) | ((with_reducible apply At.box (d := 1)); exact rfl; exact rfl; exact rfl; intro b1) | (refine zsp ?_ ?_ <;> (intro hc; (try simp only [zhcs, reduceCtorEq] at hc); (try (exfalso; first | (first | omega | exact absurd rfl hc) | contradiction | omega | exact absurd rfl hc | exact absurd (by decide) hc))))))
    all_goals ((with_reducible apply At.retB1 (B := [])); exact rfl; exact rfl; exact zml; exact zkp; exact ⟨rfl, rfl, rfl⟩)
  rw [decide_eq_true h1] at k1
  rw [if_pos ⟨h0, h1⟩]
  have ha := h0.1.ha
  obtain ⟨t1, t2⟩ := h1
  have fq : IntKind.wrap .i64 (s.now.tdiv s.k.a) = s.now / s.k.a := IntWalk.i64_quo _ _ (by omega)
  have e1 := Int.emod_add_mul_ediv s.now s.k.a
  have e2 := mod_bd (t := s.now) (w := s.k.a) ha.1
  have em : s.now / s.k.a * s.k.a = mk s := by unfold mk; rw [Int.mul_comm]; omega
  have hb := mk_bd h0.1 ⟨t1, t2⟩
  have fm : IntKind.wrap .i64 (s.now / s.k.a * s.k.a) = mk s := by rw [em]; exact IntWalk.i64_in _ (by omega)
  obtain ⟨r, hr⟩ : ∃ r, s.now / s.k.a = r := ⟨_, rfl⟩
  rw [hr] at fq fm
  clear e1 e2 em hr h0 hb
  refine Ct.enterV (by rfl) Tryz.func40 rfl Tryz.ntmps40 rfl (fun w0 Rest => ?_)
  (repeat' (first | refine zss ?_ | ((first | (with_reducible first | apply At.val | apply AtQ.val)); (first | exact pr_indexArr (k := 0) (by rfl) (by rfl) (by rfl) (by rfl) (by decide) | exact pr_quo (by rfl) (by rfl) (by omega) fq | exact pr_mul (by rfl) (by rfl) fm); exact rfl) | refine zs0 ?_ | ((with_reducible first | apply AtM1.callp | apply AtQ.callp | apply At.callp); kernel_rfl; exact rfl; exact rfl; exact k0) | ((with_reducible first | apply AtM1.callp | apply AtQ.callp | apply At.callp); kernel_rfl; exact rfl; exact rfl; exact k1) | ((with_reducible apply At.box (d := 1)); exact rfl; exact rfl; exact rfl; intro b1) | (refine zsp ?_ ?_ <;> (intro hc; (try simp only [zhcs, reduceCtorEq] at hc); (try (exfalso; first | (first | omega | exact absurd rfl hc) | contradiction | omega | exact absurd rfl hc | exact absurd (by decide) hc))))))
  all_goals ((with_reducible apply At.retB1 (B := [])); exact rfl; exact rfl; exact zml; exact zkp; exact ⟨rfl, rfl, rfl⟩)
/-- this place, and one ahead of it -/
def tw2 (u : Sta) (i k : Nat) : Bool := liv u u.pl.l[i]! && liv u u.pl.l[k]! && decide (u.pl.l[k]!.lab.l = u.pl.l[i]!.lab.l)
theorem twn_no {u : Sta} {i : Nat} (h : ∀ k, k < i → tw2 u i k = false) : twn u i = false := by
  unfold twn
  cases hl : liv u u.pl.l[i]!
  · rfl
  · rw [Bool.true_and, List.any_eq_false]
    intro k hk
    have := h k (List.mem_range.1 hk)
    unfold tw2 at this
    rw [hl, Bool.true_and] at this
    rw [this]; decide
theorem twn_yes {u : Sta} {i k : Nat} (hk : k < i) (h : tw2 u i k = true) : twn u i = true := by
  unfold tw2 at h
  rw [Bool.and_assoc, Bool.and_eq_true] at h
  unfold twn
  rw [h.1, Bool.true_and, List.any_eq_true]
  exact ⟨k, List.mem_range.2 hk, h.2⟩
set_option maxRecDepth 100000 in
theorem check {m : Mem} (u : Sta) (hs : u.Ok m) : Rd Tryz.prog 25 #[u.v] m [] (.int .i64 (chk u)) := by
  unfold Rd
  have k0 := whole_ u
  have k1 := time u.now
  have k2 := time u.swept
  have kb : ¬ okU u → chk u = 2 := fun h => if_neg h
  by_cases h0 : whole u
  rotate_left
  · rw [decide_eq_false h0] at k0
    rw [kb fun h => h0 h.1]
    refine Ct.enterV (by rfl) Tryz.func25 rfl Tryz.ntmps25 rfl (fun w0 Rest => ?_)
    (repeat' (first | refine zss ?_ | refine zs0 ?_ | ((with_reducible first | apply AtM1.callp | apply AtQ.callp | apply At.callp); kernel_rfl; exact rfl; exact rfl; exact k0) | ((with_reducible apply At.box (d := 1)); exact rfl; exact rfl; exact rfl; intro b1) | ((with_reducible apply At.alloc (d := 5)); exact rfl; exact rfl; intro b5) | (refine zsp ?_ ?_ <;> (intro hc; (try simp only [zhcs, reduceCtorEq] at hc); (try (exfalso; first | (first | omega | exact absurd rfl hc) | contradiction | omega | exact absurd rfl hc | exact absurd (by decide) hc))))))
    all_goals ((with_reducible apply At.retB1 (B := [])); exact rfl; exact rfl; exact zml; exact zkp; exact ⟨rfl, rfl, rfl⟩)
  rw [decide_eq_true h0] at k0
  by_cases h1 : tm u.now
  rotate_left
  · rw [decide_eq_false h1] at k1
    rw [kb fun h => h1 h.2.1.1]
    refine Ct.enterV (by rfl) Tryz.func25 rfl Tryz.ntmps25 rfl (fun w0 Rest => ?_)
    (repeat' (first | refine zss ?_ | refine zs0 ?_ | ((with_reducible first | apply AtM1.callp | apply AtQ.callp | apply At.callp); kernel_rfl; exact rfl; exact rfl; exact k0) | ((with_reducible first | apply AtM1.callp | apply AtQ.callp | apply At.callp); kernel_rfl; exact rfl; exact rfl; exact k1) | ((with_reducible apply At.box (d := 1)); exact rfl; exact rfl; exact rfl; intro b1) | ((with_reducible apply At.alloc (d := 5)); exact rfl; exact rfl; intro b5) | (refine zsp ?_ ?_ <;> (intro hc; (try simp only [zhcs, reduceCtorEq] at hc); (try (exfalso; first | (first | omega | exact absurd rfl hc) | contradiction | omega | exact absurd rfl hc | exact absurd (by decide) hc))))))
    all_goals ((with_reducible apply At.retB1 (B := [])); exact rfl; exact rfl; exact zml; exact zkp; exact ⟨rfl, rfl, rfl⟩)
  rw [decide_eq_true h1] at k1
  by_cases h2 : u.swept = -1 ∨ tm u.swept
  rotate_left
  · have g1 : ¬ u.swept = -1 := fun e => h2 (.inl e)
    rw [decide_eq_false (fun e => h2 (.inr e))] at k2
    rw [kb fun h => h2 h.2.1.2.1]
    refine Ct.enterV (by rfl) Tryz.func25 rfl Tryz.ntmps25 rfl (fun w0 Rest => ?_)
    (repeat' (first | refine zss ?_ | refine zs0 ?_ | ((with_reducible first | apply AtM1.callp | apply AtQ.callp | apply At.callp); kernel_rfl; exact rfl; exact rfl; exact k0) | ((with_reducible first | apply AtM1.callp | apply AtQ.callp | apply At.callp); kernel_rfl; exact rfl; exact rfl; exact k1) | ((with_reducible first | apply AtM1.callp | apply AtQ.callp | apply At.callp); kernel_rfl; exact rfl; exact rfl; exact k2) | ((with_reducible apply At.box (d := 1)); exact rfl; exact rfl; exact rfl; intro b1) | ((with_reducible apply At.alloc (d := 5)); exact rfl; exact rfl; intro b5) | (refine zsp ?_ ?_ <;> (intro hc; (try simp only [zhcs, reduceCtorEq] at hc); (try (exfalso; first | (first | omega | exact absurd rfl hc | exact absurd hc g1) | contradiction | omega | exact absurd rfl hc | exact absurd (by decide) hc))))))
    all_goals ((with_reducible apply At.retB1 (B := [])); exact rfl; exact rfl; exact zml; exact zkp; exact ⟨rfl, rfl, rfl⟩)
  have k2' : u.swept ≠ -1 → Pu Tryz.prog 39 #[.int .i64 u.swept] (.bool true) := fun g => by
    rw [← decide_eq_true (h2.elim (fun e => absurd e g) id)]; exact k2
  by_cases h3 : u.swept ≤ u.now
  rotate_left
  · rw [kb fun h => h3 h.2.1.2.2]
    by_cases g : u.swept = -1
    · refine Ct.enterV (by rfl) Tryz.func25 rfl Tryz.ntmps25 rfl (fun w0 Rest => ?_)
      (repeat' (first | refine zss ?_ | refine zs0 ?_ | ((with_reducible first | apply AtM1.callp | apply AtQ.callp | apply At.callp); kernel_rfl; exact rfl; exact rfl; exact k0) | ((with_reducible first | apply AtM1.callp | apply AtQ.callp | apply At.callp); kernel_rfl; exact rfl; exact rfl; exact k1) | ((with_reducible apply At.box (d := 1)); exact rfl; exact rfl; exact rfl; intro b1) | ((with_reducible apply At.alloc (d := 5)); exact rfl; exact rfl; intro b5) | (refine zsp ?_ ?_ <;> (intro hc; (try simp only [zhcs, reduceCtorEq] at hc); (try (exfalso; first | (first | omega | exact absurd rfl hc | exact absurd g hc) | contradiction | omega | exact absurd rfl hc | exact absurd (by decide) hc))))))
      all_goals ((with_reducible apply At.retB1 (B := [])); exact rfl; exact rfl; exact zml; exact zkp; exact ⟨rfl, rfl, rfl⟩)
    · have k3 := k2' g
      refine Ct.enterV (by rfl) Tryz.func25 rfl Tryz.ntmps25 rfl (fun w0 Rest => ?_)
      (repeat' (first | refine zss ?_ | refine zs0 ?_ | ((with_reducible first | apply AtM1.callp | apply AtQ.callp | apply At.callp); kernel_rfl; exact rfl; exact rfl; exact k0) | ((with_reducible first | apply AtM1.callp | apply AtQ.callp | apply At.callp); kernel_rfl; exact rfl; exact rfl; exact k1) | ((with_reducible first | apply AtM1.callp | apply AtQ.callp | apply At.callp); kernel_rfl; exact rfl; exact rfl; exact k3) | ((with_reducible apply At.box (d := 1)); exact rfl; exact rfl; exact rfl; intro b1) | ((with_reducible apply At.alloc (d := 5)); exact rfl; exact rfl; intro b5) | (refine zsp ?_ ?_ <;> (intro hc; (try simp only [zhcs, reduceCtorEq] at hc); (try (exfalso; first | (first | omega | exact absurd rfl hc | exact absurd hc g) | contradiction | omega | exact absurd rfl hc | exact absurd (by decide) hc))))))
      all_goals ((with_reducible apply At.retB1 (B := [])); exact rfl; exact rfl; exact zml; exact zkp; exact ⟨rfl, rfl, rfl⟩)
  have hclk : clk u := ⟨h1, h2, h3⟩
  have km := markR u
  rw [show mkU u = mk u from if_pos ⟨h0, h1⟩] at km
  have hb := mk_bd h0.1 h1
  have ha := h0.1.ha
  have ht : 0 ≤ u.now ∧ u.now < 35184372088832 := h1
  have sl0 := hs.sl
  have np := hs.np
  have hok : (∀ i, i < u.pl.l.length → rgt u i = true) → chk u = 0 := fun h => if_pos ⟨h0, hclk, h⟩
  have hno : ∀ i, i < u.pl.l.length → rgt u i = false → chk u = 2 := fun i hi h => kb fun g => by rw [g.2.2 i hi] at h; cases h
  clear kb h1 hclk
  have fa : IntKind.wrap .i64 (mk u + u.k.a) = mk u + u.k.a := IntWalk.i64_in _ (by omega)
  clear k2'
  refine Ct.enterV (by rfl) Tryz.func25 rfl Tryz.ntmps25 rfl (fun w0 Rest => ?_)
  (repeat' (first | (refine At.cutp (id := 1) (False) 33 [1] (by rfl) ?_ ?_) | refine zss ?_ | ((first | (with_reducible first | apply At.val | apply AtQ.val)); (first | exact pr_indexArr (k := 0) (by rfl) (by rfl) (by rfl) (by rfl) (by decide) | exact pr_add (by rfl) (by rfl) fa); exact rfl) | refine zsM ?_ | ((with_reducible first | apply AtM1.callp | apply AtQ.callp | apply At.callp); kernel_rfl; exact rfl; exact rfl; exact k0) | ((with_reducible first | apply AtM1.callp | apply AtQ.callp | apply At.callp); kernel_rfl; exact rfl; exact rfl; exact k1) | ((with_reducible first | apply AtM1.callp | apply AtQ.callp | apply At.callp); kernel_rfl; exact rfl; exact rfl; exact k2) | ((with_reducible first | apply AtM1.callp | apply AtQ.callp | apply At.callp); kernel_rfl; exact rfl; exact rfl; exact km) | ((with_reducible apply At.endp); exact rfl; exact zsubs; exact zml; exact zente; (first | (rcases h2 with h2 | h2 <;> contradiction) | (simp_all; done) | (simp_all <;> omega))) | ((with_reducible apply At.box (d := 1)); exact rfl; exact rfl; exact rfl; intro b1) | ((with_reducible apply At.alloc (d := 5)); exact rfl; exact rfl; intro b5) | (refine zsp ?_ ?_ <;> (intro hc; (try simp only [zhcs, reduceCtorEq] at hc); (try (exfalso; first | (first | omega | exact absurd rfl hc | exact hc | (rcases h2 with h2 | h2 <;> contradiction)) | contradiction | omega | exact absurd rfl hc | exact absurd (by decide) hc))))))
  clear h2
  (refine At.loopk (σ := Nat) [1, 3, 42, 43] (fun s F0 => (44, .int .i64 (s : Int)) :: F0) (fun s => m) (fun s => .blk b1 28 u.cells :: Rest) (fun s => s ≤ u.pl.l.length ∧ ∀ i, i < s → rgt u i = true) (fun s => u.pl.l.length - s) 0 (by rfl) ?_ zsubs zml zente ?_)
  · exact ⟨Nat.zero_le _, fun i hi => absurd hi (Nat.not_lt_zero i)⟩
  rintro i ⟨hi0, hn⟩
  by_cases hi : i < u.pl.l.length
  rotate_left
  · rw [hok (fun j hj => hn j (by omega))]
    clear hok hno hn
    (repeat' (first | refine zss ?_ | refine zsM ?_ | ((with_reducible apply At.box (d := 1)); exact rfl; exact rfl; exact rfl; intro b1) | ((with_reducible apply At.alloc (d := 5)); exact rfl; exact rfl; intro b5) | (refine zsp ?_ ?_ <;> (intro hc; (try simp only [zhcs, reduceCtorEq] at hc); (try (exfalso; first | (first | omega | exact absurd rfl hc) | contradiction | omega | exact absurd rfl hc | exact absurd (by decide) hc))))))
    all_goals ((with_reducible apply At.retB1 (B := [])); exact rfl; exact rfl; exact zml; exact zkp; exact ⟨rfl, rfl, rfl⟩)
  have hx := hs.at hi
  have ke := fun (m' : Mem) (h : m.le m') => empty u.pl.l[i]! (hx.mono h)
  have kc := fun (m' : Mem) (h : m.le m') => Ds.checkS u.k u.pl.l[i]! (hx.mono h)
  unfold schk at kc
  have hst : rgt u i = true → ∀ j, j < i + 1 → rgt u j = true := fun g j hj => by
    by_cases e : j = i
    · subst e; exact g
    · exact hn j (by omega)
  replace hno := hno i hi
  have hr : rgt u i = (emp u.pl.l[i]! || (decide (rgh u u.pl.l[i]!) && !twn u i)) := rfl
  clear hn hok k0 k1 k2 km fa
  by_cases he : emp u.pl.l[i]! = true
  · rw [he] at ke
    rw [he, Bool.true_or] at hr
    have hst := hst hr
    clear hno hr kc he
    (repeat' (first | refine zss ?_ | refine zsM ?_ | ((with_reducible first | apply AtM1.cr | apply AtQ.cr | apply At.cr); exact rfl; exact rfl; exact fun _ hmm => ke _ hmm; exact ztk; kernel_rfl) | ((with_reducible apply At.box (d := 1)); exact rfl; exact rfl; exact rfl; intro b1) | ((with_reducible apply At.alloc (d := 5)); exact rfl; exact rfl; intro b5) | (refine zsp ?_ ?_ <;> (intro hc; (try simp only [zhcs, reduceCtorEq] at hc); (try (exfalso; first | (first | omega | exact absurd rfl hc) | contradiction | omega | exact absurd rfl hc | exact absurd (by decide) hc))))))
    all_goals ((with_reducible refine At.reachk ((i + 1)) ?_ ?_ ?_ ?_); exact zsubs; exact zml; exact zente; exact ⟨⟨hi, hst⟩, by omega⟩)
  replace he : emp u.pl.l[i]! = false := by simpa using he
  rw [he] at ke
  rw [he, Bool.false_or] at hr
  by_cases g1 : sok u.k u.pl.l[i]!
  rotate_left
  · rw [hno (by rw [hr, decide_eq_false (fun h => g1 h.1)]; rfl)]
    rw [if_neg g1] at kc
    clear hr hst hno g1
    (repeat' (first | refine zss ?_ | refine zsM ?_ | ((with_reducible first | apply AtM1.cr | apply AtQ.cr | apply At.cr); exact rfl; exact rfl; exact fun _ hmm => ke _ hmm; exact ztk; kernel_rfl) | ((with_reducible first | apply AtM1.cr | apply AtQ.cr | apply At.cr); exact rfl; exact rfl; exact fun _ hmm => kc _ hmm; exact ztk; kernel_rfl) | ((with_reducible apply At.box (d := 1)); exact rfl; exact rfl; exact rfl; intro b1) | ((with_reducible apply At.alloc (d := 5)); exact rfl; exact rfl; intro b5) | (refine zsp ?_ ?_ <;> (intro hc; (try simp only [zhcs, reduceCtorEq] at hc); (try (exfalso; first | (first | omega | exact absurd rfl hc) | contradiction | omega | exact absurd rfl hc | exact absurd (by decide) hc))))))
    all_goals ((with_reducible apply At.retB1 (B := [])); exact rfl; exact rfl; exact zml; exact zkp; exact ⟨rfl, rfl, rfl⟩)
  rw [if_pos g1] at kc
  by_cases g2 : 0 ≤ u.pl.l[i]!.last
  rotate_left
  · rw [hno (by rw [hr, decide_eq_false (fun h => g2 h.2.1)]; rfl)]
    clear hr hst hno g1
    (repeat' (first | refine zss ?_ | refine zsM ?_ | ((with_reducible first | apply AtM1.cr | apply AtQ.cr | apply At.cr); exact rfl; exact rfl; exact fun _ hmm => ke _ hmm; exact ztk; kernel_rfl) | ((with_reducible first | apply AtM1.cr | apply AtQ.cr | apply At.cr); exact rfl; exact rfl; exact fun _ hmm => kc _ hmm; exact ztk; kernel_rfl) | ((with_reducible apply At.box (d := 1)); exact rfl; exact rfl; exact rfl; intro b1) | ((with_reducible apply At.alloc (d := 5)); exact rfl; exact rfl; intro b5) | (refine zsp ?_ ?_ <;> (intro hc; (try simp only [zhcs, reduceCtorEq] at hc); (try (exfalso; first | (first | omega | exact absurd rfl hc) | contradiction | omega | exact absurd rfl hc | exact absurd (by decide) hc))))))
    all_goals ((with_reducible apply At.retB1 (B := [])); exact rfl; exact rfl; exact zml; exact zkp; exact ⟨rfl, rfl, rfl⟩)
  by_cases g3 : u.pl.l[i]!.last < mk u + u.k.a
  rotate_left
  · rw [hno (by rw [hr, decide_eq_false (fun h => g3 h.2.2)]; rfl)]
    clear hr hst hno g1
    (repeat' (first | refine zss ?_ | refine zsM ?_ | ((with_reducible first | apply AtM1.cr | apply AtQ.cr | apply At.cr); exact rfl; exact rfl; exact fun _ hmm => ke _ hmm; exact ztk; kernel_rfl) | ((with_reducible first | apply AtM1.cr | apply AtQ.cr | apply At.cr); exact rfl; exact rfl; exact fun _ hmm => kc _ hmm; exact ztk; kernel_rfl) | ((with_reducible apply At.box (d := 1)); exact rfl; exact rfl; exact rfl; intro b1) | ((with_reducible apply At.alloc (d := 5)); exact rfl; exact rfl; intro b5) | (refine zsp ?_ ?_ <;> (intro hc; (try simp only [zhcs, reduceCtorEq] at hc); (try (exfalso; first | (first | omega | exact absurd rfl hc) | contradiction | omega | exact absurd rfl hc | exact absurd (by decide) hc))))))
    all_goals ((with_reducible apply At.retB1 (B := [])); exact rfl; exact rfl; exact zml; exact zkp; exact ⟨rfl, rfl, rfl⟩)
  rw [decide_eq_true (show rgh u u.pl.l[i]! from ⟨g1, g2, g3⟩), Bool.true_and] at hr
  clear g1
  (repeat' (first | refine zss ?_ | refine zsM ?_ | ((with_reducible first | apply AtM1.cr | apply AtQ.cr | apply At.cr); exact rfl; exact rfl; exact fun _ hmm => ke _ hmm; exact ztk; kernel_rfl) | ((with_reducible first | apply AtM1.cr | apply AtQ.cr | apply At.cr); exact rfl; exact rfl; exact fun _ hmm => kc _ hmm; exact ztk; kernel_rfl) | ((with_reducible apply At.box (d := 1)); exact rfl; exact rfl; exact rfl; intro b1) | ((with_reducible apply At.alloc (d := 5)); exact rfl; exact rfl; intro b5) | (refine zsp ?_ ?_ <;> (intro hc; (try simp only [zhcs, reduceCtorEq] at hc); (try (exfalso; first | (first | omega | exact absurd rfl hc) | contradiction | omega | exact absurd rfl hc | exact absurd (by decide) hc))))))
  (refine At.loopk (σ := Nat) [1, 3, 4, 5, 42, 43, 44, 71] (fun s F0 => (72, .int .i64 (s : Int)) :: F0) (fun s => m) (fun s => .blk b5 53 (Ser.cells u.pl.l[i]!) :: .blk b1 28 u.cells :: Rest) (fun s => s ≤ i ∧ ∀ k, k < s → tw2 u i k = false) (fun s => i - s) 0 (by rfl) ?_ zsubs zml zente ?_)
  · exact ⟨Nat.zero_le _, fun k hk => absurd hk (Nat.not_lt_zero k)⟩
  rintro k ⟨hk0, hn⟩
  by_cases hk : k < i
  rotate_left
  · have hst := hst (by rw [hr, twn_no (fun j hj => hn j (by omega))]; rfl)
    clear hno hr hn ke kc
    (repeat' (first | refine zss ?_ | refine zsM ?_ | ((with_reducible apply At.box (d := 1)); exact rfl; exact rfl; exact rfl; intro b1) | ((with_reducible apply At.alloc (d := 5)); exact rfl; exact rfl; intro b5) | (refine zsp ?_ ?_ <;> (intro hc; (try simp only [zhcs, reduceCtorEq] at hc); (try (exfalso; first | (first | omega | exact absurd rfl hc) | contradiction | omega | exact absurd rfl hc | exact absurd (by decide) hc))))))
    all_goals ((with_reducible refine At.reachk ((i + 1)) ?_ ?_ ?_ ?_); exact zsubs; exact zml; exact zente; exact ⟨⟨hi, hst⟩, by omega⟩)
  have hy := hs.at (show k < u.pl.l.length by omega)
  have q1 := fun (m' : Mem) (h : m.le m') => lives u i (hs.mono h) hi
  have q2 := fun (m' : Mem) (h : m.le m') => lives u k (hs.mono h) (show k < u.pl.l.length by omega)
  have q3 := fun (m' : Mem) (h : m.le m') => Lb.rsame u.pl.l[k]!.lab.p u.pl.l[k]!.lab.c u.pl.l[k]!.lab.l u.pl.l[i]!.lab.p u.pl.l[i]!.lab.c u.pl.l[i]!.lab.l (Nat.le_trans hy.nl (by decide)) (Nat.le_trans hx.nl (by decide)) (hy.sl.mono h) (hx.sl.mono h)
  have hnn : tw2 u i k = false → ∀ j, j < k + 1 → tw2 u i j = false := fun g j hj => by
    by_cases e : j = k
    · subst e; exact g
    · exact hn j (by omega)
  have hyes : tw2 u i k = true → chk u = 2 := fun g => hno (by rw [hr, twn_yes hk g]; rfl)
  have ht2 : tw2 u i k = (liv u u.pl.l[i]! && liv u u.pl.l[k]! && decide (u.pl.l[k]!.lab.l = u.pl.l[i]!.lab.l)) := rfl
  clear hn hno hr hst ke kc hx hy
  generalize liv u u.pl.l[i]! = c1 at q1 ht2
  generalize liv u u.pl.l[k]! = c2 at q2 ht2
  generalize decide (u.pl.l[k]!.lab.l = u.pl.l[i]!.lab.l) = c3 at q3 ht2
  cases c1
  · have hnn := hnn ht2
    clear hyes ht2 hs
    (repeat' (first | refine zss ?_ | refine zsM ?_ | ((with_reducible first | apply AtM1.cr | apply AtQ.cr | apply At.cr); exact rfl; exact rfl; exact fun _ hmm => q1 _ hmm; exact ztk; kernel_rfl) | ((with_reducible apply At.box (d := 1)); exact rfl; exact rfl; exact rfl; intro b1) | ((with_reducible apply At.alloc (d := 5)); exact rfl; exact rfl; intro b5) | (refine zsp ?_ ?_ <;> (intro hc; (try simp only [zhcs, reduceCtorEq] at hc); (try (exfalso; first | (first | omega | exact absurd rfl hc) | contradiction | omega | exact absurd rfl hc | exact absurd (by decide) hc))))))
    all_goals ((with_reducible refine At.reachk ((k + 1)) ?_ ?_ ?_ ?_); exact zsubs; exact zml; exact zente; exact ⟨⟨hk, hnn⟩, by omega⟩)
  cases c2
  · have hnn := hnn ht2
    clear hyes ht2 hs
    (repeat' (first | refine zss ?_ | refine zsM ?_ | ((with_reducible first | apply AtM1.cr | apply AtQ.cr | apply At.cr); exact rfl; exact rfl; exact fun _ hmm => q1 _ hmm; exact ztk; kernel_rfl) | ((with_reducible first | apply AtM1.cr | apply AtQ.cr | apply At.cr); exact rfl; exact rfl; exact fun _ hmm => q2 _ hmm; exact ztk; kernel_rfl) | ((with_reducible apply At.box (d := 1)); exact rfl; exact rfl; exact rfl; intro b1) | ((with_reducible apply At.alloc (d := 5)); exact rfl; exact rfl; intro b5) | (refine zsp ?_ ?_ <;> (intro hc; (try simp only [zhcs, reduceCtorEq] at hc); (try (exfalso; first | (first | omega | exact absurd rfl hc) | contradiction | omega | exact absurd rfl hc | exact absurd (by decide) hc))))))
    all_goals ((with_reducible refine At.reachk ((k + 1)) ?_ ?_ ?_ ?_); exact zsubs; exact zml; exact zente; exact ⟨⟨hk, hnn⟩, by omega⟩)
  cases c3
  · have hnn := hnn ht2
    clear hyes ht2 hs
    (repeat' (first | refine zss ?_ | refine zsM ?_ | ((with_reducible first | apply AtM1.cr | apply AtQ.cr | apply At.cr); exact rfl; exact rfl; exact fun _ hmm => q1 _ hmm; exact ztk; kernel_rfl) | ((with_reducible first | apply AtM1.cr | apply AtQ.cr | apply At.cr); exact rfl; exact rfl; exact fun _ hmm => q2 _ hmm; exact ztk; kernel_rfl) | ((with_reducible first | apply AtM1.cr | apply AtQ.cr | apply At.cr); exact rfl; exact rfl; exact fun _ hmm => q3 _ hmm; exact ztk; kernel_rfl) | ((with_reducible apply At.box (d := 1)); exact rfl; exact rfl; exact rfl; intro b1) | ((with_reducible apply At.alloc (d := 5)); exact rfl; exact rfl; intro b5) | (refine zsp ?_ ?_ <;> (intro hc; (try simp only [zhcs, reduceCtorEq] at hc); (try (exfalso; first | (first | omega | exact absurd rfl hc) | contradiction | omega | exact absurd rfl hc | exact absurd (by decide) hc))))))
    all_goals ((with_reducible refine At.reachk ((k + 1)) ?_ ?_ ?_ ?_); exact zsubs; exact zml; exact zente; exact ⟨⟨hk, hnn⟩, by omega⟩)
  · rw [hyes ht2]
    clear hnn ht2 hs
    (repeat' (first | refine zss ?_ | refine zsM ?_ | ((with_reducible first | apply AtM1.cr | apply AtQ.cr | apply At.cr); exact rfl; exact rfl; exact fun _ hmm => q1 _ hmm; exact ztk; kernel_rfl) | ((with_reducible first | apply AtM1.cr | apply AtQ.cr | apply At.cr); exact rfl; exact rfl; exact fun _ hmm => q2 _ hmm; exact ztk; kernel_rfl) | ((with_reducible first | apply AtM1.cr | apply AtQ.cr | apply At.cr); exact rfl; exact rfl; exact fun _ hmm => q3 _ hmm; exact ztk; kernel_rfl) | ((with_reducible apply At.box (d := 1)); exact rfl; exact rfl; exact rfl; intro b1) | ((with_reducible apply At.alloc (d := 5)); exact rfl; exact rfl; intro b5) | (refine zsp ?_ ?_ <;> (intro hc; (try simp only [zhcs, reduceCtorEq] at hc); (try (exfalso; first | (first | omega | exact absurd rfl hc) | contradiction | omega | exact absurd rfl hc | exact absurd (by decide) hc))))))
    all_goals ((with_reducible apply At.retB1 (B := [])); exact rfl; exact rfl; exact zml; exact zkp; exact ⟨rfl, rfl, rfl⟩)
end Dd
end Go.Proofs.YtecifniognbomaaGreat
/- Ranges that are cut to a tier's windows, the document's. -/
set_option linter.unusedSimpArgs false
set_option linter.unusedVariables false
set_option linter.unusedSectionVars false
set_option maxRecDepth 20000
set_option maxHeartbeats 4000000
namespace Go.Proofs.YtecifniognbomaaGreat
open Go Go.J
attribute [local irreducible] At AtQ AtM AtM1 PR Ct Pu Rd Res.blk Res.own Res.ex RVs RV
namespace Au
open Se Win St
theorem rkept {m : Mem} (u : Sta) (t w n : Int) (hs : u.Ok m) (hok : okU u) (h : T3 u.k t w n) :
    Rd Tryz.prog 19 #[u.v, .int .i64 (t - 1)] m [] (vk (oldV u.now w n) (u.now / w)) := by
  unfold Rd
  have ht := hok.2.1.1
  obtain ⟨hw, hn⟩ := h.bd hok.1.1
  have k1 := rwin_oldest u.now w n
  have k2 := rwin_of u.now w
  rw [(old0 ht hw hn).2] at k2
  have k0 := fun (m' : Mem) (h : m.le m') => Dd.check u (hs.mono h)
  rw [show chk u = 0 from if_pos hok] at k0
  generalize oldV u.now w n = o at k1 ⊢
  generalize oldE u.now w n = oe at k1
  generalize u.now / w = q at k2 ⊢
  generalize ofE u.now w = qe at k2
  clear hs hok
  rcases h with ⟨rfl, rfl, rfl⟩ | ⟨rfl, rfl, rfl⟩ | ⟨rfl, rfl, rfl⟩
  all_goals
    refine Ct.enterV (by rfl) Tryz.func19 rfl Tryz.ntmps19 rfl (fun w0 Rest => ?_)
    (repeat' (first | refine zss ?_ | ((first | (with_reducible first | apply At.val | apply AtQ.val)); (first | exact pr_indexArr (k := 0) (by rfl) (by rfl) (by rfl) (by rfl) (by decide) | exact pr_indexArr (k := 1) (by rfl) (by rfl) (by rfl) (by rfl) (by decide) | exact pr_indexArr (k := 2) (by rfl) (by rfl) (by rfl) (by rfl) (by decide)); exact rfl) | refine zs0 ?_ | ((with_reducible first | apply AtM1.cr | apply AtQ.cr | apply At.cr); exact rfl; exact rfl; exact fun _ hmm => k0 _ hmm; exact ztk; kernel_rfl) | ((with_reducible first | apply AtM1.callp | apply AtQ.callp | apply At.callp); kernel_rfl; exact rfl; exact rfl; exact k1) | ((with_reducible first | apply AtM1.callp | apply AtQ.callp | apply At.callp); kernel_rfl; exact rfl; exact rfl; exact k2) | ((with_reducible apply At.box (d := 2)); exact rfl; exact rfl; exact rfl; intro b2) | (refine zsp ?_ ?_ <;> (intro hc; (try simp only [zhcs, reduceCtorEq] at hc); (try (exfalso; first | (first | omega | exact absurd rfl hc) | contradiction | omega | exact absurd rfl hc | exact absurd (by decide) hc))))))
    all_goals ((with_reducible apply At.retV (B := [])); exact rfl; (repeat' (first | exact RVs.nil | (with_reducible apply RVs.cons) | exact rv_tmp (by rfl) | exact rv_cellN (by rfl) (by repeat constructor) (by rfl) (by rfl) (by rfl) | exact rv_cell1 (by rfl) (by repeat constructor) (by rfl) (by rfl))); exact zml; exact zkp; exact ⟨rfl, rfl, rfl⟩)
theorem rmay {m : Mem} (u : Sta) (t f g : Int) (hs : u.Ok m) : Rd Tryz.prog 18 #[u.v, .int .i64 t, .int .i64 f, .int .i64 g] m [] (.int .i64 (mayE u t f g)) := by
  unfold Rd
  have k0 := fun (m' : Mem) (h : m.le m') => Dd.check u (hs.mono h)
  unfold chk at k0
  unfold mayE
  by_cases h0 : okU u
  rotate_left
  · rw [if_neg h0] at k0
    rw [if_pos h0]
    refine Ct.enterV (by rfl) Tryz.func18 rfl Tryz.ntmps18 rfl (fun w0 Rest => ?_)
    (repeat' (first | refine zss ?_ | refine zs0 ?_ | ((with_reducible first | apply AtM1.cr | apply AtQ.cr | apply At.cr); exact rfl; exact rfl; exact fun _ hmm => k0 _ hmm; exact ztk; kernel_rfl) | ((with_reducible apply At.box (d := 4)); exact rfl; exact rfl; exact rfl; intro b4) | (refine zsp ?_ ?_ <;> (intro hc; (try simp only [zhcs, reduceCtorEq] at hc); (try (exfalso; first | (first | omega | exact absurd rfl hc) | contradiction | omega | exact absurd rfl hc | exact absurd (by decide) hc))))))
    all_goals ((with_reducible apply At.retB1 (B := [])); exact rfl; exact rfl; exact zml; exact zkp; exact ⟨rfl, rfl, rfl⟩)
  rw [if_pos h0] at k0
  rw [if_neg (not_not_intro h0)]
  clear h0
  by_cases h1 : t < 1 ∨ 3 < t ∨ f < 0 ∨ 35184372088832 < g ∨ g ≤ f
  · rw [if_pos h1]
    refine Ct.enterV (by rfl) Tryz.func18 rfl Tryz.ntmps18 rfl (fun w0 Rest => ?_)
    (repeat' (first | refine zss ?_ | refine zs0 ?_ | ((with_reducible first | apply AtM1.cr | apply AtQ.cr | apply At.cr); exact rfl; exact rfl; exact fun _ hmm => k0 _ hmm; exact ztk; kernel_rfl) | ((with_reducible apply At.box (d := 4)); exact rfl; exact rfl; exact rfl; intro b4) | (refine zsp ?_ ?_ <;> (intro hc; (try simp only [zhcs, reduceCtorEq] at hc); (try (exfalso; first | (first | omega | exact absurd rfl hc) | contradiction | omega | exact absurd rfl hc | exact absurd (by decide) hc))))))
    all_goals ((with_reducible apply At.retB1 (B := [])); exact rfl; exact rfl; exact zml; exact zkp; exact ⟨rfl, rfl, rfl⟩)
  · rw [if_neg h1]
    refine Ct.enterV (by rfl) Tryz.func18 rfl Tryz.ntmps18 rfl (fun w0 Rest => ?_)
    (repeat' (first | refine zss ?_ | refine zs0 ?_ | ((with_reducible first | apply AtM1.cr | apply AtQ.cr | apply At.cr); exact rfl; exact rfl; exact fun _ hmm => k0 _ hmm; exact ztk; kernel_rfl) | ((with_reducible apply At.box (d := 4)); exact rfl; exact rfl; exact rfl; intro b4) | (refine zsp ?_ ?_ <;> (intro hc; (try simp only [zhcs, reduceCtorEq] at hc); (try (exfalso; first | (first | omega | exact absurd rfl hc) | contradiction | omega | exact absurd rfl hc | exact absurd (by decide) hc))))))
    all_goals ((with_reducible apply At.retB1 (B := [])); exact rfl; exact rfl; exact zml; exact zkp; exact ⟨rfl, rfl, rfl⟩)
theorem rinner {m : Mem} (u : Sta) (t f g : Int) (hs : u.Ok m) : Rd Tryz.prog 7 #[u.v, .int .i64 t, .int .i64 f, .int .i64 g] m [] (v3 (inn u t f g)) := by
  unfold Rd inn
  have k0 := fun (m' : Mem) (hm : m.le m') => rmay u t f g (hs.mono hm)
  by_cases h : mayE u t f g = 0
  rotate_left
  · rw [if_neg h]
    generalize mayE u t f g = e at h k0 ⊢
    clear hs
    refine Ct.enterV (by rfl) Tryz.func7 rfl Tryz.ntmps7 rfl (fun w0 Rest => ?_)
    (repeat' (first | refine zss ?_ | refine zs0 ?_ | ((with_reducible first | apply AtM1.cr | apply AtQ.cr | apply At.cr); exact rfl; exact rfl; exact fun _ hmm => k0 _ hmm; exact ztk; kernel_rfl) | ((with_reducible apply At.box (d := 4)); exact rfl; exact rfl; exact rfl; intro b4) | (refine zsp ?_ ?_ <;> (intro hc; (try simp only [zhcs, reduceCtorEq] at hc); (try (exfalso; first | (first | omega | exact absurd rfl hc | exact absurd hc h) | contradiction | omega | exact absurd rfl hc | exact absurd (by decide) hc))))))
    all_goals ((with_reducible apply At.retV (B := [])); exact rfl; (repeat' (first | exact RVs.nil | (with_reducible apply RVs.cons) | exact rv_tmp (by rfl) | exact rv_cellN (by rfl) (by repeat constructor) (by rfl) (by rfl) (by rfl) | exact rv_cell1 (by rfl) (by repeat constructor) (by rfl) (by rfl))); exact zml; exact zkp; exact ⟨rfl, rfl, rfl⟩)
  obtain ⟨hok, ht, hf⟩ := may0 h
  rw [if_pos h]
  rw [h] at k0
  have h3 := t3 (c := u.k) ht.1 ht.2
  have kk := fun (m' : Mem) (hm : m.le m') => rkept u t _ _ (hs.mono hm) hok h3
  obtain ⟨hw, hn⟩ := h3.bd hok.1.1
  have ho := old_bd (w := wT u.k t) (n := nT u.k t) hok.2.1.1 hw hn
  generalize oldV u.now (wT u.k t) (nT u.k t) = o at kk ho ⊢
  generalize u.now / wT u.k t = nw at kk ho
  generalize nT u.k t = n at h3 hn
  generalize wT u.k t = w at kk hw h3 hn ⊢
  have hu := upI_bd (x := f) hf.1 hw.1
  have hd := mul_div (x := g) (by omega) hw.1
  have hdf := div_bd (t := f) hf.1 hw.1
  have fq : IntKind.wrap .i64 (g.tdiv w) = g / w := IntWalk.i64_quo _ _ (by omega)
  have ff : IntKind.wrap .i64 (f.tdiv w) = f / w := IntWalk.i64_quo _ _ (by omega)
  have hmb := mod_bd (t := f) hw.1
  have fr : f.tmod w = f % w := Int.tmod_eq_emod_of_nonneg hf.1
  have hue := upI_eq (x := f) hw.1
  have e0 : 0 ≤ max (upI f w) o * w := Int.mul_nonneg (by omega) (by omega)
  have e1 : g / w ≤ max (upI f w) o ∨ max (upI f w) o * w ≤ g / w * w := by
    by_cases h1 : g / w ≤ max (upI f w) o
    · exact .inl h1
    · exact .inr (Int.mul_le_mul_of_nonneg_right (by omega) (by omega))
  have fb : IntKind.wrap .i64 (g / w * w) = g / w * w := IntWalk.i64_in _ (by omega)
  have fa : ¬ g / w ≤ max (upI f w) o → IntKind.wrap .i64 (max (upI f w) o * w) = max (upI f w) o * w := fun h1 => IntWalk.i64_in _ (by omega)
  unfold innW
  have hpp : (0 < f % w ∧ upI f w = f / w + 1) ∨ (¬ 0 < f % w ∧ upI f w = f / w) := by
    by_cases hr : 0 < f % w
    · rw [if_pos hr] at hue; exact .inl ⟨hr, hue⟩
    · rw [if_neg hr] at hue; exact .inr ⟨hr, hue⟩
  clear hue hu e0 e1 hn hs h hok
  generalize g / w = q at fq fb fa hd ⊢
  generalize upI f w = i at fa hpp ⊢
  obtain ⟨p, hp⟩ : ∃ p, f / w = p := ⟨_, rfl⟩
  rw [hp] at ff hpp hdf
  obtain ⟨z, hz⟩ : ∃ z, f % w = z := ⟨_, rfl⟩
  rw [hz] at fr hpp hmb
  clear hp hz hd
  by_cases h1 : q ≤ max i o
  · rw [if_pos h1]
    clear fa
    rcases hpp with ⟨hr, rfl⟩ | ⟨hr, rfl⟩
    all_goals
      rcases h3 with ⟨rfl, rfl, -⟩ | ⟨rfl, rfl, -⟩ | ⟨rfl, rfl, -⟩
      all_goals
        refine Ct.enterV (by rfl) Tryz.func7 rfl Tryz.ntmps7 rfl (fun w0 Rest => ?_)
        (repeat' (first | refine zss ?_ | ((first | (with_reducible first | apply At.val | apply AtQ.val)); (first | exact pr_indexArr (k := 0) (by rfl) (by rfl) (by rfl) (by rfl) (by decide) | exact pr_indexArr (k := 1) (by rfl) (by rfl) (by rfl) (by rfl) (by decide) | exact pr_indexArr (k := 2) (by rfl) (by rfl) (by rfl) (by rfl) (by decide) | exact pr_maxI (by rfl) (by rfl) | exact pr_quo (by rfl) (by rfl) (by omega) fq | exact pr_quo (by rfl) (by rfl) (by omega) ff | exact pr_rem (by rfl) (by rfl) (by omega) fr); exact rfl) | refine zs0 ?_ | ((with_reducible first | apply AtM1.cr | apply AtQ.cr | apply At.cr); exact rfl; exact rfl; exact fun _ hmm => k0 _ hmm; exact ztk; kernel_rfl) | ((with_reducible first | apply AtM1.cr | apply AtQ.cr | apply At.cr); exact rfl; exact rfl; exact fun _ hmm => kk _ hmm; exact ztk; kernel_rfl) | ((with_reducible apply At.box (d := 4)); exact rfl; exact rfl; exact rfl; intro b4) | (refine zsp ?_ ?_ <;> (intro hc; (try simp only [zhcs, reduceCtorEq] at hc); (try (exfalso; first | (first | omega | exact absurd rfl hc) | contradiction | omega | exact absurd rfl hc | exact absurd (by decide) hc))))))
        all_goals ((with_reducible apply At.retV (B := [])); exact rfl; (repeat' (first | exact RVs.nil | (with_reducible apply RVs.cons) | exact rv_tmp (by rfl) | exact rv_cellN (by rfl) (by repeat constructor) (by rfl) (by rfl) (by rfl) | exact rv_cell1 (by rfl) (by repeat constructor) (by rfl) (by rfl))); exact zml; exact zkp; exact ⟨rfl, rfl, rfl⟩)
  · rw [if_neg h1]
    replace fa := fa h1
    rcases hpp with ⟨hr, rfl⟩ | ⟨hr, rfl⟩
    all_goals
      rcases h3 with ⟨rfl, rfl, -⟩ | ⟨rfl, rfl, -⟩ | ⟨rfl, rfl, -⟩
      all_goals
        refine Ct.enterV (by rfl) Tryz.func7 rfl Tryz.ntmps7 rfl (fun w0 Rest => ?_)
        (repeat' (first | refine zss ?_ | ((first | (with_reducible first | apply At.val | apply AtQ.val)); (first | exact pr_indexArr (k := 0) (by rfl) (by rfl) (by rfl) (by rfl) (by decide) | exact pr_indexArr (k := 1) (by rfl) (by rfl) (by rfl) (by rfl) (by decide) | exact pr_indexArr (k := 2) (by rfl) (by rfl) (by rfl) (by rfl) (by decide) | exact pr_maxI (by rfl) (by rfl) | exact pr_quo (by rfl) (by rfl) (by omega) fq | exact pr_quo (by rfl) (by rfl) (by omega) ff | exact pr_rem (by rfl) (by rfl) (by omega) fr | exact pr_mul (by rfl) (by rfl) fa | exact pr_mul (by rfl) (by rfl) fb); exact rfl) | refine zs0 ?_ | ((with_reducible first | apply AtM1.cr | apply AtQ.cr | apply At.cr); exact rfl; exact rfl; exact fun _ hmm => k0 _ hmm; exact ztk; kernel_rfl) | ((with_reducible first | apply AtM1.cr | apply AtQ.cr | apply At.cr); exact rfl; exact rfl; exact fun _ hmm => kk _ hmm; exact ztk; kernel_rfl) | ((with_reducible apply At.box (d := 4)); exact rfl; exact rfl; exact rfl; intro b4) | (refine zsp ?_ ?_ <;> (intro hc; (try simp only [zhcs, reduceCtorEq] at hc); (try (exfalso; first | (first | omega | exact absurd rfl hc) | contradiction | omega | exact absurd rfl hc | exact absurd (by decide) hc))))))
        all_goals ((with_reducible apply At.retV (B := [])); exact rfl; (repeat' (first | exact RVs.nil | (with_reducible apply RVs.cons) | exact rv_tmp (by rfl) | exact rv_cellN (by rfl) (by repeat constructor) (by rfl) (by rfl) (by rfl) | exact rv_cell1 (by rfl) (by repeat constructor) (by rfl) (by rfl))); exact zml; exact zkp; exact ⟨rfl, rfl, rfl⟩)
theorem router {m : Mem} (u : Sta) (t f g : Int) (hs : u.Ok m) : Rd Tryz.prog 9 #[u.v, .int .i64 t, .int .i64 f, .int .i64 g] m [] (v3 (out u t f g)) := by
  unfold Rd out
  have k0 := fun (m' : Mem) (hm : m.le m') => rmay u t f g (hs.mono hm)
  by_cases h : mayE u t f g = 0
  rotate_left
  · rw [if_neg h]
    generalize mayE u t f g = e at h k0 ⊢
    clear hs
    refine Ct.enterV (by rfl) Tryz.func9 rfl Tryz.ntmps9 rfl (fun w0 Rest => ?_)
    (repeat' (first | refine zss ?_ | refine zs0 ?_ | ((with_reducible first | apply AtM1.cr | apply AtQ.cr | apply At.cr); exact rfl; exact rfl; exact fun _ hmm => k0 _ hmm; exact ztk; kernel_rfl) | ((with_reducible apply At.box (d := 4)); exact rfl; exact rfl; exact rfl; intro b4) | (refine zsp ?_ ?_ <;> (intro hc; (try simp only [zhcs, reduceCtorEq] at hc); (try (exfalso; first | (first | omega | exact absurd rfl hc | exact absurd hc h) | contradiction | omega | exact absurd rfl hc | exact absurd (by decide) hc))))))
    all_goals ((with_reducible apply At.retV (B := [])); exact rfl; (repeat' (first | exact RVs.nil | (with_reducible apply RVs.cons) | exact rv_tmp (by rfl) | exact rv_cellN (by rfl) (by repeat constructor) (by rfl) (by rfl) (by rfl) | exact rv_cell1 (by rfl) (by repeat constructor) (by rfl) (by rfl))); exact zml; exact zkp; exact ⟨rfl, rfl, rfl⟩)
  obtain ⟨hok, ht, hf⟩ := may0 h
  rw [if_pos h]
  rw [h] at k0
  have h3 := t3 (c := u.k) ht.1 ht.2
  have kk := fun (m' : Mem) (hm : m.le m') => rkept u t _ _ (hs.mono hm) hok h3
  obtain ⟨hw, hn⟩ := h3.bd hok.1.1
  generalize oldV u.now (wT u.k t) (nT u.k t) = o at kk ⊢
  generalize u.now / wT u.k t = nw at kk
  generalize nT u.k t = n at h3 hn
  generalize wT u.k t = w at kk hw h3 hn ⊢
  have hu := upI_bd (x := g) (by omega) hw.1
  have hd := mul_div (x := f) hf.1 hw.1
  have hdg := div_bd (t := g) (by omega) hw.1
  have fq : IntKind.wrap .i64 (g.tdiv w) = g / w := IntWalk.i64_quo _ _ (by omega)
  have ff : IntKind.wrap .i64 (f.tdiv w) = f / w := IntWalk.i64_quo _ _ (by omega)
  have hmb := mod_bd (t := g) hw.1
  have fr : g.tmod w = g % w := Int.tmod_eq_emod_of_nonneg (by omega)
  have hue := upI_eq (x := g) hw.1
  have fb : IntKind.wrap .i64 (f / w * w) = f / w * w := IntWalk.i64_in _ (by omega)
  have fa : IntKind.wrap .i64 (upI g w * w) = upI g w * w := IntWalk.i64_in _ (by omega)
  unfold outW
  have hpp : (0 < g % w ∧ upI g w = g / w + 1) ∨ (¬ 0 < g % w ∧ upI g w = g / w) := by
    by_cases hr : 0 < g % w
    · rw [if_pos hr] at hue; exact .inl ⟨hr, hue⟩
    · rw [if_neg hr] at hue; exact .inr ⟨hr, hue⟩
  clear hue hn hs h hok
  generalize f / w = q at ff fb hd ⊢
  generalize upI g w = i at fa hpp hu ⊢
  obtain ⟨p, hp⟩ : ∃ p, g / w = p := ⟨_, rfl⟩
  rw [hp] at fq hpp hdg
  obtain ⟨z, hz⟩ : ∃ z, g % w = z := ⟨_, rfl⟩
  rw [hz] at fr hpp hmb
  clear hp hz
  by_cases h1 : q < o
  · rw [if_pos h1]
    clear fa fb hu hd
    rcases hpp with ⟨hr, rfl⟩ | ⟨hr, rfl⟩
    all_goals
      rcases h3 with ⟨rfl, rfl, -⟩ | ⟨rfl, rfl, -⟩ | ⟨rfl, rfl, -⟩
      all_goals
        refine Ct.enterV (by rfl) Tryz.func9 rfl Tryz.ntmps9 rfl (fun w0 Rest => ?_)
        (repeat' (first | refine zss ?_ | ((first | (with_reducible first | apply At.val | apply AtQ.val)); (first | exact pr_indexArr (k := 0) (by rfl) (by rfl) (by rfl) (by rfl) (by decide) | exact pr_indexArr (k := 1) (by rfl) (by rfl) (by rfl) (by rfl) (by decide) | exact pr_indexArr (k := 2) (by rfl) (by rfl) (by rfl) (by rfl) (by decide) | exact pr_quo (by rfl) (by rfl) (by omega) fq | exact pr_quo (by rfl) (by rfl) (by omega) ff | exact pr_rem (by rfl) (by rfl) (by omega) fr); exact rfl) | refine zs0 ?_ | ((with_reducible first | apply AtM1.cr | apply AtQ.cr | apply At.cr); exact rfl; exact rfl; exact fun _ hmm => k0 _ hmm; exact ztk; kernel_rfl) | ((with_reducible first | apply AtM1.cr | apply AtQ.cr | apply At.cr); exact rfl; exact rfl; exact fun _ hmm => kk _ hmm; exact ztk; kernel_rfl) | ((with_reducible apply At.box (d := 4)); exact rfl; exact rfl; exact rfl; intro b4) | (refine zsp ?_ ?_ <;> (intro hc; (try simp only [zhcs, reduceCtorEq] at hc); (try (exfalso; first | (first | omega | exact absurd rfl hc) | contradiction | omega | exact absurd rfl hc | exact absurd (by decide) hc))))))
        all_goals ((with_reducible apply At.retV (B := [])); exact rfl; (repeat' (first | exact RVs.nil | (with_reducible apply RVs.cons) | exact rv_tmp (by rfl) | exact rv_cellN (by rfl) (by repeat constructor) (by rfl) (by rfl) (by rfl) | exact rv_cell1 (by rfl) (by repeat constructor) (by rfl) (by rfl))); exact zml; exact zkp; exact ⟨rfl, rfl, rfl⟩)
  rw [if_neg h1]
  by_cases h2 : 35184372088832 < i * w
  · rw [if_pos h2]
    clear fb hd
    rcases hpp with ⟨hr, rfl⟩ | ⟨hr, rfl⟩
    all_goals
      rcases h3 with ⟨rfl, rfl, -⟩ | ⟨rfl, rfl, -⟩ | ⟨rfl, rfl, -⟩
      all_goals
        refine Ct.enterV (by rfl) Tryz.func9 rfl Tryz.ntmps9 rfl (fun w0 Rest => ?_)
        (repeat' (first | refine zss ?_ | ((first | (with_reducible first | apply At.val | apply AtQ.val)); (first | exact pr_indexArr (k := 0) (by rfl) (by rfl) (by rfl) (by rfl) (by decide) | exact pr_indexArr (k := 1) (by rfl) (by rfl) (by rfl) (by rfl) (by decide) | exact pr_indexArr (k := 2) (by rfl) (by rfl) (by rfl) (by rfl) (by decide) | exact pr_quo (by rfl) (by rfl) (by omega) fq | exact pr_quo (by rfl) (by rfl) (by omega) ff | exact pr_rem (by rfl) (by rfl) (by omega) fr | exact pr_mul (by rfl) (by rfl) fa); exact rfl) | refine zs0 ?_ | ((with_reducible first | apply AtM1.cr | apply AtQ.cr | apply At.cr); exact rfl; exact rfl; exact fun _ hmm => k0 _ hmm; exact ztk; kernel_rfl) | ((with_reducible first | apply AtM1.cr | apply AtQ.cr | apply At.cr); exact rfl; exact rfl; exact fun _ hmm => kk _ hmm; exact ztk; kernel_rfl) | ((with_reducible apply At.box (d := 4)); exact rfl; exact rfl; exact rfl; intro b4) | (refine zsp ?_ ?_ <;> (intro hc; (try simp only [zhcs, reduceCtorEq] at hc); (try (exfalso; first | (first | omega | exact absurd rfl hc) | contradiction | omega | exact absurd rfl hc | exact absurd (by decide) hc))))))
        all_goals ((with_reducible apply At.retV (B := [])); exact rfl; (repeat' (first | exact RVs.nil | (with_reducible apply RVs.cons) | exact rv_tmp (by rfl) | exact rv_cellN (by rfl) (by repeat constructor) (by rfl) (by rfl) (by rfl) | exact rv_cell1 (by rfl) (by repeat constructor) (by rfl) (by rfl))); exact zml; exact zkp; exact ⟨rfl, rfl, rfl⟩)
  · rw [if_neg h2]
    rcases hpp with ⟨hr, rfl⟩ | ⟨hr, rfl⟩
    all_goals
      rcases h3 with ⟨rfl, rfl, -⟩ | ⟨rfl, rfl, -⟩ | ⟨rfl, rfl, -⟩
      all_goals
        refine Ct.enterV (by rfl) Tryz.func9 rfl Tryz.ntmps9 rfl (fun w0 Rest => ?_)
        (repeat' (first | refine zss ?_ | ((first | (with_reducible first | apply At.val | apply AtQ.val)); (first | exact pr_indexArr (k := 0) (by rfl) (by rfl) (by rfl) (by rfl) (by decide) | exact pr_indexArr (k := 1) (by rfl) (by rfl) (by rfl) (by rfl) (by decide) | exact pr_indexArr (k := 2) (by rfl) (by rfl) (by rfl) (by rfl) (by decide) | exact pr_quo (by rfl) (by rfl) (by omega) fq | exact pr_quo (by rfl) (by rfl) (by omega) ff | exact pr_rem (by rfl) (by rfl) (by omega) fr | exact pr_mul (by rfl) (by rfl) fa | exact pr_mul (by rfl) (by rfl) fb); exact rfl) | refine zs0 ?_ | ((with_reducible first | apply AtM1.cr | apply AtQ.cr | apply At.cr); exact rfl; exact rfl; exact fun _ hmm => k0 _ hmm; exact ztk; kernel_rfl) | ((with_reducible first | apply AtM1.cr | apply AtQ.cr | apply At.cr); exact rfl; exact rfl; exact fun _ hmm => kk _ hmm; exact ztk; kernel_rfl) | ((with_reducible apply At.box (d := 4)); exact rfl; exact rfl; exact rfl; intro b4) | (refine zsp ?_ ?_ <;> (intro hc; (try simp only [zhcs, reduceCtorEq] at hc); (try (exfalso; first | (first | omega | exact absurd rfl hc) | contradiction | omega | exact absurd rfl hc | exact absurd (by decide) hc))))))
        all_goals ((with_reducible apply At.retV (B := [])); exact rfl; (repeat' (first | exact RVs.nil | (with_reducible apply RVs.cons) | exact rv_tmp (by rfl) | exact rv_cellN (by rfl) (by repeat constructor) (by rfl) (by rfl) (by rfl) | exact rv_cell1 (by rfl) (by repeat constructor) (by rfl) (by rfl))); exact zml; exact zkp; exact ⟨rfl, rfl, rfl⟩)
theorem rfinest {m : Mem} (u : Sta) (f g : Int) (hs : u.Ok m) : Rd Tryz.prog 11 #[u.v, .int .i64 f, .int .i64 g] m [] (v4 (fin u f g)) := by
  unfold Rd fin
  have k0 := fun (m' : Mem) (hm : m.le m') => rmay u 1 f g (hs.mono hm)
  by_cases h : mayE u 1 f g = 0
  rotate_left
  · rw [if_pos h]
    generalize mayE u 1 f g = e at h k0 ⊢
    clear hs
    refine Ct.enterV (by rfl) Tryz.func11 rfl Tryz.ntmps11 rfl (fun w0 Rest => ?_)
    (repeat' (first | refine zss ?_ | refine zs0 ?_ | ((with_reducible first | apply AtM1.cr | apply AtQ.cr | apply At.cr); exact rfl; exact rfl; exact fun _ hmm => k0 _ hmm; exact ztk; kernel_rfl) | ((with_reducible apply At.box (d := 3)); exact rfl; exact rfl; exact rfl; intro b3) | (refine zsp ?_ ?_ <;> (intro hc; (try simp only [zhcs, reduceCtorEq] at hc); (try (exfalso; first | (first | omega | exact absurd rfl hc | exact absurd hc h) | contradiction | omega | exact absurd rfl hc | exact absurd (by decide) hc))))))
    all_goals ((with_reducible apply At.retV (B := [])); exact rfl; (repeat' (first | exact RVs.nil | (with_reducible apply RVs.cons) | exact rv_tmp (by rfl) | exact rv_cellN (by rfl) (by repeat constructor) (by rfl) (by rfl) (by rfl) | exact rv_cell1 (by rfl) (by repeat constructor) (by rfl) (by rfl))); exact zml; exact zkp; exact ⟨rfl, rfl, rfl⟩)
  rw [h] at k0
  rw [if_neg (fun g => g h)]
  have q1 := inn_e h
  have q2 := inn_e (u := u) (t := 2) (f := f) (g := g) (by rw [← h]; exact may_all (by decide) (by decide))
  have q3 := inn_e (u := u) (t := 3) (f := f) (g := g) (by rw [← h]; exact may_all (by decide) (by decide))
  have k1 := fun (m' : Mem) (hm : m.le m') => rinner u 1 f g (hs.mono hm)
  have k2 := fun (m' : Mem) (hm : m.le m') => rinner u 2 f g (hs.mono hm)
  have k3 := fun (m' : Mem) (hm : m.le m') => rinner u 3 f g (hs.mono hm)
  generalize inn u 1 f g = A at q1 k1 ⊢
  generalize inn u 2 f g = B at q2 k2 ⊢
  generalize inn u 3 f g = C at q3 k3 ⊢
  obtain ⟨a1, b1, e1⟩ := A
  obtain ⟨a2, b2, e2⟩ := B
  obtain ⟨a3, b3, e3⟩ := C
  dsimp only at q1 q2 q3 k1 k2 k3 ⊢
  clear hs h
  refine Ct.enterV (by rfl) Tryz.func11 rfl Tryz.ntmps11 rfl (fun w0 Rest => ?_)
  (repeat' (first | refine zss ?_ | refine zs0 ?_ | ((with_reducible first | apply AtM1.cr | apply AtQ.cr | apply At.cr); exact rfl; exact rfl; exact fun _ hmm => k0 _ hmm; exact ztk; kernel_rfl) | ((with_reducible apply At.box (d := 3)); exact rfl; exact rfl; exact rfl; intro b3) | (refine zsp ?_ ?_ <;> (intro hc; (try simp only [zhcs, reduceCtorEq] at hc); (try (exfalso; first | (first | omega | exact absurd rfl hc) | contradiction | omega | exact absurd rfl hc | exact absurd (by decide) hc))))))
  (refine At.loopk (σ := Nat) [1, 2, 3] (fun s F0 => (11, .int .i64 ((s : Int) + 1)) :: F0) (fun s => m) (fun s => .blk b3 28 u.cells :: Rest) (fun s => s ≤ 3 ∧ (0 < s → e1 = 3) ∧ (1 < s → e2 = 3) ∧ (2 < s → e3 = 3)) (fun s => 3 - s) 0 (by rfl) ?_ zsubs zml zente ?_)
  · exact ⟨Nat.zero_le _, fun h => absurd h (Nat.not_lt_zero _), fun h => absurd h (by decide), fun h => absurd h (by decide)⟩
  rintro s ⟨hs3, g1, g2, g3⟩
  rcases (show s = 0 ∨ s = 1 ∨ s = 2 ∨ s = 3 by omega) with rfl | rfl | rfl | rfl
  · rcases q1 with rfl | rfl
    · rw [if_pos rfl]
      (repeat' (first | refine zss ?_ | refine zs0 ?_ | ((with_reducible first | apply AtM1.cr | apply AtQ.cr | apply At.cr); exact rfl; exact rfl; exact fun _ hmm => k1 _ hmm; exact ztk; kernel_rfl) | ((with_reducible apply At.box (d := 3)); exact rfl; exact rfl; exact rfl; intro b3) | (refine zsp ?_ ?_ <;> (intro hc; (try simp only [zhcs, reduceCtorEq] at hc); (try (exfalso; first | (first | omega | exact absurd rfl hc | exact absurd hc (by decide)) | contradiction | omega | exact absurd rfl hc | exact absurd (by decide) hc))))))
      all_goals ((with_reducible apply At.retV (B := [])); exact rfl; (repeat' (first | exact RVs.nil | (with_reducible apply RVs.cons) | exact rv_tmp (by rfl) | exact rv_cellN (by rfl) (by repeat constructor) (by rfl) (by rfl) (by rfl) | exact rv_cell1 (by rfl) (by repeat constructor) (by rfl) (by rfl))); exact zml; exact zkp; exact ⟨rfl, rfl, rfl⟩)
    · (repeat' (first | refine zss ?_ | refine zs0 ?_ | ((with_reducible first | apply AtM1.cr | apply AtQ.cr | apply At.cr); exact rfl; exact rfl; exact fun _ hmm => k1 _ hmm; exact ztk; kernel_rfl) | ((with_reducible apply At.box (d := 3)); exact rfl; exact rfl; exact rfl; intro b3) | (refine zsp ?_ ?_ <;> (intro hc; (try simp only [zhcs, reduceCtorEq] at hc); (try (exfalso; first | (first | omega | exact absurd rfl hc | exact absurd hc (by decide)) | contradiction | omega | exact absurd rfl hc | exact absurd (by decide) hc))))))
      all_goals ((with_reducible refine At.reachk (1) ?_ ?_ ?_ ?_); exact zsubs; exact zml; exact zente; exact ⟨⟨by decide, fun _ => rfl, fun h => absurd h (by decide), fun h => absurd h (by decide)⟩, (by decide : 3 - 1 < 3 - 0)⟩)
  · obtain rfl := g1 (by decide)
    rw [if_neg (by decide)]
    rcases q2 with rfl | rfl
    · rw [if_pos rfl]
      (repeat' (first | refine zss ?_ | refine zs0 ?_ | ((with_reducible first | apply AtM1.cr | apply AtQ.cr | apply At.cr); exact rfl; exact rfl; exact fun _ hmm => k2 _ hmm; exact ztk; kernel_rfl) | ((with_reducible apply At.box (d := 3)); exact rfl; exact rfl; exact rfl; intro b3) | (refine zsp ?_ ?_ <;> (intro hc; (try simp only [zhcs, reduceCtorEq] at hc); (try (exfalso; first | (first | omega | exact absurd rfl hc | exact absurd hc (by decide)) | contradiction | omega | exact absurd rfl hc | exact absurd (by decide) hc))))))
      all_goals ((with_reducible apply At.retV (B := [])); exact rfl; (repeat' (first | exact RVs.nil | (with_reducible apply RVs.cons) | exact rv_tmp (by rfl) | exact rv_cellN (by rfl) (by repeat constructor) (by rfl) (by rfl) (by rfl) | exact rv_cell1 (by rfl) (by repeat constructor) (by rfl) (by rfl))); exact zml; exact zkp; exact ⟨rfl, rfl, rfl⟩)
    · (repeat' (first | refine zss ?_ | refine zs0 ?_ | ((with_reducible first | apply AtM1.cr | apply AtQ.cr | apply At.cr); exact rfl; exact rfl; exact fun _ hmm => k2 _ hmm; exact ztk; kernel_rfl) | ((with_reducible apply At.box (d := 3)); exact rfl; exact rfl; exact rfl; intro b3) | (refine zsp ?_ ?_ <;> (intro hc; (try simp only [zhcs, reduceCtorEq] at hc); (try (exfalso; first | (first | omega | exact absurd rfl hc | exact absurd hc (by decide)) | contradiction | omega | exact absurd rfl hc | exact absurd (by decide) hc))))))
      all_goals ((with_reducible refine At.reachk (2) ?_ ?_ ?_ ?_); exact zsubs; exact zml; exact zente; exact ⟨⟨by decide, fun _ => rfl, fun _ => rfl, fun h => absurd h (by decide)⟩, (by decide : 3 - 2 < 3 - 1)⟩)
  · obtain rfl := g1 (by decide)
    obtain rfl := g2 (by decide)
    rw [if_neg (by decide), if_neg (by decide)]
    rcases q3 with rfl | rfl
    · rw [if_pos rfl]
      (repeat' (first | refine zss ?_ | refine zs0 ?_ | ((with_reducible first | apply AtM1.cr | apply AtQ.cr | apply At.cr); exact rfl; exact rfl; exact fun _ hmm => k3 _ hmm; exact ztk; kernel_rfl) | ((with_reducible apply At.box (d := 3)); exact rfl; exact rfl; exact rfl; intro b3) | (refine zsp ?_ ?_ <;> (intro hc; (try simp only [zhcs, reduceCtorEq] at hc); (try (exfalso; first | (first | omega | exact absurd rfl hc | exact absurd hc (by decide)) | contradiction | omega | exact absurd rfl hc | exact absurd (by decide) hc))))))
      all_goals ((with_reducible apply At.retV (B := [])); exact rfl; (repeat' (first | exact RVs.nil | (with_reducible apply RVs.cons) | exact rv_tmp (by rfl) | exact rv_cellN (by rfl) (by repeat constructor) (by rfl) (by rfl) (by rfl) | exact rv_cell1 (by rfl) (by repeat constructor) (by rfl) (by rfl))); exact zml; exact zkp; exact ⟨rfl, rfl, rfl⟩)
    · (repeat' (first | refine zss ?_ | refine zs0 ?_ | ((with_reducible first | apply AtM1.cr | apply AtQ.cr | apply At.cr); exact rfl; exact rfl; exact fun _ hmm => k3 _ hmm; exact ztk; kernel_rfl) | ((with_reducible apply At.box (d := 3)); exact rfl; exact rfl; exact rfl; intro b3) | (refine zsp ?_ ?_ <;> (intro hc; (try simp only [zhcs, reduceCtorEq] at hc); (try (exfalso; first | (first | omega | exact absurd rfl hc | exact absurd hc (by decide)) | contradiction | omega | exact absurd rfl hc | exact absurd (by decide) hc))))))
      all_goals ((with_reducible refine At.reachk (3) ?_ ?_ ?_ ?_); exact zsubs; exact zml; exact zente; exact ⟨⟨by decide, fun _ => rfl, fun _ => rfl, fun _ => rfl⟩, (by decide : 3 - 3 < 3 - 2)⟩)
  · obtain rfl := g1 (by decide)
    obtain rfl := g2 (by decide)
    obtain rfl := g3 (by decide)
    rw [if_neg (by decide), if_neg (by decide), if_neg (by decide)]
    (repeat' (first | refine zss ?_ | refine zs0 ?_ | ((with_reducible apply At.box (d := 3)); exact rfl; exact rfl; exact rfl; intro b3) | (refine zsp ?_ ?_ <;> (intro hc; (try simp only [zhcs, reduceCtorEq] at hc); (try (exfalso; first | (first | omega | exact absurd rfl hc | exact absurd hc (by decide)) | contradiction | omega | exact absurd rfl hc | exact absurd (by decide) hc))))))
    all_goals ((with_reducible apply At.retV (B := [])); exact rfl; (repeat' (first | exact RVs.nil | (with_reducible apply RVs.cons) | exact rv_tmp (by rfl) | exact rv_cellN (by rfl) (by repeat constructor) (by rfl) (by rfl) (by rfl) | exact rv_cell1 (by rfl) (by repeat constructor) (by rfl) (by rfl))); exact zml; exact zkp; exact ⟨rfl, rfl, rfl⟩)
end Au
end Go.Proofs.YtecifniognbomaaGreat

/- Part 12 of what the law's proof needs: rules of the walk, contracts of functions, plain laws. No condition. -/
import Derived.Test.YtecifniognbomaaGreatAuTZ11
/- Series, the document's answers: which are right, which are one. -/
set_option linter.unusedSimpArgs false
set_option linter.unusedVariables false
set_option linter.unusedSectionVars false
set_option maxRecDepth 20000
set_option maxHeartbeats 4000000
namespace Go.Proofs.YtecifniognbomaaGreat
open Go Go.J
attribute [local irreducible] At AtQ AtM AtM1 PR Ct Pu Rd Res.blk Res.own Res.ex RVs RV
namespace Ds
open Se Win Slot Dt
theorem full_pos {c : Cell} (h : Cell.chk c = 0) (hn : c.n ≠ 0) : 0 < c.n := by
  unfold Cell.chk at h
  by_cases g : Cell.ok c
  · rcases g with g | g
    · rw [g] at hn; exact absurd rfl hn
    · have := (Cell.full_spn g)
      have := (Cell.spn_pos this).1
      omega
  · rw [if_neg g] at h; exact absurd h (by decide)
theorem okT_mem {l : List Slot} {w : Int} (h : Ti.okT l w) {x : Slot} (hx : x ∈ l) (hz : x ≠ z) : 0 < x.c.n ∧ 0 ≤ x.w := by
  obtain ⟨k, hk, e⟩ := List.mem_iff_getElem.1 hx
  have := h.2.2 k hk
  unfold Ti.okS at this
  rw [getElem!_pos l k hk, e] at this
  rcases this with g | ⟨_, g⟩
  · exact absurd g hz
  · refine ⟨full_pos g.2.1 g.1, ?_⟩
    have := ofV_bd x.c.F.T w
    rw [g.2.2.1.2] at this
    exact this.1
theorem bhd_all {l : List Slot} {w : Int} (h : Ti.okT l w) (i : Int) : bhd l i = (allL l).any fun x => decide (i ≤ x.w) := by
  rw [Bool.eq_iff_iff]
  unfold bhd
  rw [List.any_eq_true, List.any_eq_true]
  constructor
  · rintro ⟨x, hx, hb⟩
    unfold bh1 at hb
    rw [decide_eq_true_eq] at hb
    exact ⟨x, mem_all.2 ⟨hx, fun e => by rw [e] at hb; exact absurd hb.1 (by decide)⟩, decide_eq_true hb.2⟩
  · rintro ⟨x, hx, hb⟩
    rw [decide_eq_true_eq] at hb
    obtain ⟨h1, h2⟩ := mem_all.1 hx
    exact ⟨x, h1, by unfold bh1; exact decide_eq_true ⟨(okT_mem h h1 h2).1, hb⟩⟩
theorem bhd_zero {l : List Slot} {w : Int} (h : Ti.okT l w) : bhd l 0 = decide (0 < (allL l).length) := by
  rw [bhd_all h]
  by_cases g : 0 < (allL l).length
  · rw [decide_eq_true g, List.any_eq_true]
    have hm : (allL l)[0]'g ∈ allL l := List.getElem_mem g
    obtain ⟨h1, h2⟩ := mem_all.1 hm
    exact ⟨_, hm, decide_eq_true (okT_mem h h1 h2).2⟩
  · rw [decide_eq_false g]
    have : allL l = [] := List.eq_nil_of_length_eq_zero (by omega)
    rw [this]; rfl
theorem any_no {A : List Slot} {i : Int} (h : ∀ k, k < A.length → ¬ i ≤ A[k]!.w) : (A.any fun x => decide (i ≤ x.w)) = false := by
  rw [List.any_eq_false]
  intro x hx
  obtain ⟨k, hk, e⟩ := List.mem_iff_getElem.1 hx
  have := h k hk
  rw [getElem!_pos A k hk, e] at this
  rw [decide_eq_false this]; decide
theorem any_yes {A : List Slot} {i : Int} {k : Nat} (hk : k < A.length) (h : i ≤ A[k]!.w) : (A.any fun x => decide (i ≤ x.w)) = true := List.any_eq_true.2 ⟨A[k]!, Ls.mem! hk, decide_eq_true h⟩
set_option maxRecDepth 100000 in
theorem checkF {m : Mem} (k : Cfg) (a b c : Lst Slot) (ha : a.l.length ≤ 1000000) (hb : b.l.length ≤ 1000000) (hc0 : c.l.length ≤ 1000000) (ia : ∀ s ∈ a.l, Slot.In s) (ib : ∀ s ∈ b.l, Slot.In s) (ic : ∀ s ∈ c.l, Slot.In s)
    (sl0 : Sl m Slot.cells 15 a.p a.c a.l) (sl1 : Sl m Slot.cells 15 b.p b.c b.l) (sl2 : Sl m Slot.cells 15 c.p c.c c.l) :
    Rd Tryz.prog 61 #[k.v, t3v a b c] m [] (.int .i64 (fchk k a.l b.l c.l)) := by
  unfold Rd
  have k0 := Dc.check k
  unfold Cfg.chk at k0
  have hbad : ¬ fok k a.l b.l c.l → fchk k a.l b.l c.l = 2 := fun h => if_neg h
  by_cases h0 : k.ok
  rotate_left
  · rw [if_neg h0] at k0
    rw [hbad fun h => h0 h.1]
    refine Ct.enterV (by rfl) Tryz.func61 rfl Tryz.ntmps61 rfl (fun w0 Rest => ?_)
    (repeat' (first | refine zss ?_ | refine zsM ?_ | ((with_reducible first | apply AtM1.callp | apply AtQ.callp | apply At.callp); kernel_rfl; exact rfl; exact rfl; exact k0) | ((with_reducible apply At.box (d := 2)); exact rfl; exact rfl; exact rfl; intro b2) | ((with_reducible apply At.box (d := 3)); exact rfl; exact rfl; exact rfl; intro b3) | (refine zsp ?_ ?_ <;> (intro hc; (try simp only [zhcs, reduceCtorEq] at hc); (try (exfalso; first | omega | contradiction | omega | exact absurd rfl hc | exact absurd (by decide) hc))))))
    all_goals ((with_reducible apply At.retB1 (B := [])); exact rfl; exact rfl; exact zml; exact zkp; exact ⟨rfl, rfl, rfl⟩)
  rw [if_pos h0] at k0
  have k1 := fun (m' : Mem) (h : m.le m') => checkR a.p a.c a.l k.a ia (sl0.mono h)
  have k2 := fun (m' : Mem) (h : m.le m') => checkR b.p b.c b.l k.b ib (sl1.mono h)
  have k3 := fun (m' : Mem) (h : m.le m') => checkR c.p c.c c.l k.d ic (sl2.mono h)
  refine Ct.enterV (by rfl) Tryz.func61 rfl Tryz.ntmps61 rfl (fun w0 Rest => ?_)
  (repeat' (first | refine zss ?_ | refine zsM ?_ | ((with_reducible first | apply AtM1.callp | apply AtQ.callp | apply At.callp); kernel_rfl; exact rfl; exact rfl; exact k0) | ((with_reducible apply At.box (d := 2)); exact rfl; exact rfl; exact rfl; intro b2) | ((with_reducible apply At.box (d := 3)); exact rfl; exact rfl; exact rfl; intro b3) | (refine zsp ?_ ?_ <;> (intro hc; (try simp only [zhcs, reduceCtorEq] at hc); (try (exfalso; first | omega | contradiction | omega | exact absurd rfl hc | exact absurd (by decide) hc))))))
  (refine At.loopk (σ := Nat) [2, 3] (fun s F0 => (5, .int .i64 (s : Int)) :: F0) (fun s => m) (fun s => .blk b3 42 [a.v, b.v, c.v] :: .blk b2 25 k.cells :: Rest) (fun s => s ≤ 3 ∧ (0 < s → tk a.l k.x k.a) ∧ (1 < s → tk b.l k.y k.b) ∧ (2 < s → tk c.l k.w k.d)) (fun s => 3 - s) 0 (by rfl) ?_ zsubs zml zente ?_)
  · exact ⟨Nat.zero_le _, fun h => absurd h (by decide), fun h => absurd h (by decide), fun h => absurd h (by decide)⟩
  rintro s ⟨hs, g0, g1, g2⟩
  rcases (show s = 0 ∨ s = 1 ∨ s = 2 ∨ s = 3 by omega) with rfl | rfl | rfl | rfl
  · clear k2 k3
    by_cases e1 : (a.l.length : Int) = k.x
    rotate_left
    · rw [hbad fun h => e1 h.2.1.1]
      (repeat' (first | refine zss ?_ | ((first | (with_reducible first | apply At.val | apply AtQ.val)); (exact pr_indexArr (k := 0) (by rfl) (by rfl) (by rfl) (by rfl) (by decide)); exact rfl) | refine zsM ?_ | ((with_reducible apply At.box (d := 2)); exact rfl; exact rfl; exact rfl; intro b2) | ((with_reducible apply At.box (d := 3)); exact rfl; exact rfl; exact rfl; intro b3) | (refine zsp ?_ ?_ <;> (intro hc; (try simp only [zhcs, reduceCtorEq] at hc); (try (exfalso; first | (first | omega | exact absurd hc e1) | contradiction | omega | exact absurd rfl hc | exact absurd (by decide) hc))))))
      all_goals ((with_reducible apply At.retB1 (B := [])); exact rfl; exact rfl; exact zml; exact zkp; exact ⟨rfl, rfl, rfl⟩)
    by_cases e2 : Ti.okT a.l k.a
    · rw [tchk e2] at k1
      (repeat' (first | refine zss ?_ | ((first | (with_reducible first | apply At.val | apply AtQ.val)); (exact pr_indexArr (k := 0) (by rfl) (by rfl) (by rfl) (by rfl) (by decide)); exact rfl) | refine zsM ?_ | ((with_reducible first | apply AtM1.cr | apply AtQ.cr | apply At.cr); exact rfl; exact rfl; exact fun _ hmm => k1 _ hmm; exact ztk; kernel_rfl) | ((with_reducible apply At.box (d := 2)); exact rfl; exact rfl; exact rfl; intro b2) | ((with_reducible apply At.box (d := 3)); exact rfl; exact rfl; exact rfl; intro b3) | (refine zsp ?_ ?_ <;> (intro hc; (try simp only [zhcs, reduceCtorEq] at hc); (try (exfalso; first | (first | omega | exact absurd e1 hc) | contradiction | omega | exact absurd rfl hc | exact absurd (by decide) hc))))))
      all_goals ((with_reducible refine At.reachk (1) ?_ ?_ ?_ ?_); exact zsubs; exact zml; exact zente; exact ⟨⟨by decide, fun _ => ⟨e1, e2⟩, fun h => absurd h (by decide), fun h => absurd h (by decide)⟩, by decide⟩)
    · rw [tchkN e2] at k1
      rw [hbad fun h => e2 h.2.1.2]
      (repeat' (first | refine zss ?_ | ((first | (with_reducible first | apply At.val | apply AtQ.val)); (exact pr_indexArr (k := 0) (by rfl) (by rfl) (by rfl) (by rfl) (by decide)); exact rfl) | refine zsM ?_ | ((with_reducible first | apply AtM1.cr | apply AtQ.cr | apply At.cr); exact rfl; exact rfl; exact fun _ hmm => k1 _ hmm; exact ztk; kernel_rfl) | ((with_reducible apply At.box (d := 2)); exact rfl; exact rfl; exact rfl; intro b2) | ((with_reducible apply At.box (d := 3)); exact rfl; exact rfl; exact rfl; intro b3) | (refine zsp ?_ ?_ <;> (intro hc; (try simp only [zhcs, reduceCtorEq] at hc); (try (exfalso; first | (first | omega | exact absurd e1 hc) | contradiction | omega | exact absurd rfl hc | exact absurd (by decide) hc))))))
      all_goals ((with_reducible apply At.retB1 (B := [])); exact rfl; exact rfl; exact zml; exact zkp; exact ⟨rfl, rfl, rfl⟩)
  · clear k1 k3
    by_cases e1 : (b.l.length : Int) = k.y
    rotate_left
    · rw [hbad fun h => e1 h.2.2.1.1]
      (repeat' (first | refine zss ?_ | ((first | (with_reducible first | apply At.val | apply AtQ.val)); (exact pr_indexArr (k := 1) (by rfl) (by rfl) (by rfl) (by rfl) (by decide)); exact rfl) | refine zsM ?_ | ((with_reducible apply At.box (d := 2)); exact rfl; exact rfl; exact rfl; intro b2) | ((with_reducible apply At.box (d := 3)); exact rfl; exact rfl; exact rfl; intro b3) | (refine zsp ?_ ?_ <;> (intro hc; (try simp only [zhcs, reduceCtorEq] at hc); (try (exfalso; first | (first | omega | exact absurd hc e1) | contradiction | omega | exact absurd rfl hc | exact absurd (by decide) hc))))))
      all_goals ((with_reducible apply At.retB1 (B := [])); exact rfl; exact rfl; exact zml; exact zkp; exact ⟨rfl, rfl, rfl⟩)
    by_cases e2 : Ti.okT b.l k.b
    · rw [tchk e2] at k2
      (repeat' (first | refine zss ?_ | ((first | (with_reducible first | apply At.val | apply AtQ.val)); (exact pr_indexArr (k := 1) (by rfl) (by rfl) (by rfl) (by rfl) (by decide)); exact rfl) | refine zsM ?_ | ((with_reducible first | apply AtM1.cr | apply AtQ.cr | apply At.cr); exact rfl; exact rfl; exact fun _ hmm => k2 _ hmm; exact ztk; kernel_rfl) | ((with_reducible apply At.box (d := 2)); exact rfl; exact rfl; exact rfl; intro b2) | ((with_reducible apply At.box (d := 3)); exact rfl; exact rfl; exact rfl; intro b3) | (refine zsp ?_ ?_ <;> (intro hc; (try simp only [zhcs, reduceCtorEq] at hc); (try (exfalso; first | (first | omega | exact absurd e1 hc) | contradiction | omega | exact absurd rfl hc | exact absurd (by decide) hc))))))
      all_goals ((with_reducible refine At.reachk (2) ?_ ?_ ?_ ?_); exact zsubs; exact zml; exact zente; exact ⟨⟨by decide, fun _ => g0 (by decide), fun _ => ⟨e1, e2⟩, fun h => absurd h (by decide)⟩, by decide⟩)
    · rw [tchkN e2] at k2
      rw [hbad fun h => e2 h.2.2.1.2]
      (repeat' (first | refine zss ?_ | ((first | (with_reducible first | apply At.val | apply AtQ.val)); (exact pr_indexArr (k := 1) (by rfl) (by rfl) (by rfl) (by rfl) (by decide)); exact rfl) | refine zsM ?_ | ((with_reducible first | apply AtM1.cr | apply AtQ.cr | apply At.cr); exact rfl; exact rfl; exact fun _ hmm => k2 _ hmm; exact ztk; kernel_rfl) | ((with_reducible apply At.box (d := 2)); exact rfl; exact rfl; exact rfl; intro b2) | ((with_reducible apply At.box (d := 3)); exact rfl; exact rfl; exact rfl; intro b3) | (refine zsp ?_ ?_ <;> (intro hc; (try simp only [zhcs, reduceCtorEq] at hc); (try (exfalso; first | (first | omega | exact absurd e1 hc) | contradiction | omega | exact absurd rfl hc | exact absurd (by decide) hc))))))
      all_goals ((with_reducible apply At.retB1 (B := [])); exact rfl; exact rfl; exact zml; exact zkp; exact ⟨rfl, rfl, rfl⟩)
  · clear k1 k2
    by_cases e1 : (c.l.length : Int) = k.w
    rotate_left
    · rw [hbad fun h => e1 h.2.2.2.1]
      (repeat' (first | refine zss ?_ | ((first | (with_reducible first | apply At.val | apply AtQ.val)); (exact pr_indexArr (k := 2) (by rfl) (by rfl) (by rfl) (by rfl) (by decide)); exact rfl) | refine zsM ?_ | ((with_reducible apply At.box (d := 2)); exact rfl; exact rfl; exact rfl; intro b2) | ((with_reducible apply At.box (d := 3)); exact rfl; exact rfl; exact rfl; intro b3) | (refine zsp ?_ ?_ <;> (intro hc; (try simp only [zhcs, reduceCtorEq] at hc); (try (exfalso; first | (first | omega | exact absurd hc e1) | contradiction | omega | exact absurd rfl hc | exact absurd (by decide) hc))))))
      all_goals ((with_reducible apply At.retB1 (B := [])); exact rfl; exact rfl; exact zml; exact zkp; exact ⟨rfl, rfl, rfl⟩)
    by_cases e2 : Ti.okT c.l k.d
    · rw [tchk e2] at k3
      (repeat' (first | refine zss ?_ | ((first | (with_reducible first | apply At.val | apply AtQ.val)); (exact pr_indexArr (k := 2) (by rfl) (by rfl) (by rfl) (by rfl) (by decide)); exact rfl) | refine zsM ?_ | ((with_reducible first | apply AtM1.cr | apply AtQ.cr | apply At.cr); exact rfl; exact rfl; exact fun _ hmm => k3 _ hmm; exact ztk; kernel_rfl) | ((with_reducible apply At.box (d := 2)); exact rfl; exact rfl; exact rfl; intro b2) | ((with_reducible apply At.box (d := 3)); exact rfl; exact rfl; exact rfl; intro b3) | (refine zsp ?_ ?_ <;> (intro hc; (try simp only [zhcs, reduceCtorEq] at hc); (try (exfalso; first | (first | omega | exact absurd e1 hc) | contradiction | omega | exact absurd rfl hc | exact absurd (by decide) hc))))))
      all_goals ((with_reducible refine At.reachk (3) ?_ ?_ ?_ ?_); exact zsubs; exact zml; exact zente; exact ⟨⟨by decide, fun _ => g0 (by decide), fun _ => g1 (by decide), fun _ => ⟨e1, e2⟩⟩, by decide⟩)
    · rw [tchkN e2] at k3
      rw [hbad fun h => e2 h.2.2.2.2]
      (repeat' (first | refine zss ?_ | ((first | (with_reducible first | apply At.val | apply AtQ.val)); (exact pr_indexArr (k := 2) (by rfl) (by rfl) (by rfl) (by rfl) (by decide)); exact rfl) | refine zsM ?_ | ((with_reducible first | apply AtM1.cr | apply AtQ.cr | apply At.cr); exact rfl; exact rfl; exact fun _ hmm => k3 _ hmm; exact ztk; kernel_rfl) | ((with_reducible apply At.box (d := 2)); exact rfl; exact rfl; exact rfl; intro b2) | ((with_reducible apply At.box (d := 3)); exact rfl; exact rfl; exact rfl; intro b3) | (refine zsp ?_ ?_ <;> (intro hc; (try simp only [zhcs, reduceCtorEq] at hc); (try (exfalso; first | (first | omega | exact absurd e1 hc) | contradiction | omega | exact absurd rfl hc | exact absurd (by decide) hc))))))
      all_goals ((with_reducible apply At.retB1 (B := [])); exact rfl; exact rfl; exact zml; exact zkp; exact ⟨rfl, rfl, rfl⟩)
  · rw [show fchk k a.l b.l c.l = 0 from if_pos ⟨h0, g0 (by decide), g1 (by decide), g2 (by decide)⟩]
    clear k1 k2 k3
    (repeat' (first | refine zss ?_ | refine zsM ?_ | ((with_reducible apply At.box (d := 2)); exact rfl; exact rfl; exact rfl; intro b2) | ((with_reducible apply At.box (d := 3)); exact rfl; exact rfl; exact rfl; intro b3) | (refine zsp ?_ ?_ <;> (intro hc; (try simp only [zhcs, reduceCtorEq] at hc); (try (exfalso; first | omega | contradiction | omega | exact absurd rfl hc | exact absurd (by decide) hc))))))
    all_goals ((with_reducible apply At.retB1 (B := [])); exact rfl; exact rfl; exact zml; exact zkp; exact ⟨rfl, rfl, rfl⟩)
theorem sameF {m : Mem} (a b c a' b' c' : Lst Slot) (q0 q1 q2 : Bool)
    (k0 : ∀ m', m.le m' → Rd Tryz.prog 93 #[a.v, a'.v] m' [] (.bool q0)) (k1 : ∀ m', m.le m' → Rd Tryz.prog 93 #[b.v, b'.v] m' [] (.bool q1)) (k2 : ∀ m', m.le m' → Rd Tryz.prog 93 #[c.v, c'.v] m' [] (.bool q2)) :
    Rd Tryz.prog 76 #[t3v a b c, t3v a' b' c'] m [] (.bool (q0 && q1 && q2)) := by
  unfold Rd
  refine Ct.enterV (by rfl) Tryz.func76 rfl Tryz.ntmps76 rfl (fun w0 Rest => ?_)
  (repeat' (first | refine zss ?_ | refine zsM ?_ | ((with_reducible apply At.box (d := 2)); exact rfl; exact rfl; exact rfl; intro b2) | ((with_reducible apply At.box (d := 3)); exact rfl; exact rfl; exact rfl; intro b3) | (refine zsp ?_ ?_ <;> (intro hc; (try simp only [zhcs, reduceCtorEq] at hc); (try (exfalso; first | omega | contradiction | omega | exact absurd rfl hc | exact absurd (by decide) hc))))))
  (refine At.loopk (σ := Nat) [2, 3] (fun s F0 => (5, .int .i64 (s : Int)) :: F0) (fun s => m) (fun s => .blk b3 42 [a'.v, b'.v, c'.v] :: .blk b2 42 [a.v, b.v, c.v] :: Rest) (fun s => s ≤ 3 ∧ (0 < s → q0 = true) ∧ (1 < s → q1 = true) ∧ (2 < s → q2 = true)) (fun s => 3 - s) 0 (by rfl) ?_ zsubs zml zente ?_)
  · exact ⟨Nat.zero_le _, fun h => absurd h (by decide), fun h => absurd h (by decide), fun h => absurd h (by decide)⟩
  rintro s ⟨hs, g0, g1, g2⟩
  rcases (show s = 0 ∨ s = 1 ∨ s = 2 ∨ s = 3 by omega) with rfl | rfl | rfl | rfl
  · skip
    cases q0
    · (repeat' (first | refine zss ?_ | ((first | (with_reducible first | apply At.val | apply AtQ.val)); (exact pr_indexArr (k := 0) (by rfl) (by rfl) (by rfl) (by rfl) (by decide)); exact rfl) | refine zsM ?_ | ((with_reducible first | apply AtM1.cr | apply AtQ.cr | apply At.cr); exact rfl; exact rfl; exact fun _ hmm => k0 _ hmm; exact ztk; kernel_rfl) | ((with_reducible apply At.box (d := 2)); exact rfl; exact rfl; exact rfl; intro b2) | ((with_reducible apply At.box (d := 3)); exact rfl; exact rfl; exact rfl; intro b3) | (refine zsp ?_ ?_ <;> (intro hc; (try simp only [zhcs, reduceCtorEq] at hc); (try (exfalso; first | (first | omega | exact absurd rfl hc) | contradiction | omega | exact absurd rfl hc | exact absurd (by decide) hc))))))
      all_goals ((with_reducible apply At.retB1 (B := [])); exact rfl; exact rfl; exact zml; exact zkp; exact ⟨by simp, rfl, rfl⟩)
    · (repeat' (first | refine zss ?_ | ((first | (with_reducible first | apply At.val | apply AtQ.val)); (exact pr_indexArr (k := 0) (by rfl) (by rfl) (by rfl) (by rfl) (by decide)); exact rfl) | refine zsM ?_ | ((with_reducible first | apply AtM1.cr | apply AtQ.cr | apply At.cr); exact rfl; exact rfl; exact fun _ hmm => k0 _ hmm; exact ztk; kernel_rfl) | ((with_reducible apply At.box (d := 2)); exact rfl; exact rfl; exact rfl; intro b2) | ((with_reducible apply At.box (d := 3)); exact rfl; exact rfl; exact rfl; intro b3) | (refine zsp ?_ ?_ <;> (intro hc; (try simp only [zhcs, reduceCtorEq] at hc); (try (exfalso; first | (first | omega | exact absurd rfl hc) | contradiction | omega | exact absurd rfl hc | exact absurd (by decide) hc))))))
      all_goals ((with_reducible refine At.reachk (1) ?_ ?_ ?_ ?_); exact zsubs; exact zml; exact zente; exact ⟨⟨by decide, fun _ => rfl, fun h => absurd h (by decide), fun h => absurd h (by decide)⟩, by decide⟩)
  · skip
    obtain rfl := g0 (by decide)
    cases q1
    · (repeat' (first | refine zss ?_ | ((first | (with_reducible first | apply At.val | apply AtQ.val)); (exact pr_indexArr (k := 1) (by rfl) (by rfl) (by rfl) (by rfl) (by decide)); exact rfl) | refine zsM ?_ | ((with_reducible first | apply AtM1.cr | apply AtQ.cr | apply At.cr); exact rfl; exact rfl; exact fun _ hmm => k1 _ hmm; exact ztk; kernel_rfl) | ((with_reducible apply At.box (d := 2)); exact rfl; exact rfl; exact rfl; intro b2) | ((with_reducible apply At.box (d := 3)); exact rfl; exact rfl; exact rfl; intro b3) | (refine zsp ?_ ?_ <;> (intro hc; (try simp only [zhcs, reduceCtorEq] at hc); (try (exfalso; first | (first | omega | exact absurd rfl hc) | contradiction | omega | exact absurd rfl hc | exact absurd (by decide) hc))))))
      all_goals ((with_reducible apply At.retB1 (B := [])); exact rfl; exact rfl; exact zml; exact zkp; exact ⟨by simp, rfl, rfl⟩)
    · (repeat' (first | refine zss ?_ | ((first | (with_reducible first | apply At.val | apply AtQ.val)); (exact pr_indexArr (k := 1) (by rfl) (by rfl) (by rfl) (by rfl) (by decide)); exact rfl) | refine zsM ?_ | ((with_reducible first | apply AtM1.cr | apply AtQ.cr | apply At.cr); exact rfl; exact rfl; exact fun _ hmm => k1 _ hmm; exact ztk; kernel_rfl) | ((with_reducible apply At.box (d := 2)); exact rfl; exact rfl; exact rfl; intro b2) | ((with_reducible apply At.box (d := 3)); exact rfl; exact rfl; exact rfl; intro b3) | (refine zsp ?_ ?_ <;> (intro hc; (try simp only [zhcs, reduceCtorEq] at hc); (try (exfalso; first | (first | omega | exact absurd rfl hc) | contradiction | omega | exact absurd rfl hc | exact absurd (by decide) hc))))))
      all_goals ((with_reducible refine At.reachk (2) ?_ ?_ ?_ ?_); exact zsubs; exact zml; exact zente; exact ⟨⟨by decide, fun _ => rfl, fun _ => rfl, fun h => absurd h (by decide)⟩, by decide⟩)
  · skip
    obtain rfl := g0 (by decide)
    obtain rfl := g1 (by decide)
    cases q2
    · (repeat' (first | refine zss ?_ | ((first | (with_reducible first | apply At.val | apply AtQ.val)); (exact pr_indexArr (k := 2) (by rfl) (by rfl) (by rfl) (by rfl) (by decide)); exact rfl) | refine zsM ?_ | ((with_reducible first | apply AtM1.cr | apply AtQ.cr | apply At.cr); exact rfl; exact rfl; exact fun _ hmm => k2 _ hmm; exact ztk; kernel_rfl) | ((with_reducible apply At.box (d := 2)); exact rfl; exact rfl; exact rfl; intro b2) | ((with_reducible apply At.box (d := 3)); exact rfl; exact rfl; exact rfl; intro b3) | (refine zsp ?_ ?_ <;> (intro hc; (try simp only [zhcs, reduceCtorEq] at hc); (try (exfalso; first | (first | omega | exact absurd rfl hc) | contradiction | omega | exact absurd rfl hc | exact absurd (by decide) hc))))))
      all_goals ((with_reducible apply At.retB1 (B := [])); exact rfl; exact rfl; exact zml; exact zkp; exact ⟨by simp, rfl, rfl⟩)
    · (repeat' (first | refine zss ?_ | ((first | (with_reducible first | apply At.val | apply AtQ.val)); (exact pr_indexArr (k := 2) (by rfl) (by rfl) (by rfl) (by rfl) (by decide)); exact rfl) | refine zsM ?_ | ((with_reducible first | apply AtM1.cr | apply AtQ.cr | apply At.cr); exact rfl; exact rfl; exact fun _ hmm => k2 _ hmm; exact ztk; kernel_rfl) | ((with_reducible apply At.box (d := 2)); exact rfl; exact rfl; exact rfl; intro b2) | ((with_reducible apply At.box (d := 3)); exact rfl; exact rfl; exact rfl; intro b3) | (refine zsp ?_ ?_ <;> (intro hc; (try simp only [zhcs, reduceCtorEq] at hc); (try (exfalso; first | (first | omega | exact absurd rfl hc) | contradiction | omega | exact absurd rfl hc | exact absurd (by decide) hc))))))
      all_goals ((with_reducible refine At.reachk (3) ?_ ?_ ?_ ?_); exact zsubs; exact zml; exact zente; exact ⟨⟨by decide, fun _ => rfl, fun _ => rfl, fun _ => rfl⟩, by decide⟩)
  · obtain rfl := g0 (by decide)
    obtain rfl := g1 (by decide)
    obtain rfl := g2 (by decide)
    (repeat' (first | refine zss ?_ | refine zsM ?_ | ((with_reducible apply At.box (d := 2)); exact rfl; exact rfl; exact rfl; intro b2) | ((with_reducible apply At.box (d := 3)); exact rfl; exact rfl; exact rfl; intro b3) | (refine zsp ?_ ?_ <;> (intro hc; (try simp only [zhcs, reduceCtorEq] at hc); (try (exfalso; first | omega | contradiction | omega | exact absurd rfl hc | exact absurd (by decide) hc))))))
    all_goals ((with_reducible apply At.retB1 (B := [])); exact rfl; exact rfl; exact zml; exact zkp; exact ⟨rfl, rfl, rfl⟩)
set_option maxRecDepth 100000 in
theorem sameS {m : Mem} (x y : Ser) (hx : x.Ok m) (hy : y.Ok m) : Rd Tryz.prog 58 #[x.v, y.v] m [] (.bool (eqS x y)) := by
  unfold Rd
  have kl := fun (m' : Mem) (h : m.le m') => Lb.rsame (m := m') x.lab.p x.lab.c x.lab.l y.lab.p y.lab.c y.lab.l (Nat.le_trans hx.nl (by decide)) (Nat.le_trans hy.nl (by decide)) (hx.sl.mono h) (hy.sl.mono h)
  have kr := fun (m' : Mem) (h : m.le m') => Raw.rsame (m := m') ⟨x.lost, x.mark, x.raw.p, x.raw.c, x.raw.l⟩ ⟨y.lost, y.mark, y.raw.p, y.raw.c, y.raw.l⟩ hx.nr hy.nr (hx.sr.mono h) (hy.sr.mono h)
  have kt := fun (m' : Mem) (h : m.le m') => sameF (m := m') x.t0 x.t1 x.t2 y.t0 y.t1 y.t2 _ _ _ (fun m2 h2 => sameR (m := m2) x.t0.p x.t0.c x.t0.l y.t0.p y.t0.c y.t0.l hx.n0 hy.n0 (hx.s0.mono (Mem.le_trans h h2)) (hy.s0.mono (Mem.le_trans h h2)))
    (fun m2 h2 => sameR (m := m2) x.t1.p x.t1.c x.t1.l y.t1.p y.t1.c y.t1.l hx.n1 hy.n1 (hx.s1.mono (Mem.le_trans h h2)) (hy.s1.mono (Mem.le_trans h h2)))
    (fun m2 h2 => sameR (m := m2) x.t2.p x.t2.c x.t2.l y.t2.p y.t2.c y.t2.l hx.n2 hy.n2 (hx.s2.mono (Mem.le_trans h h2)) (hy.s2.mono (Mem.le_trans h h2)))
  unfold Raw.eqR at kr
  dsimp only at kr
  have he : eqS x y = decide (x.lab.l = y.lab.l ∧ x.last = y.last ∧ (x.lost = y.lost ∧ x.mark = y.mark ∧ x.raw.l = y.raw.l) ∧ (decide (x.t0.l = y.t0.l) && decide (x.t1.l = y.t1.l) && decide (x.t2.l = y.t2.l)) = true ∧ x.op = y.op) := by
    rw [Bool.eq_iff_iff, eqS_iff, decide_eq_true_eq]
    unfold eqB
    simp only [Bool.and_eq_true, decide_eq_true_eq, and_assoc]
    constructor
    · rintro ⟨a, b, c, d, e, f, g, h, i⟩; exact ⟨a, b, c, d, e, g, h, i, f⟩
    · rintro ⟨a, b, c, d, e, g, h, i, f⟩; exact ⟨a, b, c, d, e, f, g, h, i⟩
  rw [he]
  generalize (decide (x.t0.l = y.t0.l) && decide (x.t1.l = y.t1.l) && decide (x.t2.l = y.t2.l)) = qt at kt ⊢
  clear hx hy he
  refine Ct.enterV (by rfl) Tryz.func58 rfl Tryz.ntmps58 rfl (fun w0 Rest => ?_)
  (repeat' (first | (refine At.cutp (id := 1) (x.lab.l = y.lab.l ∧ x.last = y.last ∧ (x.lost = y.lost ∧ x.mark = y.mark ∧ x.raw.l = y.raw.l) ∧ qt = true ∧ x.op = y.op) 4 [] (by rfl) ?_ ?_) | refine zss ?_ | ((first | (with_reducible first | apply At.val | apply AtQ.val)); (exact Ti.pr_sleq (a := x.op) (b := y.op) (by rfl) (by rfl)); exact rfl) | refine zsM ?_ | ((with_reducible first | apply AtM1.cr | apply AtQ.cr | apply At.cr); exact rfl; exact rfl; exact fun _ hmm => kl _ hmm; exact ztk; kernel_rfl) | ((with_reducible first | apply AtM1.cr | apply AtQ.cr | apply At.cr); exact rfl; exact rfl; exact fun _ hmm => kr _ hmm; exact ztk; kernel_rfl) | ((with_reducible first | apply AtM1.cr | apply AtQ.cr | apply At.cr); exact rfl; exact rfl; exact fun _ hmm => kt _ hmm; exact ztk; kernel_rfl) | ((with_reducible apply At.endp); exact rfl; exact zsubs; exact zml; exact zente; (first | (simp_all; done) | (simp_all <;> omega))) | ((with_reducible apply At.box (d := 2)); exact rfl; exact rfl; exact rfl; intro b2) | ((with_reducible apply At.box (d := 3)); exact rfl; exact rfl; exact rfl; intro b3) | (refine zsp ?_ ?_ <;> (intro hc; (try simp only [zhcs, reduceCtorEq] at hc); (try (exfalso; first | (first | omega | exact absurd rfl hc) | contradiction | omega | exact absurd rfl hc | exact absurd (by decide) hc))))))
  all_goals ((with_reducible apply At.retB1 (B := [])); exact rfl; exact rfl; exact zml; exact zkp; exact ⟨rfl, rfl, rfl⟩)
set_option maxRecDepth 100000 in
theorem checkS {m : Mem} (k : Cfg) (x : Ser) (ho : x.Ok m) : Rd Tryz.prog 42 #[k.v, x.v] m [] (.int .i64 (schk k x)) := by
  unfold Rd
  refine Ct.forget (R := fun v m' B => v = .int .i64 (schk k x) ∧ B = []) ?_ (fun v m' B hm hr => ⟨hr.1, rfl, hr.2⟩)
  have kc := Dc.check k
  have k0 := fun (m' : Mem) (h : m.le m') => checkF k x.t0 x.t1 x.t2 ho.n0 ho.n1 ho.n2 ho.i0 ho.i1 ho.i2 (ho.s0.mono h) (ho.s1.mono h) (ho.s2.mono h)
  have k1 := fun (m' : Mem) (h : m.le m') => Lb.rcheck x.lab.p x.lab.c x.lab.l ho.ml (ho.sl.mono h)
  have k2 := fun (m' : Mem) (h : m.le m') => Raw.rcheck x.lost x.mark x.raw.p x.raw.c x.raw.l k.r ho.nr (ho.sr.mono h)
  have a0 := fun (m' : Mem) (h : m.le m') => all_ x.t0.p x.t0.c x.t0.l ho.n0 (ho.s0.mono h)
  have a1 := fun (m' : Mem) (h : m.le m') => all_ x.t1.p x.t1.c x.t1.l ho.n1 (ho.s1.mono h)
  have a2 := fun (m' : Mem) (h : m.le m') => all_ x.t2.p x.t2.c x.t2.l ho.n2 (ho.s2.mono h)
  have kl := fun (m' : Mem) (h : m.le m') => Raw.rlast x.lost x.mark x.raw.p x.raw.c x.raw.l ho.nr (ho.sr.mono h)
  have kf := fitsR x.op.c k.a x.op.w ho.io.2.1 ho.io.2.2.2.2
  have n0 := Nat.le_trans (len_all x.t0.l) ho.n0
  have n1 := Nat.le_trans (len_all x.t1.l) ho.n1
  have n2 := Nat.le_trans (len_all x.t2.l) ho.n2
  have nr := ho.nr
  have hbad : ¬ sok k x → schk k x = 2 := fun h => if_neg h
  unfold Cfg.chk at kc
  unfold fchk at k0
  unfold Lb.chk at k1
  unfold Raw.chkR at k2
  clear ho
  by_cases g0 : k.ok
  rotate_left
  · rw [if_neg g0] at kc
    rw [hbad fun h => g0 h.1.1]
    refine Ct.enterV (by rfl) Tryz.func42 rfl Tryz.ntmps42 rfl (fun w0 Rest => ?_)
    (repeat' (first | refine zss ?_ | refine zsM ?_ | ((with_reducible first | apply AtM1.callp | apply AtQ.callp | apply At.callp); kernel_rfl; exact rfl; exact rfl; exact kc) | ((with_reducible apply At.box (d := 2)); exact rfl; exact rfl; exact rfl; intro b2) | ((with_reducible apply At.box (d := 3)); exact rfl; exact rfl; exact rfl; intro b3) | ((with_reducible apply At.alloc (d := 6)); exact rfl; exact rfl; intro b6) | ((with_reducible apply At.alloc (d := 10)); exact rfl; exact rfl; intro b10) | (refine zsp ?_ ?_ <;> (intro hc; (try simp only [zhcs, reduceCtorEq] at hc); (try (exfalso; first | omega | contradiction | omega | exact absurd rfl hc | exact absurd (by decide) hc))))))
    all_goals ((with_reducible apply At.retB1 (B := [])); exact rfl; exact rfl; exact zml; exact zkp; exact ⟨rfl, rfl⟩)
  rw [if_pos g0] at kc
  by_cases h1 : Lb.right x.lab.l
  rotate_left
  · rw [if_neg h1] at k1
    rw [hbad fun h => h1 h.2.1]
    refine Ct.enterV (by rfl) Tryz.func42 rfl Tryz.ntmps42 rfl (fun w0 Rest => ?_)
    (repeat' (first | refine zss ?_ | refine zsM ?_ | ((with_reducible first | apply AtM1.callp | apply AtQ.callp | apply At.callp); kernel_rfl; exact rfl; exact rfl; exact kc) | ((with_reducible first | apply AtM1.cr | apply AtQ.cr | apply At.cr); exact rfl; exact rfl; exact fun _ hmm => k1 _ hmm; exact ztk; kernel_rfl) | ((with_reducible apply At.box (d := 2)); exact rfl; exact rfl; exact rfl; intro b2) | ((with_reducible apply At.box (d := 3)); exact rfl; exact rfl; exact rfl; intro b3) | ((with_reducible apply At.alloc (d := 6)); exact rfl; exact rfl; intro b6) | ((with_reducible apply At.alloc (d := 10)); exact rfl; exact rfl; intro b10) | (refine zsp ?_ ?_ <;> (intro hc; (try simp only [zhcs, reduceCtorEq] at hc); (try (exfalso; first | omega | contradiction | omega | exact absurd rfl hc | exact absurd (by decide) hc))))))
    all_goals ((with_reducible apply At.retB1 (B := [])); exact rfl; exact rfl; exact zml; exact zkp; exact ⟨rfl, rfl⟩)
  rw [if_pos h1] at k1
  by_cases h2 : Raw.rk x.lost x.mark x.raw.l k.r
  rotate_left
  · rw [if_neg h2] at k2
    rw [hbad fun h => h2 h.2.2.1]
    refine Ct.enterV (by rfl) Tryz.func42 rfl Tryz.ntmps42 rfl (fun w0 Rest => ?_)
    (repeat' (first | refine zss ?_ | refine zsM ?_ | ((with_reducible first | apply AtM1.callp | apply AtQ.callp | apply At.callp); kernel_rfl; exact rfl; exact rfl; exact kc) | ((with_reducible first | apply AtM1.cr | apply AtQ.cr | apply At.cr); exact rfl; exact rfl; exact fun _ hmm => k1 _ hmm; exact ztk; kernel_rfl) | ((with_reducible first | apply AtM1.cr | apply AtQ.cr | apply At.cr); exact rfl; exact rfl; exact fun _ hmm => k2 _ hmm; exact ztk; kernel_rfl) | ((with_reducible apply At.box (d := 2)); exact rfl; exact rfl; exact rfl; intro b2) | ((with_reducible apply At.box (d := 3)); exact rfl; exact rfl; exact rfl; intro b3) | ((with_reducible apply At.alloc (d := 6)); exact rfl; exact rfl; intro b6) | ((with_reducible apply At.alloc (d := 10)); exact rfl; exact rfl; intro b10) | (refine zsp ?_ ?_ <;> (intro hc; (try simp only [zhcs, reduceCtorEq] at hc); (try (exfalso; first | omega | contradiction | omega | exact absurd rfl hc | exact absurd (by decide) hc))))))
    all_goals ((with_reducible apply At.retB1 (B := [])); exact rfl; exact rfl; exact zml; exact zkp; exact ⟨rfl, rfl⟩)
  rw [if_pos h2] at k2
  by_cases h0 : fok k x.t0.l x.t1.l x.t2.l
  rotate_left
  · rw [if_neg h0] at k0
    rw [hbad fun h => h0 h.1]
    refine Ct.enterV (by rfl) Tryz.func42 rfl Tryz.ntmps42 rfl (fun w0 Rest => ?_)
    (repeat' (first | refine zss ?_ | refine zsM ?_ | ((with_reducible first | apply AtM1.callp | apply AtQ.callp | apply At.callp); kernel_rfl; exact rfl; exact rfl; exact kc) | ((with_reducible first | apply AtM1.cr | apply AtQ.cr | apply At.cr); exact rfl; exact rfl; exact fun _ hmm => k1 _ hmm; exact ztk; kernel_rfl) | ((with_reducible first | apply AtM1.cr | apply AtQ.cr | apply At.cr); exact rfl; exact rfl; exact fun _ hmm => k2 _ hmm; exact ztk; kernel_rfl) | ((with_reducible first | apply AtM1.cr | apply AtQ.cr | apply At.cr); exact rfl; exact rfl; exact fun _ hmm => k0 _ hmm; exact ztk; kernel_rfl) | ((with_reducible apply At.box (d := 2)); exact rfl; exact rfl; exact rfl; intro b2) | ((with_reducible apply At.box (d := 3)); exact rfl; exact rfl; exact rfl; intro b3) | ((with_reducible apply At.alloc (d := 6)); exact rfl; exact rfl; intro b6) | ((with_reducible apply At.alloc (d := 10)); exact rfl; exact rfl; intro b10) | (refine zsp ?_ ?_ <;> (intro hc; (try simp only [zhcs, reduceCtorEq] at hc); (try (exfalso; first | omega | contradiction | omega | exact absurd rfl hc | exact absurd (by decide) hc))))))
    all_goals ((with_reducible apply At.retB1 (B := [])); exact rfl; exact rfl; exact zml; exact zkp; exact ⟨rfl, rfl⟩)
  rw [if_pos h0] at k0
  have hs1 : x.last = -1 → schk k x = if frs x = true then 0 else 2 := fun hl => by
    have e : sok k x ↔ frs x = true := ⟨fun h => by have := h.2.2.2; rwa [if_pos hl] at this, fun h => ⟨h0, h1, h2, by rw [if_pos hl]; exact h⟩⟩
    unfold schk
    by_cases g : frs x = true
    · rw [if_pos g, if_pos (e.2 g)]
    · rw [if_neg g, if_neg (fun q => g (e.1 q))]
  have hs2 : ¬ x.last = -1 → schk k x = if eds x k = true then 0 else 2 := fun hl => by
    have e : sok k x ↔ eds x k = true := ⟨fun h => by have := h.2.2.2; rwa [if_neg hl] at this, fun h => ⟨h0, h1, h2, by rw [if_neg hl]; exact h⟩⟩
    unfold schk
    by_cases g : eds x k = true
    · rw [if_pos g, if_pos (e.2 g)]
    · rw [if_neg g, if_neg (fun q => g (e.1 q))]
  have o0 := h0.2.1.2
  have o1 := h0.2.2.1.2
  have o2 := h0.2.2.2.2
  have hlp := last_pos h2
  have hw0 := g0.ha
  have hw1 := g0.hb
  have hw2 := g0.hd
  clear hbad h0 h1 h2 g0
  by_cases hl : x.last = -1
  · rw [hs1 hl]
    clear hs1 hs2
    unfold frs
    rw [bhd_zero o0, bhd_zero o1, bhd_zero o2]
    clear kl kf hlp o0 o1 o2
    by_cases g1 : x.raw.l.length = 0
    rotate_left
    · rw [if_neg (by simp [ex3, g1])]
      refine Ct.enterV (by rfl) Tryz.func42 rfl Tryz.ntmps42 rfl (fun w0 Rest => ?_)
      (repeat' (first | refine zss ?_ | refine zsM ?_ | ((with_reducible first | apply AtM1.callp | apply AtQ.callp | apply At.callp); kernel_rfl; exact rfl; exact rfl; exact kc) | ((with_reducible first | apply AtM1.cr | apply AtQ.cr | apply At.cr); exact rfl; exact rfl; exact fun _ hmm => k1 _ hmm; exact ztk; kernel_rfl) | ((with_reducible first | apply AtM1.cr | apply AtQ.cr | apply At.cr); exact rfl; exact rfl; exact fun _ hmm => k2 _ hmm; exact ztk; kernel_rfl) | ((with_reducible first | apply AtM1.cr | apply AtQ.cr | apply At.cr); exact rfl; exact rfl; exact fun _ hmm => k0 _ hmm; exact ztk; kernel_rfl) | ((with_reducible apply At.box (d := 2)); exact rfl; exact rfl; exact rfl; intro b2) | ((with_reducible apply At.box (d := 3)); exact rfl; exact rfl; exact rfl; intro b3) | ((with_reducible apply At.alloc (d := 6)); exact rfl; exact rfl; intro b6) | ((with_reducible apply At.alloc (d := 10)); exact rfl; exact rfl; intro b10) | (refine zsp ?_ ?_ <;> (intro hc; (try simp only [zhcs, reduceCtorEq] at hc); (try (exfalso; first | (first | omega | exact absurd hl hc) | contradiction | omega | exact absurd rfl hc | exact absurd (by decide) hc))))))
      all_goals ((with_reducible apply At.retB1 (B := [])); exact rfl; exact rfl; exact zml; exact zkp; exact ⟨rfl, rfl⟩)
    by_cases g2 : x.op = z
    rotate_left
    · rw [if_neg (by simp [ex3, g2])]
      have pz : ∀ {n' : Nat} {F : Fr} {C : World → Prop} {x' y : Operand} {u : TypeId}, ev F x' = some x.op.v → ev F y = some z.v → PR Tryz.prog n' F C (.binOp .neq 51 x' y u) (.bool true) := fun hx hy => by rw [show true = !decide (x.op = z) by rw [decide_eq_false g2]; rfl]; exact Ti.pr_slne hx hy
      refine Ct.enterV (by rfl) Tryz.func42 rfl Tryz.ntmps42 rfl (fun w0 Rest => ?_)
      (repeat' (first | refine zss ?_ | ((first | (with_reducible first | apply At.val | apply AtQ.val)); (exact pz (by rfl) (by rfl)); exact rfl) | refine zsM ?_ | ((with_reducible first | apply AtM1.callp | apply AtQ.callp | apply At.callp); kernel_rfl; exact rfl; exact rfl; exact kc) | ((with_reducible first | apply AtM1.cr | apply AtQ.cr | apply At.cr); exact rfl; exact rfl; exact fun _ hmm => k1 _ hmm; exact ztk; kernel_rfl) | ((with_reducible first | apply AtM1.cr | apply AtQ.cr | apply At.cr); exact rfl; exact rfl; exact fun _ hmm => k2 _ hmm; exact ztk; kernel_rfl) | ((with_reducible first | apply AtM1.cr | apply AtQ.cr | apply At.cr); exact rfl; exact rfl; exact fun _ hmm => k0 _ hmm; exact ztk; kernel_rfl) | ((with_reducible apply At.box (d := 2)); exact rfl; exact rfl; exact rfl; intro b2) | ((with_reducible apply At.box (d := 3)); exact rfl; exact rfl; exact rfl; intro b3) | ((with_reducible apply At.alloc (d := 6)); exact rfl; exact rfl; intro b6) | ((with_reducible apply At.alloc (d := 10)); exact rfl; exact rfl; intro b10) | (refine zsp ?_ ?_ <;> (intro hc; (try simp only [zhcs, reduceCtorEq] at hc); (try (exfalso; first | (first | omega | exact absurd hl hc) | contradiction | omega | exact absurd rfl hc | exact absurd (by decide) hc))))))
      all_goals ((with_reducible apply At.retB1 (B := [])); exact rfl; exact rfl; exact zml; exact zkp; exact ⟨rfl, rfl⟩)
    have pz : ∀ {n' : Nat} {F : Fr} {C : World → Prop} {x' y : Operand} {u : TypeId}, ev F x' = some x.op.v → ev F y = some z.v → PR Tryz.prog n' F C (.binOp .neq 51 x' y u) (.bool false) := fun hx hy => by rw [show false = !decide (x.op = z) by rw [decide_eq_true g2]; rfl]; exact Ti.pr_slne hx hy
    have hif : ∀ b1 b2 b3 : Bool, ex3 (decide (x.raw.l.length = 0 ∧ x.op = z)) b1 b2 b3 3 = (b1 && b2 && b3) := fun b1 b2 b3 => by simp [ex3, g1, g2]
    rw [hif]
    clear hif g2
    generalize allL x.t0.l = A0 at a0 n0 ⊢
    generalize allL x.t1.l = A1 at a1 n1 ⊢
    generalize allL x.t2.l = A2 at a2 n2 ⊢
    refine Ct.enterV (by rfl) Tryz.func42 rfl Tryz.ntmps42 rfl (fun w0 Rest => ?_)
    (repeat' (first | refine zss ?_ | ((first | (with_reducible first | apply At.val | apply AtQ.val)); (exact pz (by rfl) (by rfl)); exact rfl) | refine zsM ?_ | ((with_reducible first | apply AtM1.callp | apply AtQ.callp | apply At.callp); kernel_rfl; exact rfl; exact rfl; exact kc) | ((with_reducible first | apply AtM1.cr | apply AtQ.cr | apply At.cr); exact rfl; exact rfl; exact fun _ hmm => k1 _ hmm; exact ztk; kernel_rfl) | ((with_reducible first | apply AtM1.cr | apply AtQ.cr | apply At.cr); exact rfl; exact rfl; exact fun _ hmm => k2 _ hmm; exact ztk; kernel_rfl) | ((with_reducible first | apply AtM1.cr | apply AtQ.cr | apply At.cr); exact rfl; exact rfl; exact fun _ hmm => k0 _ hmm; exact ztk; kernel_rfl) | ((with_reducible apply At.box (d := 2)); exact rfl; exact rfl; exact rfl; intro b2) | ((with_reducible apply At.box (d := 3)); exact rfl; exact rfl; exact rfl; intro b3) | ((with_reducible apply At.alloc (d := 6)); exact rfl; exact rfl; intro b6) | ((with_reducible apply At.alloc (d := 10)); exact rfl; exact rfl; intro b10) | (refine zsp ?_ ?_ <;> (intro hc; (try simp only [zhcs, reduceCtorEq] at hc); (try (exfalso; first | (first | omega | exact absurd hl hc) | contradiction | omega | exact absurd rfl hc | exact absurd (by decide) hc))))))
    (refine At.loopk (σ := Nat) [3] (fun s F0 => (5, .int .i64 (s : Int)) :: F0) (fun s => m) (fun s => .blk b3 53 x.cells :: .blk b2 25 k.cells :: Rest) (fun s => s ≤ 3 ∧ (0 < s → ¬ 0 < A0.length) ∧ (1 < s → ¬ 0 < A1.length) ∧ (2 < s → ¬ 0 < A2.length)) (fun s => 3 - s) 0 (by rfl) ?_ zsubs zml zente ?_)
    · exact ⟨Nat.zero_le _, fun h => absurd h (by decide), fun h => absurd h (by decide), fun h => absurd h (by decide)⟩
    rintro s ⟨hs, e0, e1, e2⟩
    rcases (show s = 0 ∨ s = 1 ∨ s = 2 ∨ s = 3 by omega) with rfl | rfl | rfl | rfl
    · by_cases g : 0 < A0.length
      · rw [if_neg (by simp [g])]
        (repeat' (first | refine zss ?_ | ((first | (with_reducible first | apply At.val | apply AtQ.val)); (exact pr_indexArr (k := 0) (by rfl) (by rfl) (by rfl) (by rfl) (by decide)); exact rfl) | refine zsM ?_ | ((with_reducible first | apply At.c1 | apply At.c0); exact rfl; exact rfl; exact a0 _ (Mem.le_refl _); exact ztk; kernel_rfl; rintro v' m' B' hm' ⟨rfl, p', c', rfl, sl9⟩; (try replace sl9 := sl9.mono hm'); (try (have hq0 : hm' = Mem.le_refl _ := rfl; clear hq0 hm'))) | ((with_reducible apply At.box (d := 2)); exact rfl; exact rfl; exact rfl; intro b2) | ((with_reducible apply At.box (d := 3)); exact rfl; exact rfl; exact rfl; intro b3) | ((with_reducible apply At.alloc (d := 6)); exact rfl; exact rfl; intro b6) | ((with_reducible apply At.alloc (d := 10)); exact rfl; exact rfl; intro b10) | (refine zsp ?_ ?_ <;> (intro hc; (try simp only [zhcs, reduceCtorEq] at hc); (try (exfalso; first | omega | contradiction | omega | exact absurd rfl hc | exact absurd (by decide) hc))))))
        all_goals ((with_reducible apply At.retB1 (B := [])); exact rfl; exact rfl; exact zml; exact zkp; exact ⟨rfl, rfl⟩)
      · (repeat' (first | refine zss ?_ | ((first | (with_reducible first | apply At.val | apply AtQ.val)); (exact pr_indexArr (k := 0) (by rfl) (by rfl) (by rfl) (by rfl) (by decide)); exact rfl) | refine zsM ?_ | ((with_reducible first | apply At.c1 | apply At.c0); exact rfl; exact rfl; exact a0 _ (Mem.le_refl _); exact ztk; kernel_rfl; rintro v' m' B' hm' ⟨rfl, p', c', rfl, sl9⟩; (try replace sl9 := sl9.mono hm'); (try (have hq0 : hm' = Mem.le_refl _ := rfl; clear hq0 hm'))) | ((with_reducible apply At.box (d := 2)); exact rfl; exact rfl; exact rfl; intro b2) | ((with_reducible apply At.box (d := 3)); exact rfl; exact rfl; exact rfl; intro b3) | ((with_reducible apply At.alloc (d := 6)); exact rfl; exact rfl; intro b6) | ((with_reducible apply At.alloc (d := 10)); exact rfl; exact rfl; intro b10) | (refine zsp ?_ ?_ <;> (intro hc; (try simp only [zhcs, reduceCtorEq] at hc); (try (exfalso; first | omega | contradiction | omega | exact absurd rfl hc | exact absurd (by decide) hc))))))
        all_goals ((with_reducible refine At.reachk (1) ?_ ?_ ?_ ?_); exact zsubs; exact zml; exact zente; exact ⟨⟨by decide, fun _ => g, fun h => absurd h (by decide), fun h => absurd h (by decide)⟩, by decide⟩)
    · by_cases g : 0 < A1.length
      · rw [if_neg (by simp [g])]
        (repeat' (first | refine zss ?_ | ((first | (with_reducible first | apply At.val | apply AtQ.val)); (exact pr_indexArr (k := 1) (by rfl) (by rfl) (by rfl) (by rfl) (by decide)); exact rfl) | refine zsM ?_ | ((with_reducible first | apply At.c1 | apply At.c0); exact rfl; exact rfl; exact a1 _ (Mem.le_refl _); exact ztk; kernel_rfl; rintro v' m' B' hm' ⟨rfl, p', c', rfl, sl9⟩; (try replace sl9 := sl9.mono hm'); (try (have hq0 : hm' = Mem.le_refl _ := rfl; clear hq0 hm'))) | ((with_reducible apply At.box (d := 2)); exact rfl; exact rfl; exact rfl; intro b2) | ((with_reducible apply At.box (d := 3)); exact rfl; exact rfl; exact rfl; intro b3) | ((with_reducible apply At.alloc (d := 6)); exact rfl; exact rfl; intro b6) | ((with_reducible apply At.alloc (d := 10)); exact rfl; exact rfl; intro b10) | (refine zsp ?_ ?_ <;> (intro hc; (try simp only [zhcs, reduceCtorEq] at hc); (try (exfalso; first | omega | contradiction | omega | exact absurd rfl hc | exact absurd (by decide) hc))))))
        all_goals ((with_reducible apply At.retB1 (B := [])); exact rfl; exact rfl; exact zml; exact zkp; exact ⟨rfl, rfl⟩)
      · (repeat' (first | refine zss ?_ | ((first | (with_reducible first | apply At.val | apply AtQ.val)); (exact pr_indexArr (k := 1) (by rfl) (by rfl) (by rfl) (by rfl) (by decide)); exact rfl) | refine zsM ?_ | ((with_reducible first | apply At.c1 | apply At.c0); exact rfl; exact rfl; exact a1 _ (Mem.le_refl _); exact ztk; kernel_rfl; rintro v' m' B' hm' ⟨rfl, p', c', rfl, sl9⟩; (try replace sl9 := sl9.mono hm'); (try (have hq0 : hm' = Mem.le_refl _ := rfl; clear hq0 hm'))) | ((with_reducible apply At.box (d := 2)); exact rfl; exact rfl; exact rfl; intro b2) | ((with_reducible apply At.box (d := 3)); exact rfl; exact rfl; exact rfl; intro b3) | ((with_reducible apply At.alloc (d := 6)); exact rfl; exact rfl; intro b6) | ((with_reducible apply At.alloc (d := 10)); exact rfl; exact rfl; intro b10) | (refine zsp ?_ ?_ <;> (intro hc; (try simp only [zhcs, reduceCtorEq] at hc); (try (exfalso; first | omega | contradiction | omega | exact absurd rfl hc | exact absurd (by decide) hc))))))
        all_goals ((with_reducible refine At.reachk (2) ?_ ?_ ?_ ?_); exact zsubs; exact zml; exact zente; exact ⟨⟨by decide, fun _ => e0 (by decide), fun _ => g, fun h => absurd h (by decide)⟩, by decide⟩)
    · by_cases g : 0 < A2.length
      · rw [if_neg (by simp [g])]
        (repeat' (first | refine zss ?_ | ((first | (with_reducible first | apply At.val | apply AtQ.val)); (exact pr_indexArr (k := 2) (by rfl) (by rfl) (by rfl) (by rfl) (by decide)); exact rfl) | refine zsM ?_ | ((with_reducible first | apply At.c1 | apply At.c0); exact rfl; exact rfl; exact a2 _ (Mem.le_refl _); exact ztk; kernel_rfl; rintro v' m' B' hm' ⟨rfl, p', c', rfl, sl9⟩; (try replace sl9 := sl9.mono hm'); (try (have hq0 : hm' = Mem.le_refl _ := rfl; clear hq0 hm'))) | ((with_reducible apply At.box (d := 2)); exact rfl; exact rfl; exact rfl; intro b2) | ((with_reducible apply At.box (d := 3)); exact rfl; exact rfl; exact rfl; intro b3) | ((with_reducible apply At.alloc (d := 6)); exact rfl; exact rfl; intro b6) | ((with_reducible apply At.alloc (d := 10)); exact rfl; exact rfl; intro b10) | (refine zsp ?_ ?_ <;> (intro hc; (try simp only [zhcs, reduceCtorEq] at hc); (try (exfalso; first | omega | contradiction | omega | exact absurd rfl hc | exact absurd (by decide) hc))))))
        all_goals ((with_reducible apply At.retB1 (B := [])); exact rfl; exact rfl; exact zml; exact zkp; exact ⟨rfl, rfl⟩)
      · (repeat' (first | refine zss ?_ | ((first | (with_reducible first | apply At.val | apply AtQ.val)); (exact pr_indexArr (k := 2) (by rfl) (by rfl) (by rfl) (by rfl) (by decide)); exact rfl) | refine zsM ?_ | ((with_reducible first | apply At.c1 | apply At.c0); exact rfl; exact rfl; exact a2 _ (Mem.le_refl _); exact ztk; kernel_rfl; rintro v' m' B' hm' ⟨rfl, p', c', rfl, sl9⟩; (try replace sl9 := sl9.mono hm'); (try (have hq0 : hm' = Mem.le_refl _ := rfl; clear hq0 hm'))) | ((with_reducible apply At.box (d := 2)); exact rfl; exact rfl; exact rfl; intro b2) | ((with_reducible apply At.box (d := 3)); exact rfl; exact rfl; exact rfl; intro b3) | ((with_reducible apply At.alloc (d := 6)); exact rfl; exact rfl; intro b6) | ((with_reducible apply At.alloc (d := 10)); exact rfl; exact rfl; intro b10) | (refine zsp ?_ ?_ <;> (intro hc; (try simp only [zhcs, reduceCtorEq] at hc); (try (exfalso; first | omega | contradiction | omega | exact absurd rfl hc | exact absurd (by decide) hc))))))
        all_goals ((with_reducible refine At.reachk (3) ?_ ?_ ?_ ?_); exact zsubs; exact zml; exact zente; exact ⟨⟨by decide, fun _ => e0 (by decide), fun _ => e1 (by decide), fun _ => g⟩, by decide⟩)
    · rw [if_pos (by simp [e0 (by decide), e1 (by decide), e2 (by decide)])]
      clear e0 e1 e2
      (repeat' (first | refine zss ?_ | refine zsM ?_ | ((with_reducible apply At.box (d := 2)); exact rfl; exact rfl; exact rfl; intro b2) | ((with_reducible apply At.box (d := 3)); exact rfl; exact rfl; exact rfl; intro b3) | ((with_reducible apply At.alloc (d := 6)); exact rfl; exact rfl; intro b6) | ((with_reducible apply At.alloc (d := 10)); exact rfl; exact rfl; intro b10) | (refine zsp ?_ ?_ <;> (intro hc; (try simp only [zhcs, reduceCtorEq] at hc); (try (exfalso; first | omega | contradiction | omega | exact absurd rfl hc | exact absurd (by decide) hc))))))
      all_goals ((with_reducible apply At.retB1 (B := [])); exact rfl; exact rfl; exact zml; exact zkp; exact ⟨rfl, rfl⟩)
  · rw [hs2 hl]
    clear hs1 hs2
    unfold eds
    rw [bhd_all o0, bhd_all o1, bhd_all o2]
    clear o0 o1 o2
    have hb : edB x k → 0 ≤ x.last ∧ x.last < 35184372088832 := fun h => by rw [← h.2.1]; exact hlp h.1
    have hE : edB x k ↔ Raw.lastE x.raw.l = 0 ∧ (Raw.lastV x.raw.l).T = x.last ∧ x.op.c.L.T = x.last ∧ Ti.fits x.op.c k.a x.op.w := Iff.rfl
    clear hlp
    generalize Raw.lastE x.raw.l = le at kl hE
    generalize Raw.lastV x.raw.l = lv at kl hE
    by_cases c1 : le = 0
    rotate_left
    · rw [if_neg (by simp [ex3, show ¬ edB x k from fun h => (fun (q : _ ∧ _) => c1 q.1) (hE.1 h)])]
      clear hb hE
      refine Ct.enterV (by rfl) Tryz.func42 rfl Tryz.ntmps42 rfl (fun w0 Rest => ?_)
      (repeat' (first | refine zss ?_ | ((first | (with_reducible first | apply At.val | apply AtQ.val)); (exact pr_indexArr (k := 0) (by rfl) (by rfl) (by rfl) (by rfl) (by decide)); exact rfl) | refine zsM ?_ | ((with_reducible first | apply AtM1.callp | apply AtQ.callp | apply At.callp); kernel_rfl; exact rfl; exact rfl; exact kc) | ((with_reducible first | apply AtM1.cr | apply AtQ.cr | apply At.cr); exact rfl; exact rfl; exact fun _ hmm => k1 _ hmm; exact ztk; kernel_rfl) | ((with_reducible first | apply AtM1.cr | apply AtQ.cr | apply At.cr); exact rfl; exact rfl; exact fun _ hmm => k2 _ hmm; exact ztk; kernel_rfl) | ((with_reducible first | apply AtM1.cr | apply AtQ.cr | apply At.cr); exact rfl; exact rfl; exact fun _ hmm => k0 _ hmm; exact ztk; kernel_rfl) | ((with_reducible first | apply AtM1.cr | apply AtQ.cr | apply At.cr); exact rfl; exact rfl; exact fun _ hmm => kl _ hmm; exact ztk; kernel_rfl) | ((with_reducible first | apply AtM1.callp | apply AtQ.callp | apply At.callp); kernel_rfl; exact rfl; exact rfl; exact kf) | ((with_reducible apply At.box (d := 2)); exact rfl; exact rfl; exact rfl; intro b2) | ((with_reducible apply At.box (d := 3)); exact rfl; exact rfl; exact rfl; intro b3) | ((with_reducible apply At.alloc (d := 6)); exact rfl; exact rfl; intro b6) | ((with_reducible apply At.alloc (d := 10)); exact rfl; exact rfl; intro b10) | (refine zsp ?_ ?_ <;> (intro hc; (try simp only [zhcs, reduceCtorEq] at hc); (try (exfalso; first | (first | omega | exact absurd hc hl | exact absurd hc c1 ) | contradiction | omega | exact absurd rfl hc | exact absurd (by decide) hc))))))
      all_goals ((with_reducible apply At.retB1 (B := [])); exact rfl; exact rfl; exact zml; exact zkp; exact ⟨rfl, rfl⟩)
    by_cases c2 : lv.T = x.last
    rotate_left
    · rw [if_neg (by simp [ex3, show ¬ edB x k from fun h => (fun (q : _ ∧ _) => c2 q.2.1) (hE.1 h)])]
      clear hb hE
      refine Ct.enterV (by rfl) Tryz.func42 rfl Tryz.ntmps42 rfl (fun w0 Rest => ?_)
      (repeat' (first | refine zss ?_ | ((first | (with_reducible first | apply At.val | apply AtQ.val)); (exact pr_indexArr (k := 0) (by rfl) (by rfl) (by rfl) (by rfl) (by decide)); exact rfl) | refine zsM ?_ | ((with_reducible first | apply AtM1.callp | apply AtQ.callp | apply At.callp); kernel_rfl; exact rfl; exact rfl; exact kc) | ((with_reducible first | apply AtM1.cr | apply AtQ.cr | apply At.cr); exact rfl; exact rfl; exact fun _ hmm => k1 _ hmm; exact ztk; kernel_rfl) | ((with_reducible first | apply AtM1.cr | apply AtQ.cr | apply At.cr); exact rfl; exact rfl; exact fun _ hmm => k2 _ hmm; exact ztk; kernel_rfl) | ((with_reducible first | apply AtM1.cr | apply AtQ.cr | apply At.cr); exact rfl; exact rfl; exact fun _ hmm => k0 _ hmm; exact ztk; kernel_rfl) | ((with_reducible first | apply AtM1.cr | apply AtQ.cr | apply At.cr); exact rfl; exact rfl; exact fun _ hmm => kl _ hmm; exact ztk; kernel_rfl) | ((with_reducible first | apply AtM1.callp | apply AtQ.callp | apply At.callp); kernel_rfl; exact rfl; exact rfl; exact kf) | ((with_reducible apply At.box (d := 2)); exact rfl; exact rfl; exact rfl; intro b2) | ((with_reducible apply At.box (d := 3)); exact rfl; exact rfl; exact rfl; intro b3) | ((with_reducible apply At.alloc (d := 6)); exact rfl; exact rfl; intro b6) | ((with_reducible apply At.alloc (d := 10)); exact rfl; exact rfl; intro b10) | (refine zsp ?_ ?_ <;> (intro hc; (try simp only [zhcs, reduceCtorEq] at hc); (try (exfalso; first | (first | omega | exact absurd hc hl | exact absurd hc c2 | exact absurd c1 hc) | contradiction | omega | exact absurd rfl hc | exact absurd (by decide) hc))))))
      all_goals ((with_reducible apply At.retB1 (B := [])); exact rfl; exact rfl; exact zml; exact zkp; exact ⟨rfl, rfl⟩)
    by_cases c4 : Ti.fits x.op.c k.a x.op.w
    rotate_left
    · rw [if_neg (by simp [ex3, show ¬ edB x k from fun h => (fun (q : _ ∧ _) => c4 q.2.2.2) (hE.1 h)])]
      clear hb hE
      rw [decide_eq_false c4] at kf
      refine Ct.enterV (by rfl) Tryz.func42 rfl Tryz.ntmps42 rfl (fun w0 Rest => ?_)
      (repeat' (first | refine zss ?_ | ((first | (with_reducible first | apply At.val | apply AtQ.val)); (exact pr_indexArr (k := 0) (by rfl) (by rfl) (by rfl) (by rfl) (by decide)); exact rfl) | refine zsM ?_ | ((with_reducible first | apply AtM1.callp | apply AtQ.callp | apply At.callp); kernel_rfl; exact rfl; exact rfl; exact kc) | ((with_reducible first | apply AtM1.cr | apply AtQ.cr | apply At.cr); exact rfl; exact rfl; exact fun _ hmm => k1 _ hmm; exact ztk; kernel_rfl) | ((with_reducible first | apply AtM1.cr | apply AtQ.cr | apply At.cr); exact rfl; exact rfl; exact fun _ hmm => k2 _ hmm; exact ztk; kernel_rfl) | ((with_reducible first | apply AtM1.cr | apply AtQ.cr | apply At.cr); exact rfl; exact rfl; exact fun _ hmm => k0 _ hmm; exact ztk; kernel_rfl) | ((with_reducible first | apply AtM1.cr | apply AtQ.cr | apply At.cr); exact rfl; exact rfl; exact fun _ hmm => kl _ hmm; exact ztk; kernel_rfl) | ((with_reducible first | apply AtM1.callp | apply AtQ.callp | apply At.callp); kernel_rfl; exact rfl; exact rfl; exact kf) | ((with_reducible apply At.box (d := 2)); exact rfl; exact rfl; exact rfl; intro b2) | ((with_reducible apply At.box (d := 3)); exact rfl; exact rfl; exact rfl; intro b3) | ((with_reducible apply At.alloc (d := 6)); exact rfl; exact rfl; intro b6) | ((with_reducible apply At.alloc (d := 10)); exact rfl; exact rfl; intro b10) | (refine zsp ?_ ?_ <;> (intro hc; (try simp only [zhcs, reduceCtorEq] at hc); (try (exfalso; first | (first | omega | exact absurd hc hl | exact absurd rfl hc | exact absurd c1 hc | exact absurd c2 hc) | contradiction | omega | exact absurd rfl hc | exact absurd (by decide) hc))))))
      all_goals ((with_reducible apply At.retB1 (B := [])); exact rfl; exact rfl; exact zml; exact zkp; exact ⟨rfl, rfl⟩)
    by_cases c3 : x.op.c.L.T = x.last
    rotate_left
    · rw [if_neg (by simp [ex3, show ¬ edB x k from fun h => (fun (q : _ ∧ _) => c3 q.2.2.1) (hE.1 h)])]
      clear hb hE
      rw [decide_eq_true c4] at kf
      refine Ct.enterV (by rfl) Tryz.func42 rfl Tryz.ntmps42 rfl (fun w0 Rest => ?_)
      (repeat' (first | refine zss ?_ | ((first | (with_reducible first | apply At.val | apply AtQ.val)); (exact pr_indexArr (k := 0) (by rfl) (by rfl) (by rfl) (by rfl) (by decide)); exact rfl) | refine zsM ?_ | ((with_reducible first | apply AtM1.callp | apply AtQ.callp | apply At.callp); kernel_rfl; exact rfl; exact rfl; exact kc) | ((with_reducible first | apply AtM1.cr | apply AtQ.cr | apply At.cr); exact rfl; exact rfl; exact fun _ hmm => k1 _ hmm; exact ztk; kernel_rfl) | ((with_reducible first | apply AtM1.cr | apply AtQ.cr | apply At.cr); exact rfl; exact rfl; exact fun _ hmm => k2 _ hmm; exact ztk; kernel_rfl) | ((with_reducible first | apply AtM1.cr | apply AtQ.cr | apply At.cr); exact rfl; exact rfl; exact fun _ hmm => k0 _ hmm; exact ztk; kernel_rfl) | ((with_reducible first | apply AtM1.cr | apply AtQ.cr | apply At.cr); exact rfl; exact rfl; exact fun _ hmm => kl _ hmm; exact ztk; kernel_rfl) | ((with_reducible first | apply AtM1.callp | apply AtQ.callp | apply At.callp); kernel_rfl; exact rfl; exact rfl; exact kf) | ((with_reducible apply At.box (d := 2)); exact rfl; exact rfl; exact rfl; intro b2) | ((with_reducible apply At.box (d := 3)); exact rfl; exact rfl; exact rfl; intro b3) | ((with_reducible apply At.alloc (d := 6)); exact rfl; exact rfl; intro b6) | ((with_reducible apply At.alloc (d := 10)); exact rfl; exact rfl; intro b10) | (refine zsp ?_ ?_ <;> (intro hc; (try simp only [zhcs, reduceCtorEq] at hc); (try (exfalso; first | (first | omega | exact absurd hc hl | exact absurd rfl hc | exact absurd hc c3 | exact absurd c1 hc | exact absurd c2 hc) | contradiction | omega | exact absurd rfl hc | exact absurd (by decide) hc))))))
      all_goals ((with_reducible apply At.retB1 (B := [])); exact rfl; exact rfl; exact zml; exact zkp; exact ⟨rfl, rfl⟩)
    have hed : edB x k := hE.2 ⟨c1, c2, c3, c4⟩
    clear c1 c2 c3 c4
    obtain ⟨q1, q2, q3, q4⟩ := hE.1 hed
    have hp := hb hed
    rw [show ∀ b1 b2 b3 : Bool, ex3 (decide (edB x k)) b1 b2 b3 3 = (b1 && b2 && b3) from fun b1 b2 b3 => by simp [ex3, hed]]
    rw [decide_eq_true q4] at kf
    subst q1
    clear hb hE hed q4
    generalize allL x.t0.l = A0 at a0 n0 ⊢
    generalize allL x.t1.l = A1 at a1 n1 ⊢
    generalize allL x.t2.l = A2 at a2 n2 ⊢
    refine Ct.enterV (by rfl) Tryz.func42 rfl Tryz.ntmps42 rfl (fun w0 Rest => ?_)
    (repeat' (first | refine zss ?_ | ((first | (with_reducible first | apply At.val | apply AtQ.val)); (exact pr_indexArr (k := 0) (by rfl) (by rfl) (by rfl) (by rfl) (by decide)); exact rfl) | refine zsM ?_ | ((with_reducible first | apply AtM1.callp | apply AtQ.callp | apply At.callp); kernel_rfl; exact rfl; exact rfl; exact kc) | ((with_reducible first | apply AtM1.cr | apply AtQ.cr | apply At.cr); exact rfl; exact rfl; exact fun _ hmm => k1 _ hmm; exact ztk; kernel_rfl) | ((with_reducible first | apply AtM1.cr | apply AtQ.cr | apply At.cr); exact rfl; exact rfl; exact fun _ hmm => k2 _ hmm; exact ztk; kernel_rfl) | ((with_reducible first | apply AtM1.cr | apply AtQ.cr | apply At.cr); exact rfl; exact rfl; exact fun _ hmm => k0 _ hmm; exact ztk; kernel_rfl) | ((with_reducible first | apply AtM1.cr | apply AtQ.cr | apply At.cr); exact rfl; exact rfl; exact fun _ hmm => kl _ hmm; exact ztk; kernel_rfl) | ((with_reducible first | apply AtM1.callp | apply AtQ.callp | apply At.callp); kernel_rfl; exact rfl; exact rfl; exact kf) | ((with_reducible apply At.box (d := 2)); exact rfl; exact rfl; exact rfl; intro b2) | ((with_reducible apply At.box (d := 3)); exact rfl; exact rfl; exact rfl; intro b3) | ((with_reducible apply At.alloc (d := 6)); exact rfl; exact rfl; intro b6) | ((with_reducible apply At.alloc (d := 10)); exact rfl; exact rfl; intro b10) | (refine zsp ?_ ?_ <;> (intro hc; (try simp only [zhcs, reduceCtorEq] at hc); (try (exfalso; first | (first | omega | exact absurd hc hl | exact absurd q2 hc | exact absurd q3 hc) | contradiction | omega | exact absurd rfl hc | exact absurd (by decide) hc))))))
    clear kc k1 k2 k0 kl kf q2 q3
    (refine At.loopk (σ := Nat) [2, 3] (fun s F0 => (8, .int .i64 (s : Int)) :: F0) (fun s => m) (fun s => .blk b3 53 x.cells :: .blk b2 25 k.cells :: Rest) (fun s => s ≤ 3 ∧ (0 < s → (A0.any fun y => decide (x.last / k.a ≤ y.w)) = false) ∧ (1 < s → (A1.any fun y => decide (x.last / k.b ≤ y.w)) = false) ∧ (2 < s → (A2.any fun y => decide (x.last / k.d ≤ y.w)) = false)) (fun s => 3 - s) 0 (by rfl) ?_ zsubs zml zente ?_)
    · exact ⟨Nat.zero_le _, fun h => absurd h (by decide), fun h => absurd h (by decide), fun h => absurd h (by decide)⟩
    rintro s ⟨hs, e0, e1, e2⟩
    rcases (show s = 0 ∨ s = 1 ∨ s = 2 ∨ s = 3 by omega) with rfl | rfl | rfl | rfl
    · (repeat' (first | refine zss ?_ | ((first | (with_reducible first | apply At.val | apply AtQ.val)); (exact pr_indexArr (k := 0) (by rfl) (by rfl) (by rfl) (by rfl) (by decide)); exact rfl) | refine zsM ?_ | ((with_reducible first | apply At.c1 | apply At.c0); exact rfl; exact rfl; exact a0 _ (Mem.le_refl _); exact ztk; kernel_rfl; rintro v' m' B' hm' ⟨rfl, p', c', rfl, sl9⟩; (try replace sl9 := sl9.mono hm'); (try (have hq0 : hm' = Mem.le_refl _ := rfl; clear hq0 hm'))) | ((with_reducible apply At.box (d := 2)); exact rfl; exact rfl; exact rfl; intro b2) | ((with_reducible apply At.box (d := 3)); exact rfl; exact rfl; exact rfl; intro b3) | ((with_reducible apply At.alloc (d := 6)); exact rfl; exact rfl; intro b6) | ((with_reducible apply At.alloc (d := 10)); exact rfl; exact rfl; intro b10) | (refine zsp ?_ ?_ <;> (intro hc; (try simp only [zhcs, reduceCtorEq] at hc); (try (exfalso; first | omega | contradiction | omega | exact absurd rfl hc | exact absurd (by decide) hc))))))
      (refine At.loopk (σ := Nat) [2, 3, 8, 106, 107] (fun s F0 => (108, .int .i64 (s : Int)) :: F0) (fun s => m') (fun s => .blk b3 53 x.cells :: .blk b2 25 k.cells :: Rest) (fun s => s ≤ A0.length ∧ ∀ i, i < s → ¬ x.last / k.a ≤ A0[i]!.w) (fun s => A0.length - s) 0 (by rfl) ?_ zsubs zml zente ?_)
      · exact ⟨Nat.zero_le _, fun i hi => absurd hi (Nat.not_lt_zero i)⟩
      rintro i ⟨hi0, hn⟩
      have fq : IntKind.wrap .i64 (x.last.tdiv k.a) = x.last / k.a := IntWalk.i64_quo _ _ (by omega)
      by_cases hi : i < A0.length
      · by_cases g : x.last / k.a ≤ A0[i]!.w
        · rw [if_neg (by rw [any_yes hi g]; simp)]
          obtain ⟨r, hr⟩ : ∃ r, x.last / k.a = r := ⟨_, rfl⟩
          rw [hr] at fq g
          clear e0 e1 e2 hn hr
          (repeat' (first | refine zss ?_ | ((first | (with_reducible first | apply At.val | apply AtQ.val)); (first | exact pr_indexArr (k := 0) (by rfl) (by rfl) (by rfl) (by rfl) (by decide) | exact pr_quo (by rfl) (by rfl) (by omega) fq); exact rfl) | refine zsM ?_ | ((with_reducible apply At.box (d := 2)); exact rfl; exact rfl; exact rfl; intro b2) | ((with_reducible apply At.box (d := 3)); exact rfl; exact rfl; exact rfl; intro b3) | ((with_reducible apply At.alloc (d := 6)); exact rfl; exact rfl; intro b6) | ((with_reducible apply At.alloc (d := 10)); exact rfl; exact rfl; intro b10) | (refine zsp ?_ ?_ <;> (intro hc; (try simp only [zhcs, reduceCtorEq] at hc); (try (exfalso; first | omega | contradiction | omega | exact absurd rfl hc | exact absurd (by decide) hc))))))
          all_goals ((with_reducible apply At.retB1 (B := [])); exact rfl; exact rfl; exact zml; exact zkp; exact ⟨rfl, rfl⟩)
        · have hnn : ∀ q, q < i + 1 → ¬ x.last / k.a ≤ A0[q]!.w := fun q hq => by
            by_cases e : q = i
            · subst e; exact g
            · exact hn q (by omega)
          obtain ⟨r, hr⟩ : ∃ r, x.last / k.a = r := ⟨_, rfl⟩
          rw [hr] at fq g
          clear e0 e1 e2 hn hr
          (repeat' (first | refine zss ?_ | ((first | (with_reducible first | apply At.val | apply AtQ.val)); (first | exact pr_indexArr (k := 0) (by rfl) (by rfl) (by rfl) (by rfl) (by decide) | exact pr_quo (by rfl) (by rfl) (by omega) fq); exact rfl) | refine zsM ?_ | ((with_reducible apply At.box (d := 2)); exact rfl; exact rfl; exact rfl; intro b2) | ((with_reducible apply At.box (d := 3)); exact rfl; exact rfl; exact rfl; intro b3) | ((with_reducible apply At.alloc (d := 6)); exact rfl; exact rfl; intro b6) | ((with_reducible apply At.alloc (d := 10)); exact rfl; exact rfl; intro b10) | (refine zsp ?_ ?_ <;> (intro hc; (try simp only [zhcs, reduceCtorEq] at hc); (try (exfalso; first | omega | contradiction | omega | exact absurd rfl hc | exact absurd (by decide) hc))))))
          all_goals ((with_reducible refine At.reachk ((i + 1)) ?_ ?_ ?_ ?_); exact zsubs; exact zml; exact zente; exact ⟨⟨hi, hnn⟩, by omega⟩)
      · (repeat' (first | refine zss ?_ | refine zsM ?_ | ((with_reducible apply At.box (d := 2)); exact rfl; exact rfl; exact rfl; intro b2) | ((with_reducible apply At.box (d := 3)); exact rfl; exact rfl; exact rfl; intro b3) | ((with_reducible apply At.alloc (d := 6)); exact rfl; exact rfl; intro b6) | ((with_reducible apply At.alloc (d := 10)); exact rfl; exact rfl; intro b10) | (refine zsp ?_ ?_ <;> (intro hc; (try simp only [zhcs, reduceCtorEq] at hc); (try (exfalso; first | omega | contradiction | omega | exact absurd rfl hc | exact absurd (by decide) hc))))))
        all_goals ((with_reducible refine At.reachk (1) ?_ ?_ ?_ ?_); exact zsubs; exact zml; exact zente; exact ⟨⟨by decide, fun _ => any_no (fun k hk => hn k (by omega)), fun h => absurd h (by decide), fun h => absurd h (by decide)⟩, by decide⟩)
    · (repeat' (first | refine zss ?_ | ((first | (with_reducible first | apply At.val | apply AtQ.val)); (exact pr_indexArr (k := 1) (by rfl) (by rfl) (by rfl) (by rfl) (by decide)); exact rfl) | refine zsM ?_ | ((with_reducible first | apply At.c1 | apply At.c0); exact rfl; exact rfl; exact a1 _ (Mem.le_refl _); exact ztk; kernel_rfl; rintro v' m' B' hm' ⟨rfl, p', c', rfl, sl9⟩; (try replace sl9 := sl9.mono hm'); (try (have hq0 : hm' = Mem.le_refl _ := rfl; clear hq0 hm'))) | ((with_reducible apply At.box (d := 2)); exact rfl; exact rfl; exact rfl; intro b2) | ((with_reducible apply At.box (d := 3)); exact rfl; exact rfl; exact rfl; intro b3) | ((with_reducible apply At.alloc (d := 6)); exact rfl; exact rfl; intro b6) | ((with_reducible apply At.alloc (d := 10)); exact rfl; exact rfl; intro b10) | (refine zsp ?_ ?_ <;> (intro hc; (try simp only [zhcs, reduceCtorEq] at hc); (try (exfalso; first | omega | contradiction | omega | exact absurd rfl hc | exact absurd (by decide) hc))))))
      (refine At.loopk (σ := Nat) [2, 3, 8, 106, 107] (fun s F0 => (108, .int .i64 (s : Int)) :: F0) (fun s => m') (fun s => .blk b3 53 x.cells :: .blk b2 25 k.cells :: Rest) (fun s => s ≤ A1.length ∧ ∀ i, i < s → ¬ x.last / k.b ≤ A1[i]!.w) (fun s => A1.length - s) 0 (by rfl) ?_ zsubs zml zente ?_)
      · exact ⟨Nat.zero_le _, fun i hi => absurd hi (Nat.not_lt_zero i)⟩
      rintro i ⟨hi0, hn⟩
      have fq : IntKind.wrap .i64 (x.last.tdiv k.b) = x.last / k.b := IntWalk.i64_quo _ _ (by omega)
      by_cases hi : i < A1.length
      · by_cases g : x.last / k.b ≤ A1[i]!.w
        · rw [if_neg (by rw [any_yes hi g]; simp)]
          obtain ⟨r, hr⟩ : ∃ r, x.last / k.b = r := ⟨_, rfl⟩
          rw [hr] at fq g
          clear e0 e1 e2 hn hr
          (repeat' (first | refine zss ?_ | ((first | (with_reducible first | apply At.val | apply AtQ.val)); (first | exact pr_indexArr (k := 1) (by rfl) (by rfl) (by rfl) (by rfl) (by decide) | exact pr_quo (by rfl) (by rfl) (by omega) fq); exact rfl) | refine zsM ?_ | ((with_reducible apply At.box (d := 2)); exact rfl; exact rfl; exact rfl; intro b2) | ((with_reducible apply At.box (d := 3)); exact rfl; exact rfl; exact rfl; intro b3) | ((with_reducible apply At.alloc (d := 6)); exact rfl; exact rfl; intro b6) | ((with_reducible apply At.alloc (d := 10)); exact rfl; exact rfl; intro b10) | (refine zsp ?_ ?_ <;> (intro hc; (try simp only [zhcs, reduceCtorEq] at hc); (try (exfalso; first | omega | contradiction | omega | exact absurd rfl hc | exact absurd (by decide) hc))))))
          all_goals ((with_reducible apply At.retB1 (B := [])); exact rfl; exact rfl; exact zml; exact zkp; exact ⟨rfl, rfl⟩)
        · have hnn : ∀ q, q < i + 1 → ¬ x.last / k.b ≤ A1[q]!.w := fun q hq => by
            by_cases e : q = i
            · subst e; exact g
            · exact hn q (by omega)
          obtain ⟨r, hr⟩ : ∃ r, x.last / k.b = r := ⟨_, rfl⟩
          rw [hr] at fq g
          clear e0 e1 e2 hn hr
          (repeat' (first | refine zss ?_ | ((first | (with_reducible first | apply At.val | apply AtQ.val)); (first | exact pr_indexArr (k := 1) (by rfl) (by rfl) (by rfl) (by rfl) (by decide) | exact pr_quo (by rfl) (by rfl) (by omega) fq); exact rfl) | refine zsM ?_ | ((with_reducible apply At.box (d := 2)); exact rfl; exact rfl; exact rfl; intro b2) | ((with_reducible apply At.box (d := 3)); exact rfl; exact rfl; exact rfl; intro b3) | ((with_reducible apply At.alloc (d := 6)); exact rfl; exact rfl; intro b6) | ((with_reducible apply At.alloc (d := 10)); exact rfl; exact rfl; intro b10) | (refine zsp ?_ ?_ <;> (intro hc; (try simp only [zhcs, reduceCtorEq] at hc); (try (exfalso; first | omega | contradiction | omega | exact absurd rfl hc | exact absurd (by decide) hc))))))
          all_goals ((with_reducible refine At.reachk ((i + 1)) ?_ ?_ ?_ ?_); exact zsubs; exact zml; exact zente; exact ⟨⟨hi, hnn⟩, by omega⟩)
      · (repeat' (first | refine zss ?_ | refine zsM ?_ | ((with_reducible apply At.box (d := 2)); exact rfl; exact rfl; exact rfl; intro b2) | ((with_reducible apply At.box (d := 3)); exact rfl; exact rfl; exact rfl; intro b3) | ((with_reducible apply At.alloc (d := 6)); exact rfl; exact rfl; intro b6) | ((with_reducible apply At.alloc (d := 10)); exact rfl; exact rfl; intro b10) | (refine zsp ?_ ?_ <;> (intro hc; (try simp only [zhcs, reduceCtorEq] at hc); (try (exfalso; first | omega | contradiction | omega | exact absurd rfl hc | exact absurd (by decide) hc))))))
        all_goals ((with_reducible refine At.reachk (2) ?_ ?_ ?_ ?_); exact zsubs; exact zml; exact zente; exact ⟨⟨by decide, fun _ => e0 (by decide), fun _ => any_no (fun k hk => hn k (by omega)), fun h => absurd h (by decide)⟩, by decide⟩)
    · (repeat' (first | refine zss ?_ | ((first | (with_reducible first | apply At.val | apply AtQ.val)); (exact pr_indexArr (k := 2) (by rfl) (by rfl) (by rfl) (by rfl) (by decide)); exact rfl) | refine zsM ?_ | ((with_reducible first | apply At.c1 | apply At.c0); exact rfl; exact rfl; exact a2 _ (Mem.le_refl _); exact ztk; kernel_rfl; rintro v' m' B' hm' ⟨rfl, p', c', rfl, sl9⟩; (try replace sl9 := sl9.mono hm'); (try (have hq0 : hm' = Mem.le_refl _ := rfl; clear hq0 hm'))) | ((with_reducible apply At.box (d := 2)); exact rfl; exact rfl; exact rfl; intro b2) | ((with_reducible apply At.box (d := 3)); exact rfl; exact rfl; exact rfl; intro b3) | ((with_reducible apply At.alloc (d := 6)); exact rfl; exact rfl; intro b6) | ((with_reducible apply At.alloc (d := 10)); exact rfl; exact rfl; intro b10) | (refine zsp ?_ ?_ <;> (intro hc; (try simp only [zhcs, reduceCtorEq] at hc); (try (exfalso; first | omega | contradiction | omega | exact absurd rfl hc | exact absurd (by decide) hc))))))
      (refine At.loopk (σ := Nat) [2, 3, 8, 106, 107] (fun s F0 => (108, .int .i64 (s : Int)) :: F0) (fun s => m') (fun s => .blk b3 53 x.cells :: .blk b2 25 k.cells :: Rest) (fun s => s ≤ A2.length ∧ ∀ i, i < s → ¬ x.last / k.d ≤ A2[i]!.w) (fun s => A2.length - s) 0 (by rfl) ?_ zsubs zml zente ?_)
      · exact ⟨Nat.zero_le _, fun i hi => absurd hi (Nat.not_lt_zero i)⟩
      rintro i ⟨hi0, hn⟩
      have fq : IntKind.wrap .i64 (x.last.tdiv k.d) = x.last / k.d := IntWalk.i64_quo _ _ (by omega)
      by_cases hi : i < A2.length
      · by_cases g : x.last / k.d ≤ A2[i]!.w
        · rw [if_neg (by rw [any_yes hi g]; simp)]
          obtain ⟨r, hr⟩ : ∃ r, x.last / k.d = r := ⟨_, rfl⟩
          rw [hr] at fq g
          clear e0 e1 e2 hn hr
          (repeat' (first | refine zss ?_ | ((first | (with_reducible first | apply At.val | apply AtQ.val)); (first | exact pr_indexArr (k := 2) (by rfl) (by rfl) (by rfl) (by rfl) (by decide) | exact pr_quo (by rfl) (by rfl) (by omega) fq); exact rfl) | refine zsM ?_ | ((with_reducible apply At.box (d := 2)); exact rfl; exact rfl; exact rfl; intro b2) | ((with_reducible apply At.box (d := 3)); exact rfl; exact rfl; exact rfl; intro b3) | ((with_reducible apply At.alloc (d := 6)); exact rfl; exact rfl; intro b6) | ((with_reducible apply At.alloc (d := 10)); exact rfl; exact rfl; intro b10) | (refine zsp ?_ ?_ <;> (intro hc; (try simp only [zhcs, reduceCtorEq] at hc); (try (exfalso; first | omega | contradiction | omega | exact absurd rfl hc | exact absurd (by decide) hc))))))
          all_goals ((with_reducible apply At.retB1 (B := [])); exact rfl; exact rfl; exact zml; exact zkp; exact ⟨rfl, rfl⟩)
        · have hnn : ∀ q, q < i + 1 → ¬ x.last / k.d ≤ A2[q]!.w := fun q hq => by
            by_cases e : q = i
            · subst e; exact g
            · exact hn q (by omega)
          obtain ⟨r, hr⟩ : ∃ r, x.last / k.d = r := ⟨_, rfl⟩
          rw [hr] at fq g
          clear e0 e1 e2 hn hr
          (repeat' (first | refine zss ?_ | ((first | (with_reducible first | apply At.val | apply AtQ.val)); (first | exact pr_indexArr (k := 2) (by rfl) (by rfl) (by rfl) (by rfl) (by decide) | exact pr_quo (by rfl) (by rfl) (by omega) fq); exact rfl) | refine zsM ?_ | ((with_reducible apply At.box (d := 2)); exact rfl; exact rfl; exact rfl; intro b2) | ((with_reducible apply At.box (d := 3)); exact rfl; exact rfl; exact rfl; intro b3) | ((with_reducible apply At.alloc (d := 6)); exact rfl; exact rfl; intro b6) | ((with_reducible apply At.alloc (d := 10)); exact rfl; exact rfl; intro b10) | (refine zsp ?_ ?_ <;> (intro hc; (try simp only [zhcs, reduceCtorEq] at hc); (try (exfalso; first | omega | contradiction | omega | exact absurd rfl hc | exact absurd (by decide) hc))))))
          all_goals ((with_reducible refine At.reachk ((i + 1)) ?_ ?_ ?_ ?_); exact zsubs; exact zml; exact zente; exact ⟨⟨hi, hnn⟩, by omega⟩)
      · (repeat' (first | refine zss ?_ | refine zsM ?_ | ((with_reducible apply At.box (d := 2)); exact rfl; exact rfl; exact rfl; intro b2) | ((with_reducible apply At.box (d := 3)); exact rfl; exact rfl; exact rfl; intro b3) | ((with_reducible apply At.alloc (d := 6)); exact rfl; exact rfl; intro b6) | ((with_reducible apply At.alloc (d := 10)); exact rfl; exact rfl; intro b10) | (refine zsp ?_ ?_ <;> (intro hc; (try simp only [zhcs, reduceCtorEq] at hc); (try (exfalso; first | omega | contradiction | omega | exact absurd rfl hc | exact absurd (by decide) hc))))))
        all_goals ((with_reducible refine At.reachk (3) ?_ ?_ ?_ ?_); exact zsubs; exact zml; exact zente; exact ⟨⟨by decide, fun _ => e0 (by decide), fun _ => e1 (by decide), fun _ => any_no (fun k hk => hn k (by omega))⟩, by decide⟩)
    · rw [if_pos (by rw [e0 (by decide), e1 (by decide), e2 (by decide)]; rfl)]
      clear e0 e1 e2
      (repeat' (first | refine zss ?_ | refine zsM ?_ | ((with_reducible apply At.box (d := 2)); exact rfl; exact rfl; exact rfl; intro b2) | ((with_reducible apply At.box (d := 3)); exact rfl; exact rfl; exact rfl; intro b3) | ((with_reducible apply At.alloc (d := 6)); exact rfl; exact rfl; intro b6) | ((with_reducible apply At.alloc (d := 10)); exact rfl; exact rfl; intro b10) | (refine zsp ?_ ?_ <;> (intro hc; (try simp only [zhcs, reduceCtorEq] at hc); (try (exfalso; first | omega | contradiction | omega | exact absurd rfl hc | exact absurd (by decide) hc))))))
      all_goals ((with_reducible apply At.retB1 (B := [])); exact rfl; exact rfl; exact zml; exact zkp; exact ⟨rfl, rfl⟩)
end Ds
end Go.Proofs.YtecifniognbomaaGreat
/- Rules: what may be written, and where. -/
set_option linter.unusedSimpArgs false
set_option linter.unusedVariables false
set_option linter.unusedSectionVars false
set_option maxRecDepth 20000
set_option maxHeartbeats 4000000
namespace Go.Proofs.YtecifniognbomaaGreat
open Go Go.J
attribute [local irreducible] At AtQ AtM AtM1 PR Ct Pu Rd Res.blk Res.own Res.ex RVs RV
namespace Ru
open Se Win St
theorem fstO_spec {n k : Nat} {q : Nat → Bool} (h : fstO n q = some k) : k < n ∧ q k = true ∧ ∀ j, j < k → q j = false := by
  unfold fstO at h
  rw [List.find?_range_eq_some] at h
  exact ⟨List.mem_range.1 h.2.1, h.1, fun j hj => by have := h.2.2 j hj; simpa using this⟩
theorem fstO_none {n : Nat} {q : Nat → Bool} (h : fstO n q = none) (i : Nat) (hi : i < n) : q i = false := by
  unfold fstO at h
  rw [List.find?_eq_none] at h
  have := h i (List.mem_range.2 hi)
  simpa using this
def toB (u : Sta) : Int := min (mk u + u.k.a) 35184372088832
def opA (u : Sta) : Int := if okU u then mk u else 0
def opB (u : Sta) : Int := if okU u then toB u else 0
/-- whether, and where, an event may be written: the place, whether it is a new series', and why not -/
def whr (u : Sta) (l : List Lab) (e : Ev) : Int × Bool × Int :=
  if ¬ okU u then (0, false, 2) else if ¬ Lb.right l then (0, false, 8) else if ¬ e.ok then (0, false, 2)
  else if e.T < mk u ∨ toB u ≤ e.T then (0, false, 9)
  else match fstO u.pl.l.length (fnd u l) with
    | some i => if e.T ≤ u.pl.l[i]!.last then (0, false, 9) else ((i : Int), false, 0)
    | none => if e.S then (0, false, 3) else match fstO u.pl.l.length (roo u) with
      | some i => ((i : Int), true, 0)
      | none => (0, false, 7)
abbrev whv (w : Int × Bool × Int) : Value := .tuple #[.int .i64 w.1, .bool w.2.1, .int .i64 w.2.2]
end Ru
end Go.Proofs.YtecifniognbomaaGreat

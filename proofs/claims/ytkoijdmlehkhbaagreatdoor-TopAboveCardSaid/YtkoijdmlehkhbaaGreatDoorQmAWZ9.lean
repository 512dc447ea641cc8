/- Part 9 of what the law's proof needs: rules of the walk, contracts of functions, plain laws. No condition. -/
import Derived.Test.YtkoijdmlehkhbaaGreatDoorQmAWZ8
import Derived.Test.YtkoijdmlehkhbaaGreatDoorRows
set_option linter.unusedSimpArgs false
set_option linter.unusedVariables false
set_option linter.unusedSectionVars false
set_option maxRecDepth 20000
set_option maxHeartbeats 4000000
namespace Go.Proofs.YtkoijdmlehkhbaaGreatDoor
open Go Go.J
attribute [local irreducible] At AtQ AtM AtM1 PR Ct Pu Rd Res.blk Res.own Res.ex RVs RV
namespace Se
open Win
/-- nothing was put yet -/
def frs (x : Ser) : Bool := ex3 (decide (x.raw.l.length = 0 ∧ x.op = Slot.z)) (!bhd x.t0.l 0) (!bhd x.t1.l 0) (!bhd x.t2.l 0) 3
abbrev kb (b : Nat) (k : Cfg) (x : Ser) : List Res := [.blk b 142 (k.cells ++ x.cells)]
set_option maxRecDepth 100000 in
theorem fresh {m : Mem} (b : Nat) (k : Cfg) (x : Ser) (ho : x.Ok m) : Ct Tryz.prog 117 #[pt b] m (kb b k x) (fun v m' B => v = .bool (frs x) ∧ m = m' ∧ B = kb b k x) := by
  obtain ⟨sl0, sl1, sl2, sl3, sl4, -, -, -, -, -, -, -, hr, h0, h1, h2, -⟩ := ho
  have k0 := fun (m' : Mem) (h : m.le m') => behind x.t0.p x.t0.c x.t0.l 0 h0 (sl2.mono h)
  have k1 := fun (m' : Mem) (h : m.le m') => behind x.t1.p x.t1.c x.t1.l 0 h1 (sl3.mono h)
  have k2 := fun (m' : Mem) (h : m.le m') => behind x.t2.p x.t2.c x.t2.l 0 h2 (sl4.mono h)
  unfold frs
  generalize bhd x.t0.l 0 = q0 at k0 ⊢
  generalize bhd x.t1.l 0 = q1 at k1 ⊢
  generalize bhd x.t2.l 0 = q2 at k2 ⊢
  refine Ct.enterV (by rfl) Tryz.func117 rfl Tryz.ntmps117 rfl (fun w0 Rest => ?_)
  (repeat' (first | (refine At.cutp (id := 1) (x.raw.l.length = 0 ∧ x.op = Slot.z) 3 [0] (by rfl) ?_ ?_) | refine zss ?_ | ((first | (with_reducible first | apply At.val | apply AtQ.val)); (exact Ti.pr_sleq (b := Slot.z) (by rfl) (by rfl)); exact rfl) | refine zsM ?_ | ((with_reducible apply At.endp); exact rfl; exact zsubs; exact zml; exact zente; (first | (simp_all; done) | (simp_all <;> omega))) | (refine zsp ?_ ?_ <;> (intro hc; (try simp only [zhcs, reduceCtorEq] at hc); (try (exfalso; first | omega | contradiction | omega | exact absurd rfl hc | exact absurd (by decide) hc))))))
  generalize decide (x.raw.l.length = 0 ∧ x.op = Slot.z) = b0
  (refine At.loopk (σ := DS) [27] (fun s F0 => (28, .int .i64 (s.j : Int)) :: (3, .bool s.q) :: F0) (fun s => m) (fun s => .blk b 142 (k.cells ++ x.cells) :: Rest) (fun s => s.j ≤ 3 ∧ s.q = ex3 b0 (!q0) (!q1) (!q2) s.j) (fun s => 3 - s.j) ⟨0, b0⟩ (by rfl) ?_ zsubs zml zente ?_)
  · exact ⟨Nat.zero_le _, rfl⟩
  rintro ⟨j, q⟩ ⟨hs, e⟩
  dsimp only at hs e ⊢
  rcases (show j = 0 ∨ j = 1 ∨ j = 2 ∨ j = 3 by omega) with rfl | rfl | rfl | rfl
  · replace e : q = b0 := e
    cases q
    · (repeat' (first | refine zss ?_ | ((first | (with_reducible first | apply At.val | apply AtQ.val)); (exact pr_index_agg (k := 0) (by rfl) (by rfl) (by rfl) (by rfl) (by rfl) (by rfl) (by rfl)); exact rfl) | refine zsM ?_ | (refine zsp ?_ ?_ <;> (intro hc; (try simp only [zhcs, reduceCtorEq] at hc); (try (exfalso; first | (first | omega | exact absurd rfl hc) | contradiction | omega | exact absurd rfl hc | exact absurd (by decide) hc))))))
      all_goals ((with_reducible refine At.reachk (⟨1, false⟩) ?_ ?_ ?_ ?_); exact zsubs; exact zml; exact zente; exact ⟨⟨(by decide : 1 ≤ 3), by show false = (b0 && !q0); rw [← e]; rfl⟩, (by decide : 3 - 1 < 3 - 0)⟩)
    · (repeat' (first | refine zss ?_ | ((first | (with_reducible first | apply At.val | apply AtQ.val)); (exact pr_index_agg (k := 0) (by rfl) (by rfl) (by rfl) (by rfl) (by rfl) (by rfl) (by rfl)); exact rfl) | refine zsM ?_ | ((with_reducible first | apply AtM1.cr | apply AtQ.cr | apply At.cr); exact rfl; exact rfl; exact fun _ hmm => k0 _ hmm; exact ztk; kernel_rfl) | (refine zsp ?_ ?_ <;> (intro hc; (try simp only [zhcs, reduceCtorEq] at hc); (try (exfalso; first | (first | omega | exact absurd rfl hc) | contradiction | omega | exact absurd rfl hc | exact absurd (by decide) hc))))))
      all_goals ((with_reducible refine At.reachk (⟨1, !q0⟩) ?_ ?_ ?_ ?_); exact zsubs; exact zml; exact zente; exact ⟨⟨(by decide : 1 ≤ 3), by show (!q0) = (b0 && !q0); rw [← e]; rfl⟩, (by decide : 3 - 1 < 3 - 0)⟩)
  · replace e : q = (b0 && !q0) := e
    cases q
    · (repeat' (first | refine zss ?_ | ((first | (with_reducible first | apply At.val | apply AtQ.val)); (exact pr_index_agg (k := 1) (by rfl) (by rfl) (by rfl) (by rfl) (by rfl) (by rfl) (by rfl)); exact rfl) | refine zsM ?_ | (refine zsp ?_ ?_ <;> (intro hc; (try simp only [zhcs, reduceCtorEq] at hc); (try (exfalso; first | (first | omega | exact absurd rfl hc) | contradiction | omega | exact absurd rfl hc | exact absurd (by decide) hc))))))
      all_goals ((with_reducible refine At.reachk (⟨2, false⟩) ?_ ?_ ?_ ?_); exact zsubs; exact zml; exact zente; exact ⟨⟨(by decide : 2 ≤ 3), by show false = (b0 && !q0 && !q1); rw [← e]; rfl⟩, (by decide : 3 - 2 < 3 - 1)⟩)
    · (repeat' (first | refine zss ?_ | ((first | (with_reducible first | apply At.val | apply AtQ.val)); (exact pr_index_agg (k := 1) (by rfl) (by rfl) (by rfl) (by rfl) (by rfl) (by rfl) (by rfl)); exact rfl) | refine zsM ?_ | ((with_reducible first | apply AtM1.cr | apply AtQ.cr | apply At.cr); exact rfl; exact rfl; exact fun _ hmm => k1 _ hmm; exact ztk; kernel_rfl) | (refine zsp ?_ ?_ <;> (intro hc; (try simp only [zhcs, reduceCtorEq] at hc); (try (exfalso; first | (first | omega | exact absurd rfl hc) | contradiction | omega | exact absurd rfl hc | exact absurd (by decide) hc))))))
      all_goals ((with_reducible refine At.reachk (⟨2, !q1⟩) ?_ ?_ ?_ ?_); exact zsubs; exact zml; exact zente; exact ⟨⟨(by decide : 2 ≤ 3), by show (!q1) = (b0 && !q0 && !q1); rw [← e]; rfl⟩, (by decide : 3 - 2 < 3 - 1)⟩)
  · replace e : q = (b0 && !q0 && !q1) := e
    cases q
    · (repeat' (first | refine zss ?_ | ((first | (with_reducible first | apply At.val | apply AtQ.val)); (exact pr_index_agg (k := 2) (by rfl) (by rfl) (by rfl) (by rfl) (by rfl) (by rfl) (by rfl)); exact rfl) | refine zsM ?_ | (refine zsp ?_ ?_ <;> (intro hc; (try simp only [zhcs, reduceCtorEq] at hc); (try (exfalso; first | (first | omega | exact absurd rfl hc) | contradiction | omega | exact absurd rfl hc | exact absurd (by decide) hc))))))
      all_goals ((with_reducible refine At.reachk (⟨3, false⟩) ?_ ?_ ?_ ?_); exact zsubs; exact zml; exact zente; exact ⟨⟨(by decide : 3 ≤ 3), by show false = (b0 && !q0 && !q1 && !q2); rw [← e]; rfl⟩, (by decide : 3 - 3 < 3 - 2)⟩)
    · (repeat' (first | refine zss ?_ | ((first | (with_reducible first | apply At.val | apply AtQ.val)); (exact pr_index_agg (k := 2) (by rfl) (by rfl) (by rfl) (by rfl) (by rfl) (by rfl) (by rfl)); exact rfl) | refine zsM ?_ | ((with_reducible first | apply AtM1.cr | apply AtQ.cr | apply At.cr); exact rfl; exact rfl; exact fun _ hmm => k2 _ hmm; exact ztk; kernel_rfl) | (refine zsp ?_ ?_ <;> (intro hc; (try simp only [zhcs, reduceCtorEq] at hc); (try (exfalso; first | (first | omega | exact absurd rfl hc) | contradiction | omega | exact absurd rfl hc | exact absurd (by decide) hc))))))
      all_goals ((with_reducible refine At.reachk (⟨3, !q2⟩) ?_ ?_ ?_ ?_); exact zsubs; exact zml; exact zente; exact ⟨⟨(by decide : 3 ≤ 3), by show (!q2) = (b0 && !q0 && !q1 && !q2); rw [← e]; rfl⟩, (by decide : 3 - 3 < 3 - 2)⟩)
  · replace e : q = (b0 && !q0 && !q1 && !q2) := e
    subst e
    (repeat' (first | refine zss ?_ | refine zsM ?_ | (refine zsp ?_ ?_ <;> (intro hc; (try simp only [zhcs, reduceCtorEq] at hc); (try (exfalso; first | (first | omega | exact absurd rfl hc) | contradiction | omega | exact absurd rfl hc | exact absurd (by decide) hc))))))
    all_goals ((with_reducible apply At.retB1 (B := kb b k x)); exact rfl; exact rfl; exact zml; exact zkp; exact ⟨rfl, rfl, rfl⟩)
/-- all ends with the last event -/
def edB (x : Ser) (k : Cfg) : Prop := Raw.lastE x.raw.l = 0 ∧ (Raw.lastV x.raw.l).T = x.last ∧ x.op.c.L.T = x.last ∧ Ti.fits x.op.c k.a x.op.w
instance (x : Ser) (k : Cfg) : Decidable (edB x k) := by unfold edB; infer_instance
def eds (x : Ser) (k : Cfg) : Bool := ex3 (decide (edB x k)) (!bhd x.t0.l (x.last / k.a)) (!bhd x.t1.l (x.last / k.b)) (!bhd x.t2.l (x.last / k.d)) 3
theorem last_pos {lost mark room : Int} {l : List Ev} (h : Raw.rk lost mark l room) (he : Raw.lastE l = 0) : 0 ≤ (Raw.lastV l).T ∧ (Raw.lastV l).T < 35184372088832 := by
  unfold Raw.lastE at he
  unfold Raw.lastV
  by_cases hz : l.length = 0
  · rw [if_pos hz] at he; exact absurd he (by decide)
  · rw [if_neg hz]
    have := h.2.1.1 (l.length - 1) (by omega)
    exact ⟨this.1, this.2.1⟩
set_option maxRecDepth 100000 in
theorem ends {m : Mem} (b : Nat) (k : Cfg) (x : Ser) (ho : x.Ok m) (hk : k.ok) (hr : Raw.rk x.lost x.mark x.raw.l k.r) : Ct Tryz.prog 118 #[pt b] m (kb b k x) (fun v m' B => v = .bool (eds x k) ∧ m = m' ∧ B = kb b k x) := by
  have hlp := last_pos hr
  obtain ⟨sl0, sl1, sl2, sl3, sl4, -, -, -, -, io, -, -, nr, h0, h1, h2, -⟩ := ho
  have hw0 := hk.ha
  have hw1 := hk.hb
  have hw2 := hk.hd
  clear hr hk
  have kl := fun (m' : Mem) (h : m.le m') => Raw.last x.lost x.mark x.raw.p x.raw.c x.raw.l nr (sl1.mono h)
  have kf := Ti.fitsT x.op.c k.a x.op.w io.2.1
  have k0 := fun (m' : Mem) (h : m.le m') => behind x.t0.p x.t0.c x.t0.l (x.last / k.a) h0 (sl2.mono h)
  have k1 := fun (m' : Mem) (h : m.le m') => behind x.t1.p x.t1.c x.t1.l (x.last / k.b) h1 (sl3.mono h)
  have k2 := fun (m' : Mem) (h : m.le m') => behind x.t2.p x.t2.c x.t2.l (x.last / k.d) h2 (sl4.mono h)
  unfold eds
  generalize bhd x.t0.l (x.last / k.a) = q0 at k0 ⊢
  generalize bhd x.t1.l (x.last / k.b) = q1 at k1 ⊢
  generalize bhd x.t2.l (x.last / k.d) = q2 at k2 ⊢
  have hb : edB x k → 0 ≤ x.last ∧ x.last < 35184372088832 := fun h => by rw [← h.2.1]; exact hlp h.1
  clear hlp io nr
  rw [show decide (edB x k) = decide (Raw.lastE x.raw.l = 0 ∧ (Raw.lastV x.raw.l).T = x.last ∧ x.op.c.L.T = x.last ∧ Ti.fits x.op.c k.a x.op.w) from decide_eq_decide.2 Iff.rfl]
  unfold edB at hb
  generalize Raw.lastE x.raw.l = le at kl hb ⊢
  generalize Raw.lastV x.raw.l = lv at kl hb ⊢
  refine Ct.enterV (by rfl) Tryz.func118 rfl Tryz.ntmps118 rfl (fun w0 Rest => ?_)
  (repeat' (first | (refine At.cutp (id := 2) (le = 0 ∧ lv.T = x.last ∧ x.op.c.L.T = x.last ∧ Ti.fits x.op.c k.a x.op.w) 5 [0] (by rfl) ?_ ?_) | refine zss ?_ | ((first | (with_reducible first | apply At.val | apply AtQ.val)); (exact pr_indexArr (k := 0) (by rfl) (by rfl) (by rfl) (by rfl) (by decide)); exact rfl) | refine zsM ?_ | ((with_reducible first | apply AtM1.cr | apply AtQ.cr | apply At.cr); exact rfl; exact rfl; exact fun _ hmm => kl _ hmm; exact ztk; kernel_rfl) | ((with_reducible first | apply AtM1.callp | apply AtQ.callp | apply At.callp); kernel_rfl; exact rfl; exact rfl; exact kf) | ((with_reducible apply At.endp); exact rfl; exact zsubs; exact zml; exact zente; (first | (simp_all; done) | (simp_all <;> omega))) | ((with_reducible apply At.alloc (d := 3)); exact rfl; exact rfl; intro b3) | (refine zsp ?_ ?_ <;> (intro hc; (try simp only [zhcs, reduceCtorEq] at hc); (try (exfalso; first | (first | omega | exact absurd rfl hc) | contradiction | omega | exact absurd rfl hc | exact absurd (by decide) hc))))))
  replace hb : decide (le = 0 ∧ lv.T = x.last ∧ x.op.c.L.T = x.last ∧ Ti.fits x.op.c k.a x.op.w) = true → 0 ≤ x.last ∧ x.last < 35184372088832 := fun h => hb (of_decide_eq_true h)
  generalize decide (le = 0 ∧ lv.T = x.last ∧ x.op.c.L.T = x.last ∧ Ti.fits x.op.c k.a x.op.w) = b0 at hb ⊢
  clear kl kf
  (refine At.loopk (σ := DS) [0, 70] (fun s F0 => (71, .int .i64 (s.j : Int)) :: (5, .bool s.q) :: F0) (fun s => m) (fun s => .blk b 142 (k.cells ++ x.cells) :: Rest) (fun s => s.j ≤ 3 ∧ s.q = ex3 b0 (!q0) (!q1) (!q2) s.j) (fun s => 3 - s.j) ⟨0, b0⟩ (by rfl) ?_ zsubs zml zente ?_)
  · exact ⟨Nat.zero_le _, rfl⟩
  rintro ⟨j, q⟩ ⟨hs, e⟩
  dsimp only at hs e ⊢
  rcases (show j = 0 ∨ j = 1 ∨ j = 2 ∨ j = 3 by omega) with rfl | rfl | rfl | rfl
  · replace e : q = b0 := e
    cases q
    · clear hb
      (repeat' (first | refine zss ?_ | ((first | (with_reducible first | apply At.val | apply AtQ.val)); (exact pr_index_agg (k := 0) (by rfl) (by rfl) (by rfl) (by rfl) (by rfl) (by rfl) (by rfl)); exact rfl) | refine zsM ?_ | ((with_reducible apply At.alloc (d := 3)); exact rfl; exact rfl; intro b3) | (refine zsp ?_ ?_ <;> (intro hc; (try simp only [zhcs, reduceCtorEq] at hc); (try (exfalso; first | (first | omega | exact absurd rfl hc) | contradiction | omega | exact absurd rfl hc | exact absurd (by decide) hc))))))
      all_goals ((with_reducible refine At.reachk (⟨1, false⟩) ?_ ?_ ?_ ?_); exact zsubs; exact zml; exact zente; exact ⟨⟨(by decide : 1 ≤ 3), by show false = (b0 && !q0); rw [← e]; rfl⟩, (by decide : 3 - 1 < 3 - 0)⟩)
    · have hp := hb (by cases b0 with | false => exact absurd e (by first | decide | (simp only [Bool.false_and]; decide)) | true => rfl)
      (repeat' (first | refine zss ?_ | ((first | (with_reducible first | apply At.val | apply AtQ.val)); (first | exact pr_index_agg (k := 0) (by rfl) (by rfl) (by rfl) (by rfl) (by rfl) (by rfl) (by rfl) | exact pr_indexArr (k := 0) (by rfl) (by rfl) (by rfl) (by rfl) (by decide)); exact rfl) | refine zsM ?_ | ((with_reducible first | apply AtM1.cr | apply AtQ.cr | apply At.cr); exact rfl; exact rfl; exact fun _ hmm => k0 _ hmm; exact ztk; kernel_rfl) | ((with_reducible apply At.alloc (d := 3)); exact rfl; exact rfl; intro b3) | (refine zsp ?_ ?_ <;> (intro hc; (try simp only [zhcs, reduceCtorEq] at hc); (try (exfalso; first | (first | omega | exact absurd rfl hc) | contradiction | omega | exact absurd rfl hc | exact absurd (by decide) hc))))))
      all_goals ((with_reducible refine At.reachk (⟨1, !q0⟩) ?_ ?_ ?_ ?_); exact zsubs; exact zml; exact zente; exact ⟨⟨(by decide : 1 ≤ 3), by show (!q0) = (b0 && !q0); rw [← e]; rfl⟩, (by decide : 3 - 1 < 3 - 0)⟩)
  · replace e : q = (b0 && !q0) := e
    cases q
    · clear hb
      (repeat' (first | refine zss ?_ | ((first | (with_reducible first | apply At.val | apply AtQ.val)); (exact pr_index_agg (k := 1) (by rfl) (by rfl) (by rfl) (by rfl) (by rfl) (by rfl) (by rfl)); exact rfl) | refine zsM ?_ | ((with_reducible apply At.alloc (d := 3)); exact rfl; exact rfl; intro b3) | (refine zsp ?_ ?_ <;> (intro hc; (try simp only [zhcs, reduceCtorEq] at hc); (try (exfalso; first | (first | omega | exact absurd rfl hc) | contradiction | omega | exact absurd rfl hc | exact absurd (by decide) hc))))))
      all_goals ((with_reducible refine At.reachk (⟨2, false⟩) ?_ ?_ ?_ ?_); exact zsubs; exact zml; exact zente; exact ⟨⟨(by decide : 2 ≤ 3), by show false = (b0 && !q0 && !q1); rw [← e]; rfl⟩, (by decide : 3 - 2 < 3 - 1)⟩)
    · have hp := hb (by cases b0 with | false => exact absurd e (by first | decide | (simp only [Bool.false_and]; decide)) | true => rfl)
      (repeat' (first | refine zss ?_ | ((first | (with_reducible first | apply At.val | apply AtQ.val)); (first | exact pr_index_agg (k := 1) (by rfl) (by rfl) (by rfl) (by rfl) (by rfl) (by rfl) (by rfl) | exact pr_indexArr (k := 1) (by rfl) (by rfl) (by rfl) (by rfl) (by decide)); exact rfl) | refine zsM ?_ | ((with_reducible first | apply AtM1.cr | apply AtQ.cr | apply At.cr); exact rfl; exact rfl; exact fun _ hmm => k1 _ hmm; exact ztk; kernel_rfl) | ((with_reducible apply At.alloc (d := 3)); exact rfl; exact rfl; intro b3) | (refine zsp ?_ ?_ <;> (intro hc; (try simp only [zhcs, reduceCtorEq] at hc); (try (exfalso; first | (first | omega | exact absurd rfl hc) | contradiction | omega | exact absurd rfl hc | exact absurd (by decide) hc))))))
      all_goals ((with_reducible refine At.reachk (⟨2, !q1⟩) ?_ ?_ ?_ ?_); exact zsubs; exact zml; exact zente; exact ⟨⟨(by decide : 2 ≤ 3), by show (!q1) = (b0 && !q0 && !q1); rw [← e]; rfl⟩, (by decide : 3 - 2 < 3 - 1)⟩)
  · replace e : q = (b0 && !q0 && !q1) := e
    cases q
    · clear hb
      (repeat' (first | refine zss ?_ | ((first | (with_reducible first | apply At.val | apply AtQ.val)); (exact pr_index_agg (k := 2) (by rfl) (by rfl) (by rfl) (by rfl) (by rfl) (by rfl) (by rfl)); exact rfl) | refine zsM ?_ | ((with_reducible apply At.alloc (d := 3)); exact rfl; exact rfl; intro b3) | (refine zsp ?_ ?_ <;> (intro hc; (try simp only [zhcs, reduceCtorEq] at hc); (try (exfalso; first | (first | omega | exact absurd rfl hc) | contradiction | omega | exact absurd rfl hc | exact absurd (by decide) hc))))))
      all_goals ((with_reducible refine At.reachk (⟨3, false⟩) ?_ ?_ ?_ ?_); exact zsubs; exact zml; exact zente; exact ⟨⟨(by decide : 3 ≤ 3), by show false = (b0 && !q0 && !q1 && !q2); rw [← e]; rfl⟩, (by decide : 3 - 3 < 3 - 2)⟩)
    · have hp := hb (by cases b0 with | false => exact absurd e (by first | decide | (simp only [Bool.false_and]; decide)) | true => rfl)
      (repeat' (first | refine zss ?_ | ((first | (with_reducible first | apply At.val | apply AtQ.val)); (first | exact pr_index_agg (k := 2) (by rfl) (by rfl) (by rfl) (by rfl) (by rfl) (by rfl) (by rfl) | exact pr_indexArr (k := 2) (by rfl) (by rfl) (by rfl) (by rfl) (by decide)); exact rfl) | refine zsM ?_ | ((with_reducible first | apply AtM1.cr | apply AtQ.cr | apply At.cr); exact rfl; exact rfl; exact fun _ hmm => k2 _ hmm; exact ztk; kernel_rfl) | ((with_reducible apply At.alloc (d := 3)); exact rfl; exact rfl; intro b3) | (refine zsp ?_ ?_ <;> (intro hc; (try simp only [zhcs, reduceCtorEq] at hc); (try (exfalso; first | (first | omega | exact absurd rfl hc) | contradiction | omega | exact absurd rfl hc | exact absurd (by decide) hc))))))
      all_goals ((with_reducible refine At.reachk (⟨3, !q2⟩) ?_ ?_ ?_ ?_); exact zsubs; exact zml; exact zente; exact ⟨⟨(by decide : 3 ≤ 3), by show (!q2) = (b0 && !q0 && !q1 && !q2); rw [← e]; rfl⟩, (by decide : 3 - 3 < 3 - 2)⟩)
  · replace e : q = (b0 && !q0 && !q1 && !q2) := e
    subst e
    clear hb
    (repeat' (first | refine zss ?_ | refine zsM ?_ | ((with_reducible apply At.alloc (d := 3)); exact rfl; exact rfl; intro b3) | (refine zsp ?_ ?_ <;> (intro hc; (try simp only [zhcs, reduceCtorEq] at hc); (try (exfalso; first | (first | omega | exact absurd rfl hc) | contradiction | omega | exact absurd rfl hc | exact absurd (by decide) hc))))))
    all_goals ((with_reducible apply At.retB1 (B := kb b k x)); exact rfl; exact rfl; exact zml; exact zkp; exact ⟨rfl, rfl, rfl⟩)
/-- a series is right -/
def sok (k : Cfg) (x : Ser) : Prop := fok k x.t0.l x.t1.l x.t2.l ∧ Lb.right x.lab.l ∧ Raw.rk x.lost x.mark x.raw.l k.r ∧ (if x.last = -1 then frs x = true else eds x k = true)
instance (k : Cfg) (x : Ser) : Decidable (sok k x) := by unfold sok; infer_instance
def schk (k : Cfg) (x : Ser) : Int := if sok k x then 0 else 2
set_option maxRecDepth 100000 in
theorem openS {m : Mem} (k : Cfg) (x : Ser) (ho : x.Ok m) : Ct Tryz.prog 61 #[k.v, x.v] m [] (fun v m' B => m = m' ∧ ((sok k x ∧ ∃ q, v = .tuple #[pt q, .int .i64 0] ∧ B = kb q k x) ∨ (¬ sok k x ∧ v = .tuple #[.pointer none, .int .i64 2] ∧ B = []))) := by
  have k0 := fun (m' : Mem) (h : m.le m') => checkF k x.t0 x.t1 x.t2 ho.n0 ho.n1 ho.n2 ho.i0 ho.i1 ho.i2 (ho.s0.mono h) (ho.s1.mono h) (ho.s2.mono h)
  have k1 := fun (m' : Mem) (h : m.le m') => Lb.check x.lab.p x.lab.c x.lab.l ho.ml (ho.sl.mono h)
  have k2 := fun (m' : Mem) (h : m.le m') => Raw.check x.lost x.mark x.raw.p x.raw.c x.raw.l k.r ho.nr (ho.sr.mono h)
  unfold fchk at k0
  unfold Lb.chk at k1
  unfold Raw.chkR at k2
  by_cases h0 : fok k x.t0.l x.t1.l x.t2.l
  rotate_left
  · rw [if_neg h0] at k0
    refine Ct.enterV (by rfl) Tryz.func61 rfl Tryz.ntmps61 rfl (fun w0 Rest => ?_)
    (repeat' (first | refine zss ?_ | refine zsM ?_ | ((with_reducible first | apply AtM1.cr | apply AtQ.cr | apply At.cr); exact rfl; exact rfl; exact fun _ hmm => k0 _ hmm; exact ztk; kernel_rfl) | ((with_reducible apply At.box (d := 2)); exact rfl; exact rfl; exact rfl; intro b2) | ((with_reducible apply At.box (d := 3)); exact rfl; exact rfl; exact rfl; intro b3) | ((with_reducible apply At.box (d := 29)); exact rfl; exact rfl; exact rfl; intro b29) | (refine zsp ?_ ?_ <;> (intro hc; (try simp only [zhcs, reduceCtorEq] at hc); (try (exfalso; first | omega | contradiction | omega | exact absurd rfl hc | exact absurd (by decide) hc))))))
    all_goals ((with_reducible apply At.retV (B := [])); exact rfl; (repeat' (first | exact RVs.nil | (with_reducible apply RVs.cons) | exact rv_tmp (by rfl) | exact rv_cellN (by rfl) (by repeat constructor) (by rfl) (by rfl) (by rfl) | exact rv_cell1 (by rfl) (by repeat constructor) (by rfl) (by rfl))); exact zml; exact zkp; exact ⟨rfl, .inr ⟨fun h => h0 h.1, rfl, rfl⟩⟩)
  rw [if_pos h0] at k0
  by_cases h1 : Lb.right x.lab.l
  rotate_left
  · rw [if_neg h1] at k1
    refine Ct.enterV (by rfl) Tryz.func61 rfl Tryz.ntmps61 rfl (fun w0 Rest => ?_)
    (repeat' (first | refine zss ?_ | refine zsM ?_ | ((with_reducible first | apply AtM1.cr | apply AtQ.cr | apply At.cr); exact rfl; exact rfl; exact fun _ hmm => k0 _ hmm; exact ztk; kernel_rfl) | ((with_reducible first | apply AtM1.cr | apply AtQ.cr | apply At.cr); exact rfl; exact rfl; exact fun _ hmm => k1 _ hmm; exact ztk; kernel_rfl) | ((with_reducible apply At.box (d := 2)); exact rfl; exact rfl; exact rfl; intro b2) | ((with_reducible apply At.box (d := 3)); exact rfl; exact rfl; exact rfl; intro b3) | ((with_reducible apply At.box (d := 29)); exact rfl; exact rfl; exact rfl; intro b29) | (refine zsp ?_ ?_ <;> (intro hc; (try simp only [zhcs, reduceCtorEq] at hc); (try (exfalso; first | omega | contradiction | omega | exact absurd rfl hc | exact absurd (by decide) hc))))))
    all_goals ((with_reducible apply At.retV (B := [])); exact rfl; (repeat' (first | exact RVs.nil | (with_reducible apply RVs.cons) | exact rv_tmp (by rfl) | exact rv_cellN (by rfl) (by repeat constructor) (by rfl) (by rfl) (by rfl) | exact rv_cell1 (by rfl) (by repeat constructor) (by rfl) (by rfl))); exact zml; exact zkp; exact ⟨rfl, .inr ⟨fun h => h1 h.2.1, rfl, rfl⟩⟩)
  rw [if_pos h1] at k1
  by_cases h2 : Raw.rk x.lost x.mark x.raw.l k.r
  rotate_left
  · rw [if_neg h2] at k2
    refine Ct.enterV (by rfl) Tryz.func61 rfl Tryz.ntmps61 rfl (fun w0 Rest => ?_)
    (repeat' (first | refine zss ?_ | refine zsM ?_ | ((with_reducible first | apply AtM1.cr | apply AtQ.cr | apply At.cr); exact rfl; exact rfl; exact fun _ hmm => k0 _ hmm; exact ztk; kernel_rfl) | ((with_reducible first | apply AtM1.cr | apply AtQ.cr | apply At.cr); exact rfl; exact rfl; exact fun _ hmm => k1 _ hmm; exact ztk; kernel_rfl) | ((with_reducible first | apply AtM1.cr | apply AtQ.cr | apply At.cr); exact rfl; exact rfl; exact fun _ hmm => k2 _ hmm; exact ztk; kernel_rfl) | ((with_reducible apply At.box (d := 2)); exact rfl; exact rfl; exact rfl; intro b2) | ((with_reducible apply At.box (d := 3)); exact rfl; exact rfl; exact rfl; intro b3) | ((with_reducible apply At.box (d := 29)); exact rfl; exact rfl; exact rfl; intro b29) | (refine zsp ?_ ?_ <;> (intro hc; (try simp only [zhcs, reduceCtorEq] at hc); (try (exfalso; first | omega | contradiction | omega | exact absurd rfl hc | exact absurd (by decide) hc))))))
    all_goals ((with_reducible apply At.retV (B := [])); exact rfl; (repeat' (first | exact RVs.nil | (with_reducible apply RVs.cons) | exact rv_tmp (by rfl) | exact rv_cellN (by rfl) (by repeat constructor) (by rfl) (by rfl) (by rfl) | exact rv_cell1 (by rfl) (by repeat constructor) (by rfl) (by rfl))); exact zml; exact zkp; exact ⟨rfl, .inr ⟨fun h => h2 h.2.2.1, rfl, rfl⟩⟩)
  rw [if_pos h2] at k2
  have hs : sok k x ↔ (if x.last = -1 then frs x = true else eds x k = true) := ⟨fun h => h.2.2.2, fun h => ⟨h0, h1, h2, h⟩⟩
  by_cases hl : x.last = -1
  · rw [if_pos hl] at hs
    have k3 := fun q => fresh q k x ho
    generalize frs x = f at k3 hs
    cases f
    · refine Ct.enterV (by rfl) Tryz.func61 rfl Tryz.ntmps61 rfl (fun w0 Rest => ?_)
      (repeat' (first | refine zss ?_ | refine zsM ?_ | ((with_reducible first | apply AtM1.cr | apply AtQ.cr | apply At.cr); exact rfl; exact rfl; exact fun _ hmm => k0 _ hmm; exact ztk; kernel_rfl) | ((with_reducible first | apply AtM1.cr | apply AtQ.cr | apply At.cr); exact rfl; exact rfl; exact fun _ hmm => k1 _ hmm; exact ztk; kernel_rfl) | ((with_reducible first | apply AtM1.cr | apply AtQ.cr | apply At.cr); exact rfl; exact rfl; exact fun _ hmm => k2 _ hmm; exact ztk; kernel_rfl) | ((with_reducible first | apply At.c1 | apply At.c0); exact rfl; exact rfl; exact k3 _; exact ztk; kernel_rfl; rintro v' m' B' hm' ⟨rfl, rfl, rfl⟩; skip; (try (have hq0 : hm' = Mem.le_refl _ := rfl; clear hq0 hm'))) | ((with_reducible apply At.box (d := 2)); exact rfl; exact rfl; exact rfl; intro b2) | ((with_reducible apply At.box (d := 3)); exact rfl; exact rfl; exact rfl; intro b3) | ((with_reducible apply At.box (d := 29)); exact rfl; exact rfl; exact rfl; intro b29) | (refine zsp ?_ ?_ <;> (intro hc; (try simp only [zhcs, reduceCtorEq] at hc); (try (exfalso; first | (first | omega | exact absurd hl hc) | contradiction | omega | exact absurd rfl hc | exact absurd (by decide) hc))))))
      all_goals ((with_reducible apply At.retV (B := [])); exact rfl; (repeat' (first | exact RVs.nil | (with_reducible apply RVs.cons) | exact rv_tmp (by rfl) | exact rv_cellN (by rfl) (by repeat constructor) (by rfl) (by rfl) (by rfl) | exact rv_cell1 (by rfl) (by repeat constructor) (by rfl) (by rfl))); exact zml; exact zkp; exact ⟨rfl, .inr ⟨fun h => absurd (hs.1 h) (by decide), rfl, rfl⟩⟩)
    · refine Ct.enterV (by rfl) Tryz.func61 rfl Tryz.ntmps61 rfl (fun w0 Rest => ?_)
      (repeat' (first | refine zss ?_ | refine zsM ?_ | ((with_reducible first | apply AtM1.cr | apply AtQ.cr | apply At.cr); exact rfl; exact rfl; exact fun _ hmm => k0 _ hmm; exact ztk; kernel_rfl) | ((with_reducible first | apply AtM1.cr | apply AtQ.cr | apply At.cr); exact rfl; exact rfl; exact fun _ hmm => k1 _ hmm; exact ztk; kernel_rfl) | ((with_reducible first | apply AtM1.cr | apply AtQ.cr | apply At.cr); exact rfl; exact rfl; exact fun _ hmm => k2 _ hmm; exact ztk; kernel_rfl) | ((with_reducible first | apply At.c1 | apply At.c0); exact rfl; exact rfl; exact k3 _; exact ztk; kernel_rfl; rintro v' m' B' hm' ⟨rfl, rfl, rfl⟩; skip; (try (have hq0 : hm' = Mem.le_refl _ := rfl; clear hq0 hm'))) | ((with_reducible apply At.box (d := 2)); exact rfl; exact rfl; exact rfl; intro b2) | ((with_reducible apply At.box (d := 3)); exact rfl; exact rfl; exact rfl; intro b3) | ((with_reducible apply At.box (d := 29)); exact rfl; exact rfl; exact rfl; intro b29) | (refine zsp ?_ ?_ <;> (intro hc; (try simp only [zhcs, reduceCtorEq] at hc); (try (exfalso; first | (first | omega | exact absurd hl hc) | contradiction | omega | exact absurd rfl hc | exact absurd (by decide) hc))))))
      all_goals ((with_reducible apply At.retV (B := kb b29 k x)); exact rfl; (repeat' (first | exact RVs.nil | (with_reducible apply RVs.cons) | exact rv_tmp (by rfl) | exact rv_cellN (by rfl) (by repeat constructor) (by rfl) (by rfl) (by rfl) | exact rv_cell1 (by rfl) (by repeat constructor) (by rfl) (by rfl))); exact zml; exact zkp; exact ⟨rfl, .inl ⟨hs.2 rfl, b29, rfl, rfl⟩⟩)
  · rw [if_neg hl] at hs
    have k3 := fun q => ends q k x ho h0.1 h2
    generalize eds x k = f at k3 hs
    cases f
    · refine Ct.enterV (by rfl) Tryz.func61 rfl Tryz.ntmps61 rfl (fun w0 Rest => ?_)
      (repeat' (first | refine zss ?_ | refine zsM ?_ | ((with_reducible first | apply AtM1.cr | apply AtQ.cr | apply At.cr); exact rfl; exact rfl; exact fun _ hmm => k0 _ hmm; exact ztk; kernel_rfl) | ((with_reducible first | apply AtM1.cr | apply AtQ.cr | apply At.cr); exact rfl; exact rfl; exact fun _ hmm => k1 _ hmm; exact ztk; kernel_rfl) | ((with_reducible first | apply AtM1.cr | apply AtQ.cr | apply At.cr); exact rfl; exact rfl; exact fun _ hmm => k2 _ hmm; exact ztk; kernel_rfl) | ((with_reducible first | apply At.c1 | apply At.c0); exact rfl; exact rfl; exact k3 _; exact ztk; kernel_rfl; rintro v' m' B' hm' ⟨rfl, rfl, rfl⟩; skip; (try (have hq0 : hm' = Mem.le_refl _ := rfl; clear hq0 hm'))) | ((with_reducible apply At.box (d := 2)); exact rfl; exact rfl; exact rfl; intro b2) | ((with_reducible apply At.box (d := 3)); exact rfl; exact rfl; exact rfl; intro b3) | ((with_reducible apply At.box (d := 29)); exact rfl; exact rfl; exact rfl; intro b29) | (refine zsp ?_ ?_ <;> (intro hc; (try simp only [zhcs, reduceCtorEq] at hc); (try (exfalso; first | (first | omega | exact absurd hc hl) | contradiction | omega | exact absurd rfl hc | exact absurd (by decide) hc))))))
      all_goals ((with_reducible apply At.retV (B := [])); exact rfl; (repeat' (first | exact RVs.nil | (with_reducible apply RVs.cons) | exact rv_tmp (by rfl) | exact rv_cellN (by rfl) (by repeat constructor) (by rfl) (by rfl) (by rfl) | exact rv_cell1 (by rfl) (by repeat constructor) (by rfl) (by rfl))); exact zml; exact zkp; exact ⟨rfl, .inr ⟨fun h => absurd (hs.1 h) (by decide), rfl, rfl⟩⟩)
    · refine Ct.enterV (by rfl) Tryz.func61 rfl Tryz.ntmps61 rfl (fun w0 Rest => ?_)
      (repeat' (first | refine zss ?_ | refine zsM ?_ | ((with_reducible first | apply AtM1.cr | apply AtQ.cr | apply At.cr); exact rfl; exact rfl; exact fun _ hmm => k0 _ hmm; exact ztk; kernel_rfl) | ((with_reducible first | apply AtM1.cr | apply AtQ.cr | apply At.cr); exact rfl; exact rfl; exact fun _ hmm => k1 _ hmm; exact ztk; kernel_rfl) | ((with_reducible first | apply AtM1.cr | apply AtQ.cr | apply At.cr); exact rfl; exact rfl; exact fun _ hmm => k2 _ hmm; exact ztk; kernel_rfl) | ((with_reducible first | apply At.c1 | apply At.c0); exact rfl; exact rfl; exact k3 _; exact ztk; kernel_rfl; rintro v' m' B' hm' ⟨rfl, rfl, rfl⟩; skip; (try (have hq0 : hm' = Mem.le_refl _ := rfl; clear hq0 hm'))) | ((with_reducible apply At.box (d := 2)); exact rfl; exact rfl; exact rfl; intro b2) | ((with_reducible apply At.box (d := 3)); exact rfl; exact rfl; exact rfl; intro b3) | ((with_reducible apply At.box (d := 29)); exact rfl; exact rfl; exact rfl; intro b29) | (refine zsp ?_ ?_ <;> (intro hc; (try simp only [zhcs, reduceCtorEq] at hc); (try (exfalso; first | (first | omega | exact absurd hc hl) | contradiction | omega | exact absurd rfl hc | exact absurd (by decide) hc))))))
      all_goals ((with_reducible apply At.retV (B := kb b29 k x)); exact rfl; (repeat' (first | exact RVs.nil | (with_reducible apply RVs.cons) | exact rv_tmp (by rfl) | exact rv_cellN (by rfl) (by repeat constructor) (by rfl) (by rfl) (by rfl) | exact rv_cell1 (by rfl) (by repeat constructor) (by rfl) (by rfl))); exact zml; exact zkp; exact ⟨rfl, .inl ⟨hs.2 rfl, b29, rfl, rfl⟩⟩)
theorem checkS {m : Mem} (k : Cfg) (x : Ser) (ho : x.Ok m) : Rd Tryz.prog 83 #[k.v, x.v] m [] (.int .i64 (schk k x)) := by
  unfold Rd
  have k0 := openS k x ho
  unfold schk
  refine Ct.enterV (by rfl) Tryz.func83 rfl Tryz.ntmps83 rfl (fun w0 Rest => ?_)
  (repeat' (first | refine zss ?_ | refine zsM ?_ | ((with_reducible first | apply At.c1 | apply At.c0); exact rfl; exact rfl; exact k0; exact ztk; kernel_rfl; rintro v' m' B' hm' ⟨rfl, hv⟩; skip; (try (have hq0 : hm' = Mem.le_refl _ := rfl; clear hq0 hm'))) | (rcases hv with ⟨hv, q', rfl, rfl⟩ | ⟨hv, rfl, rfl⟩) | ((with_reducible apply At.box (d := 2)); exact rfl; exact rfl; exact rfl; intro b2) | ((with_reducible apply At.box (d := 3)); exact rfl; exact rfl; exact rfl; intro b3) | (refine zsp ?_ ?_ <;> (intro hc; (try simp only [zhcs, reduceCtorEq] at hc); (try (exfalso; first | contradiction | omega | exact absurd rfl hc | exact absurd (by decide) hc))))))
  · rw [if_pos hv]
    ((with_reducible apply At.retB1 (B := [])); exact rfl; exact rfl; exact zml; exact zkp; exact ⟨rfl, rfl, rfl⟩)
  · rw [if_neg hv]
    ((with_reducible apply At.retB1 (B := [])); exact rfl; exact rfl; exact zml; exact zkp; exact ⟨rfl, rfl, rfl⟩)
end Se
end Go.Proofs.YtkoijdmlehkhbaaGreatDoor
namespace Go.Proofs.YtkoijdmlehkhbaaGreatDoor
open Go Go.J
attribute [local irreducible] At AtQ AtM AtM1 PR Ct Pu Rd Res.blk Res.own Res.ex
namespace RingE
abbrev Elt := Ev
abbrev val (x : Elt) : Value := x.v
abbrev fi : Elt → List Value := Ev.cells
abbrev rc (b room : Nat) (p : Option Addr) (ln c fr : Nat) (lost : Int) : Res := .blk b 289 [.int .i64 room, .slice p ln c, .int .i64 fr, .int .u64 lost]
abbrev rr (b room : Nat) (p : Option Addr) (c fr : Nat) (lost : Int) (l : List Elt) : List Res := [rc b room p l.length c fr lost, .own fi 4 57 p c l]
structure St where
  p : Option Addr
  c : Nat
  fr : Nat
  l : List Elt
def inv (room : Nat) (cont : List Elt) (s : St) : Prop := s.l.length ≤ room ∧ (s.l.length < room → s.fr = 0) ∧ (s.fr < s.l.length ∨ s.fr = 0) ∧ cont = s.l.drop s.fr ++ s.l.take s.fr
def putC (room : Nat) (cont : List Elt) (x : Elt) : List Elt := if cont.length < room then cont ++ [x] else cont.drop 1 ++ [x]
/-- a ring, by what it has -/
def R (b room : Nat) (lost : Int) (cont : List Elt) : Res := .ex (inv room cont) (fun s => rr b room s.p s.c s.fr lost s.l)
theorem inv.len {room : Nat} {cont : List Elt} {s : St} (h : inv room cont s) : s.l.length = cont.length := by
  obtain ⟨h1, h2, h3, rfl⟩ := h
  simp; omega
theorem rot_get {l : List Elt} {fr k : Nat} (hk : k < l.length) (hf : fr < l.length ∨ fr = 0) : l[(fr + k) % l.length]! = (l.drop fr ++ l.take fr)[k]! := by
  rw [List.getElem!_eq_getElem?_getD, List.getElem!_eq_getElem?_getD]
  congr 1
  by_cases h : fr + k < l.length
  · rw [Nat.mod_eq_of_lt h, List.getElem?_append_left (by simp; omega), List.getElem?_drop]
  · have : (fr + k) % l.length = fr + k - l.length := by
      rw [Nat.mod_eq_sub_mod (by omega), Nat.mod_eq_of_lt (by omega)]
    rw [this, List.getElem?_append_right (by simp; omega), List.getElem?_take, if_pos (by simp; omega)]
    congr 1; simp; omega
theorem rot_put {l : List Elt} {fr : Nat} {x : Elt} (hf : fr < l.length) : (l.set fr x).drop ((fr + 1) % l.length) ++ (l.set fr x).take ((fr + 1) % l.length) = (l.drop fr ++ l.take fr).drop 1 ++ [x] := by
  by_cases h : fr + 1 = l.length
  · rw [h, Nat.mod_self]
    apply List.ext_getElem?
    intro i
    have hd : (l.drop fr).length = 1 := by simp; omega
    rw [List.drop_append_of_le_length (by omega), List.drop_eq_nil_of_le (by omega : (l.drop fr).length ≤ 1)]
    simp only [List.drop_zero, List.take_zero, List.append_nil, List.nil_append]
    rw [List.getElem?_set]
    by_cases hi : fr = i
    · subst hi
      rw [if_pos rfl, if_pos hf, List.getElem?_append_right (by simp; omega)]
      simp [Nat.min_eq_left (Nat.le_of_lt hf)]
    · rw [if_neg hi]
      by_cases hi2 : i < fr
      · rw [List.getElem?_append_left (by simp; omega), List.getElem?_take, if_pos hi2]
      · rw [List.getElem?_eq_none (by omega), List.getElem?_eq_none (by simp; omega)]
  · have hlt : fr + 1 < l.length := by omega
    rw [Nat.mod_eq_of_lt hlt]
    rw [List.drop_append_of_le_length (by simp; omega), List.drop_drop, List.drop_set_of_lt (by omega)]
    rw [show (l.set fr x).take (fr + 1) = l.take fr ++ [x] from by
      rw [List.take_add_one, List.take_set_of_le (Nat.le_refl _)]; simp [hf]]
    rw [Nat.add_comm fr 1]; simp
abbrev ptr (b : Nat) : Value := .pointer (some ⟨b, 0, none⟩)
theorem ring_place {m : Mem} (b room : Nat) (p : Option Addr) (ln c fr : Nat) (lost : Int) (i : Nat) (h0 : 0 < ln) (h1 : ln ≤ 65536) (h2 : fr ≤ 65536) (h3 : i ≤ 65536) :
    Rd Tryz.prog 206 #[ptr b, .int .i64 (i : Int)] m [rc b room p ln c fr lost] (.int .i64 ((fr + i) % ln : Nat)) := by
  unfold Rd
  refine Ct.enterV (by rfl) Tryz.func206 rfl Tryz.ntmps206 rfl (fun w0 Rest => ?_)
  (repeat' (first | refine zss ?_ | refine zsO ?_ | (refine zsp ?_ ?_ <;> (intro hc; (try simp only [zhcs, reduceCtorEq] at hc); (try (exfalso; first | contradiction | omega | exact absurd rfl hc | exact absurd (by decide) hc))))))
  all_goals (refine At.ret1 rfl (by rfl) (Mem.le_refl _) ⟨?_, rfl, rfl⟩ (Ent.refl _))
  all_goals (congr 1)
theorem ring_put_lt {m : Mem} (b room : Nat) (p : Option Addr) (c fr : Nat) (lost : Int) (l : List Elt) (x : Elt) (h0 : l.length < room) (h1 : room ≤ 65536) :
    Ct Tryz.prog 171 #[ptr b, val x] m (rr b room p c fr lost l) (fun v m' B => v = .tuple #[Ev.z.v, .bool false] ∧ m = m' ∧ ∃ p' c', B = rr b room p' c' fr lost (l ++ [x])) := by
  refine Ct.enterV (by rfl) Tryz.func171 rfl Tryz.ntmps171 rfl (fun w0 Rest => ?_)
  (repeat' (first | ((with_reducible apply At.mixed (id := 3) 11 (.q 0 (.q 1 (.q 2 (.q 3 (.q 4 (.q 5 (.l 6 (.x 7 (.q 8 (.q 9 (.x 10 .done)))))))))))); exact rfl; kernel_rfl; kernel_rfl; kernel_rfl) | ((with_reducible apply At.mixed (id := 5) 12 (.q 0 (.q 1 (.q 2 (.q 3 (.q 4 (.q 5 (.q 6 (.q 7 (.q 8 (.q 9 (.l 10 (.x 11 .done))))))))))))); exact rfl; kernel_rfl; kernel_rfl; kernel_rfl) | ((with_reducible apply At.mixed (id := 6) 11 (.q 0 (.q 1 (.q 2 (.q 3 (.q 4 (.q 5 (.q 6 (.q 7 (.q 8 (.q 9 (.x 10 .done)))))))))))); exact rfl; kernel_rfl; kernel_rfl; kernel_rfl) | refine zsx ?_ | refine zss ?_ | ((with_reducible apply AtM.bo); exact rfl; exact rfl; exact rfl) | refine zsO ?_ | refine zxO ?_ | ((with_reducible apply At.lit fi [x]); exact inferInstance; (iterate 7 exact rfl); intro _) | ((with_reducible apply At.apW (f := fi)); exact rfl; exact rfl; exact (by repeat constructor); exact inferInstance; exact zrdl; (iterate 4 exact rfl); exact zom; exact rfl; intro _ _) | ((with_reducible apply At.box (d := 3)); exact rfl; exact rfl; exact rfl; intro b3) | ((with_reducible apply At.alloc (d := 4)); exact rfl; exact rfl; intro b4) | ((with_reducible apply At.alloc (d := 6)); exact rfl; exact rfl; intro b6) | ((with_reducible apply At.alloc (d := 7)); exact rfl; exact rfl; intro b7) | (refine zsp ?_ ?_ <;> (intro hc; (try simp only [zhcs, reduceCtorEq] at hc); (try (exfalso; first | contradiction | omega | exact absurd rfl hc | exact absurd (by decide) hc))))))
  all_goals ((with_reducible apply At.retV (B := rr b room _ _ fr lost (l ++ [x]))); exact rfl; (repeat' (first | exact RVs.nil | (with_reducible apply RVs.cons) | exact rv_tmp (by rfl) | exact rv_cellN (by rfl) (by repeat constructor) (by rfl) (by rfl) (by rfl) | exact rv_cell1 (by rfl) (by repeat constructor) (by rfl) (by rfl))); exact zml; exact zkp; exact ⟨rfl, rfl, _, _, rfl⟩)
theorem ring_put_ge {m : Mem} (b room : Nat) (p : Option Addr) (c fr : Nat) (lost : Int) (l : List Elt) (x : Elt) (h0 : ¬ l.length < room) (h1 : l.length ≤ 65536) (h2 : fr < l.length) (h3 : 0 ≤ lost ∧ lost ≤ 4611686018427387904) :
    Ct Tryz.prog 171 #[ptr b, val x] m (rr b room p c fr lost l) (fun v m' B => v = .tuple #[val l[fr]!, .bool true] ∧ m = m' ∧ B = rr b room p c ((fr + 1) % l.length) (lost + 1) (l.set fr x)) := by
  refine Ct.enterV (by rfl) Tryz.func171 rfl Tryz.ntmps171 rfl (fun w0 Rest => ?_)
  (repeat' (first | ((with_reducible apply At.mixed (id := 3) 11 (.q 0 (.q 1 (.q 2 (.q 3 (.q 4 (.q 5 (.l 6 (.x 7 (.q 8 (.q 9 (.x 10 .done)))))))))))); exact rfl; kernel_rfl; kernel_rfl; kernel_rfl) | ((with_reducible apply At.mixed (id := 5) 12 (.q 0 (.q 1 (.q 2 (.q 3 (.q 4 (.q 5 (.q 6 (.q 7 (.q 8 (.q 9 (.l 10 (.x 11 .done))))))))))))); exact rfl; kernel_rfl; kernel_rfl; kernel_rfl) | ((with_reducible apply At.mixed (id := 6) 11 (.q 0 (.q 1 (.q 2 (.q 3 (.q 4 (.q 5 (.q 6 (.q 7 (.q 8 (.q 9 (.x 10 .done)))))))))))); exact rfl; kernel_rfl; kernel_rfl; kernel_rfl) | refine zsx ?_ | refine zss ?_ | ((with_reducible apply AtM.bo); exact rfl; exact rfl; exact rfl) | refine zsO ?_ | refine zxO ?_ | ((with_reducible apply At.storeW (f := fi) (x' := x)); (case hx => exact rfl); (case hy => exact rfl); (case hv => exact rfl); (case hp => exact (by repeat constructor)); (case hr => exact rfl); (case hf => exact inferInstance); (case hk => exact zom); (case hs => exact rfl); (case hq => exact rfl); (case h1 => exact rfl)) | ((with_reducible first | apply AtM1.cr | apply AtQ.cr | apply At.cr); exact rfl; exact rfl; exact fun _ hmm => ring_place b room p l.length c fr lost 1 (by omega) (by omega) (by omega) (by omega); exact ztk; kernel_rfl) | ((with_reducible apply At.box (d := 3)); exact rfl; exact rfl; exact rfl; intro b3) | ((with_reducible apply At.alloc (d := 4)); exact rfl; exact rfl; intro b4) | ((with_reducible apply At.alloc (d := 6)); exact rfl; exact rfl; intro b6) | ((with_reducible apply At.alloc (d := 7)); exact rfl; exact rfl; intro b7) | (refine zsp ?_ ?_ <;> (intro hc; (try simp only [zhcs, reduceCtorEq] at hc); (try (exfalso; first | contradiction | omega | exact absurd rfl hc | exact absurd (by decide) hc))))))
  all_goals ((with_reducible apply At.retV (B := [rc b room p l.length c ((fr + 1) % l.length) (lost + 1), .own fi 4 57 p c (l.set fr x)])); exact rfl; (repeat' (first | exact RVs.nil | (with_reducible apply RVs.cons) | exact rv_tmp (by rfl) | exact rv_cellN (by rfl) (by repeat constructor) (by rfl) (by rfl) (by rfl) | exact rv_cell1 (by rfl) (by repeat constructor) (by rfl) (by rfl))); exact zml; exact zkp; exact ⟨rfl, rfl, by simp [rr]⟩)
theorem ring_all0 {m : Mem} (b room : Nat) (p : Option Addr) (c fr : Nat) (lost : Int) (l : List Elt) (h1 : l.length ≤ 65536) (h2 : fr ≤ l.length) :
    Ct Tryz.prog 172 #[ptr b] m (rr b room p c fr lost l) (fun v m' B => m = m' ∧ ∃ p' c', v = .slice p' (l.drop fr ++ l.take fr).length c' ∧ B = .own fi 4 57 p' c' (l.drop fr ++ l.take fr) :: rr b room p c fr lost l) := by
  have hl : ([] ++ List.drop fr (List.take l.length l) ++ List.drop 0 (List.take fr l)).length = l.length := by simp; omega
  have hl2 : ([] ++ List.drop fr (List.take l.length l) ++ List.drop 0 (List.take fr l)) = l.drop fr ++ l.take fr := by simp
  refine Ct.enterV (by rfl) Tryz.func172 rfl Tryz.ntmps172 rfl (fun w0 Rest => ?_)
  refine At.own_form (E := 57) (f := fi) (sz := 4) (p := p) (c := c) (l := l) (by repeat constructor) fun hne hle hbig => ?_
  (repeat' (first | ((with_reducible apply At.mixed (id := 2) 12 (.q 0 (.q 1 (.q 2 (.q 3 (.q 4 (.q 5 (.q 6 (.q 7 (.q 8 (.q 9 (.x 10 (.q 11 .done))))))))))))); exact rfl; kernel_rfl; kernel_rfl; kernel_rfl) | ((with_reducible apply At.mixed (id := 3) 12 (.q 0 (.q 1 (.q 2 (.q 3 (.q 4 (.q 5 (.q 6 (.q 7 (.q 8 (.q 9 (.x 10 (.q 11 .done))))))))))))); exact rfl; kernel_rfl; kernel_rfl; kernel_rfl) | refine zsx ?_ | refine zss ?_ | ((with_reducible apply AtM.bo); exact rfl; exact rfl; exact rfl) | refine zsO ?_ | refine zxO ?_ | ((with_reducible apply At.makeW (fi)); exact inferInstance; (iterate 5 exact rfl); exact zom; exact rfl; intro _) | ((with_reducible apply At.apW (f := fi)); exact rfl; exact rfl; exact (by repeat constructor); exact inferInstance; exact zrdl; (iterate 4 exact rfl); exact zom; exact rfl; intro _ _) | (refine zsp ?_ ?_ <;> (intro hc; (try simp only [zhcs, reduceCtorEq] at hc); (try (exfalso; first | contradiction | omega | exact absurd rfl hc | exact absurd (by decide) hc))))))
  all_goals ((with_reducible apply At.retB1 (B := .own fi 4 57 _ _ _ :: rr b room p c fr lost l)); exact rfl; exact rfl; exact zml; exact zkp; exact ⟨rfl, _, _, by rw [hl2], by rw [hl2]⟩)
theorem R.open {m : Mem} {f : FuncId} {args : Array Value} {b room : Nat} {lost : Int} {cont : List Elt} {Q : Value → Mem → List Res → Prop} (h : ∀ s : St, inv room cont s → Ct Tryz.prog f args m (rr b room s.p s.c s.fr lost s.l) Q) : Ct Tryz.prog f args m [R b room lost cont] Q :=
  Ct.openx fun s hs => by rw [List.append_nil]; exact h s hs
theorem R.close {b room : Nat} {lost : Int} {cont : List Elt} (s : St) (hs : inv room cont s) (Rest : List Res) : Ent (rr b room s.p s.c s.fr lost s.l ++ Rest) (R b room lost cont :: Rest) := Ent.closex (A := fun s => rr b room s.p s.c s.fr lost s.l) s hs
theorem ringPut {m : Mem} (b room : Nat) (lost : Int) (cont : List Elt) (x : Elt) (h0 : 1 ≤ room) (hr : room ≤ 65536) (h3 : 0 ≤ lost ∧ lost ≤ 4611686018427387904) :
    Ct Tryz.prog 171 #[ptr b, val x] m [R b room lost cont] (fun v m' B => v = (if cont.length < room then .tuple #[Ev.z.v, .bool false] else .tuple #[val cont[0]!, .bool true]) ∧ m = m' ∧
      B = [R b room (if cont.length < room then lost else lost + 1) (putC room cont x)]) :=
  R.open fun s hs => by
    have hl := hs.len
    obtain ⟨g1, g2, g3, g4⟩ := hs
    by_cases hlt : s.l.length < room
    · refine Ct.conv (ring_put_lt b room s.p s.c s.fr lost s.l x hlt hr) fun v m' B _ ⟨h1, h2, p', c', h4⟩ => ⟨_, ⟨by rw [if_pos (by omega)]; exact h1, h2, rfl⟩, fun Rest => ?_⟩
      subst h4
      have e0 := g2 hlt
      rw [if_pos (by omega)]
      refine R.close ⟨p', c', s.fr, s.l ++ [x]⟩ ⟨by simp; omega, fun _ => e0, .inr e0, ?_⟩ Rest
      unfold putC
      rw [if_pos (by omega), g4, e0]; simp
    · refine Ct.conv (ring_put_ge b room s.p s.c s.fr lost s.l x hlt (by omega) (by omega) h3) fun v m' B _ ⟨h1, h2, h4⟩ => ⟨_, ⟨?_, h2, rfl⟩, fun Rest => ?_⟩
      · rw [if_neg (by omega), h1]
        have := rot_get (l := s.l) (fr := s.fr) (k := 0) (by omega) g3
        rw [← g4, Nat.add_zero, Nat.mod_eq_of_lt (by omega)] at this
        rw [this]
      · subst h4
        rw [if_neg (by omega)]
        have hm := Nat.mod_lt (s.fr + 1) (show 0 < s.l.length by omega)
        refine R.close ⟨s.p, s.c, (s.fr + 1) % s.l.length, s.l.set s.fr x⟩ ⟨by simp; omega, fun h => by simp at h; omega, .inl (by simpa using hm), ?_⟩ Rest
        unfold putC
        rw [if_neg (by omega), g4]
        exact (rot_put (by omega)).symm
theorem ringAll {m : Mem} (b room : Nat) (lost : Int) (cont : List Elt) (hr : room ≤ 65536) :
    Ct Tryz.prog 172 #[ptr b] m [R b room lost cont] (fun v m' B => m = m' ∧ ∃ p' c', v = .slice p' cont.length c' ∧ B = [.own fi 4 57 p' c' cont, R b room lost cont]) :=
  R.open fun s hs => by
    have hs' := hs
    obtain ⟨g1, g2, g3, g4⟩ := hs'
    refine Ct.conv (ring_all0 b room s.p s.c s.fr lost s.l (by omega) (by omega)) fun v m' B _ ⟨h1, p', c', h2, h3⟩ => ⟨_, ⟨h1, p', c', by rw [g4]; exact h2, rfl⟩, fun Rest => ?_⟩
    subst h3
    rw [← g4]
    exact Ent.cons _ (R.close s hs Rest)
theorem ring_new0 {m : Mem} (room : Int) (hr : -9223372036854775808 ≤ room ∧ room ≤ 9223372036854775807) :
    Ct Tryz.prog 205 #[.int .i64 room] m [] (fun v m' B => m = m' ∧ ((1 ≤ room ∧ room ≤ 65536 ∧ ∃ b, v = .tuple #[ptr b, .int .i64 0] ∧ B = [.blk b 289 [.int .i64 room, .slice none 0 0, .int .i64 0, .int .u64 0]]) ∨ (¬ (1 ≤ room ∧ room ≤ 65536) ∧ v = .tuple #[.pointer none, .int .i64 1] ∧ B = []))) := by
  refine Ct.enterV (by rfl) Tryz.func205 rfl Tryz.ntmps205 rfl (fun w0 Rest => ?_)
  (repeat' (first | refine zss ?_ | refine zsO ?_ | ((with_reducible apply At.box (d := 12)); exact rfl; exact rfl; exact rfl; intro b12) | (refine zsp ?_ ?_ <;> (intro hc; (try simp only [zhcs, reduceCtorEq] at hc); (try (exfalso; first | contradiction | omega | exact absurd rfl hc | exact absurd (by decide) hc))))))
  all_goals first
    | ((with_reducible apply At.retB2 (B := [])); (iterate 3 exact rfl); exact zml; exact zkp; exact ⟨rfl, .inr ⟨by omega, rfl, rfl⟩⟩)
    | ((with_reducible apply At.retB2 (B := [.blk _ _ _])); (iterate 3 exact rfl); exact zml; exact zkp; exact ⟨rfl, .inl ⟨by omega, by omega, _, rfl, rfl⟩⟩)
theorem ringNew {m : Mem} (room : Int) (hr : -9223372036854775808 ≤ room ∧ room ≤ 9223372036854775807) :
    Ct Tryz.prog 205 #[.int .i64 room] m [] (fun v m' B => m = m' ∧ ((1 ≤ room ∧ room ≤ 65536 ∧ ∃ b, v = .tuple #[ptr b, .int .i64 0] ∧ B = [R b room.toNat 0 []]) ∨ (¬ (1 ≤ room ∧ room ≤ 65536) ∧ v = .tuple #[.pointer none, .int .i64 1] ∧ B = []))) :=
  Ct.conv (ring_new0 room hr) fun v m' B _ ⟨h1, h⟩ => by
    rcases h with ⟨h2, h3, b, h4, h5⟩ | ⟨h2, h3, h4⟩
    · refine ⟨_, ⟨h1, .inl ⟨h2, h3, b, h4, rfl⟩⟩, fun Rest => ?_⟩
      subst h5
      have e : ((room.toNat : Nat) : Int) = room := Int.toNat_of_nonneg (by omega)
      have := R.close (b := b) (room := room.toNat) (lost := 0) (cont := []) ⟨none, 0, 0, []⟩ ⟨by simp, fun _ => rfl, .inr rfl, by simp⟩ Rest
      simp only [rr, rc, e] at this
      exact (Ent.cons _ (own_nil_ent fi 4 57 Rest)).trans this
    · exact ⟨_, ⟨h1, .inr ⟨h2, h3, h4⟩⟩, fun Rest => by subst h4; exact Ent.refl _⟩
end RingE
end Go.Proofs.YtkoijdmlehkhbaaGreatDoor
namespace Go.Proofs.YtkoijdmlehkhbaaGreatDoor
open Go Go.J
attribute [local irreducible] At AtQ AtM AtM1 PR Ct Pu Rd Res.blk Res.own Res.ex RVs RV RingE.R
namespace Raw
open Ev Mrg
open RingE (ptr R)
theorem ringLt {m : Mem} (b room : Nat) (cont l : List Ev) (i : Nat) (hc : cont = l.take i) (hi : i < l.length) (hl : l.length ≤ room) (hr : room ≤ 65536) :
    Ct Tryz.prog 171 #[ptr b, (l[i]!).v] m [R b room 0 cont] (fun v m' B => v = .tuple #[Ev.z.v, .bool false] ∧ m = m' ∧ B = [R b room 0 (l.take (i + 1))]) := by
  subst hc
  have hlen : (l.take i).length < room := by rw [List.length_take]; omega
  refine (RingE.ringPut b room 0 (l.take i) (l[i]!) (by omega) hr ⟨by omega, by omega⟩).mono fun v m' B _ ⟨h1, h2, h3⟩ => ⟨?_, h2, ?_⟩
  · rw [h1, if_pos hlen]
  · rw [h3, if_pos hlen, RingE.putC, if_pos hlen, List.take_add_one, getElem!_pos l i hi, List.getElem?_eq_getElem hi]; rfl
theorem open_ {m : Mem} (p : Option Addr) (c : Nat) (l : List Ev) (room : Nat) (h1 : 1 ≤ room) (h2 : room ≤ 4096) (hl : l.length ≤ room) (sl0 : Sl m cells 4 p c l) :
    Ct Tryz.prog 170 #[.slice p l.length c, .int .i64 (room : Int)] m [] (fun v m' B => m = m' ∧ ∃ b, v = .tuple #[ptr b, .int .i64 0] ∧ B = [R b room 0 l]) := by
  have hn : Ct Tryz.prog 205 #[.int .i64 (room : Int)] m [] (fun v m' B => m = m' ∧ ∃ b, v = .tuple #[ptr b, .int .i64 0] ∧ B = [R b room 0 []]) :=
    (RingE.ringNew (m := m) (room : Int) (by omega)).mono fun v m' B _ ⟨g1, g2⟩ => by
      rcases g2 with ⟨_, _, b, g3, g4⟩ | ⟨g3, _⟩
      · exact ⟨g1, b, g3, by rw [g4]; rfl⟩
      · omega
  refine Ct.enterV (by rfl) Tryz.func170 rfl Tryz.ntmps170 rfl (fun w0 Rest => ?_)
  (repeat' (first | refine zss ?_ | refine zsM ?_ | ((with_reducible first | apply At.c1 | apply At.c0); exact rfl; exact rfl; exact hn; exact ztk; kernel_rfl; rintro v' m' B' hm' ⟨rfl, b, rfl, rfl⟩; (try replace sl0 := sl0.mono hm'); (try (have hq0 : hm' = Mem.le_refl _ := rfl; clear hq0 hm'))) | ((with_reducible apply At.alloc (d := 9)); exact rfl; exact rfl; intro b9) | (refine zsp ?_ ?_ <;> (intro hc; (try simp only [zhcs, reduceCtorEq] at hc); (try (exfalso; first | contradiction | omega | exact absurd rfl hc | exact absurd (by decide) hc))))))
  (refine At.loopk (σ := Nat) [6, 18, 19] (fun s F0 => (20, .int .i64 (s : Int)) :: F0) (fun s => m) (fun s => R b room 0 (l.take s) :: Rest) (fun s => s ≤ l.length) (fun s => l.length - s) 0 (by rfl) ?_ zsubs zml zente ?_)
  · exact Nat.zero_le _
  rintro s hs
  by_cases h : s < l.length
  · (repeat' (first | refine zss ?_ | refine zsM ?_ | ((with_reducible first | apply At.c1 | apply At.c0); exact rfl; exact rfl; exact ringLt b room _ l s rfl h hl (by omega); exact ztk; kernel_rfl; rintro v' m' B' hm' ⟨rfl, rfl, rfl⟩; (try replace sl0 := sl0.mono hm'); (try (have hq0 : hm' = Mem.le_refl _ := rfl; clear hq0 hm'))) | ((with_reducible apply At.alloc (d := 9)); exact rfl; exact rfl; intro b9) | (refine zsp ?_ ?_ <;> (intro hc; (try simp only [zhcs, reduceCtorEq] at hc); (try (exfalso; first | omega | contradiction | omega | exact absurd rfl hc | exact absurd (by decide) hc))))))
    all_goals ((with_reducible refine At.reachk ((s + 1)) ?_ ?_ ?_ ?_); exact zsubs; exact zml; exact zente; exact ⟨h, by omega⟩)
  · rw [show l.take s = l from List.take_of_length_le (by omega)]
    (repeat' (first | refine zss ?_ | refine zsM ?_ | ((with_reducible apply At.alloc (d := 9)); exact rfl; exact rfl; intro b9) | (refine zsp ?_ ?_ <;> (intro hc; (try simp only [zhcs, reduceCtorEq] at hc); (try (exfalso; first | omega | contradiction | omega | exact absurd rfl hc | exact absurd (by decide) hc))))))
    all_goals ((with_reducible apply At.retB2 (B := [R b room 0 l])); (iterate 3 exact rfl); exact zml; exact zkp; exact ⟨rfl, _, rfl, rfl⟩)
/-- what one more makes -/
def putE (lost mark : Int) (l : List Ev) (room : Int) (e : Ev) : Int :=
  if rk lost mark l room ∧ e.ok then (if l.length ≠ 0 ∧ ¬ (lastV l).T < e.T then 9 else if (l.length : Int) = room ∧ lost = 70368744177664 then 1 else 0) else 2
def putO (lost mark : Int) (l : List Ev) (room : Int) (e : Ev) : Int := if putE lost mark l room e = 0 then (if (l.length : Int) < room then lost else lost + 1) else 0
def putM (lost mark : Int) (l : List Ev) (room : Int) (e : Ev) : Int := if putE lost mark l room e = 0 then (if (l.length : Int) < room then mark else (l[0]!).T) else 0
def putL (lost mark : Int) (l : List Ev) (room : Int) (e : Ev) : List Ev := if putE lost mark l room e = 0 then (if (l.length : Int) < room then l ++ [e] else l.drop 1 ++ [e]) else []
/-- raw events, that stay, and an error -/
def PostR (lost mark : Int) (l : List Ev) (w : Int) : Value → Mem → List Res → Prop := fun v m' B => B = [] ∧ ∃ p c, v = .tuple #[rv lost mark p l.length c, .int .i64 w] ∧ Sl m' cells 4 p c l
theorem postr {g : FuncId} {args : Array Value} {m : Mem} {A : List Res} {o o' k k' : Int} {l l' : List Ev} {w w' : Int} (h : Ct Tryz.prog g args m A (PostR o k l w)) (e1 : o = o') (e2 : k = k') (e3 : l = l') (e4 : w = w') : Ct Tryz.prog g args m A (PostR o' k' l' w') := by
  subst e1 e2 e3 e4; exact h
theorem puterr {g : FuncId} {args : Array Value} {m : Mem} {A : List Res} {lost mark : Int} {l : List Ev} {room : Int} {e : Ev} {w : Int} (hE : putE lost mark l room e = w) (hw : w ≠ 0) (h : Ct Tryz.prog g args m A (PostR 0 0 [] w)) :
    Ct Tryz.prog g args m A (PostR (putO lost mark l room e) (putM lost mark l room e) (putL lost mark l room e) (putE lost mark l room e)) :=
  postr h (by unfold putO; rw [if_neg (by rw [hE]; exact hw)]) (by unfold putM; rw [if_neg (by rw [hE]; exact hw)]) (by unfold putL; rw [if_neg (by rw [hE]; exact hw)]) hE.symm
theorem lastV_ok {l : List Ev} (h : aok l) (hn : l.length ≠ 0) : (lastV l).ok := by
  unfold lastV; rw [if_neg hn]; exact h _ (by omega)
theorem put {m : Mem} (lost mark : Int) (p : Option Addr) (c : Nat) (l : List Ev) (room : Int) (e : Ev) (hl : l.length ≤ 1000000) (sl0 : Sl m cells 4 p c l) :
    Ct Tryz.prog 120 #[rv lost mark p l.length c, .int .i64 room, e.v] m [] (PostR (putO lost mark l room e) (putM lost mark l room e) (putL lost mark l room e) (putE lost mark l room e)) := by
  have hk : ∀ m', m.le m' → Rd Tryz.prog 116 #[rv lost mark p l.length c, .int .i64 room] m' [] (.int .i64 (chkR lost mark l room)) := fun m' hm => check lost mark p c l room hl (sl0.mono hm)
  have hj := Ev.check e
  have hf := Ev.follow (lastV l) e
  have hla : ∀ m', m.le m' → Rd Tryz.prog 164 #[rv lost mark p l.length c] m' [] (.tuple #[(lastV l).v, .int .i64 (lastE l)]) := fun m' hm => last lost mark p c l hl (sl0.mono hm)
  by_cases h1 : rk lost mark l room
  · rw [show chkR lost mark l room = 0 from if_pos h1] at hk
    by_cases h2 : e.ok
    · rw [show e.chk = 0 from if_pos h2] at hj
      by_cases h3 : l.length ≠ 0 ∧ ¬ (lastV l).T < e.T
      · refine puterr (w := 9) (by unfold putE; rw [if_pos ⟨h1, h2⟩, if_pos h3]) (by decide) ?_
        rw [show lastE l = 0 from if_neg h3.1] at hla
        rw [show fol (lastV l) e = false by unfold fol; rw [decide_eq_false h3.2, Bool.and_false]] at hf
        refine Ct.enterV (by rfl) Tryz.func120 rfl Tryz.ntmps120 rfl (fun w0 Rest => ?_)
        (repeat' (first | refine zss ?_ | refine zsM ?_ | ((with_reducible first | apply AtM1.cr | apply AtQ.cr | apply At.cr); exact rfl; exact rfl; exact fun _ hmm => hk _ hmm; exact ztk; kernel_rfl) | ((with_reducible first | apply AtM1.callp | apply AtQ.callp | apply At.callp); kernel_rfl; exact rfl; exact rfl; exact hj) | ((with_reducible first | apply AtM1.cr | apply AtQ.cr | apply At.cr); exact rfl; exact rfl; exact fun _ hmm => hla _ hmm; exact ztk; kernel_rfl) | ((with_reducible first | apply AtM1.callp | apply AtQ.callp | apply At.callp); kernel_rfl; exact rfl; exact rfl; exact hf) | ((with_reducible apply At.box (d := 3)); exact rfl; exact rfl; exact rfl; intro b3) | ((with_reducible apply At.box (d := 5)); exact rfl; exact rfl; exact rfl; intro b5) | ((with_reducible apply At.alloc (d := 6)); exact rfl; exact rfl; intro b6) | ((with_reducible apply At.alloc (d := 8)); exact rfl; exact rfl; intro b8) | ((with_reducible apply At.alloc (d := 11)); exact rfl; exact rfl; intro b11) | (refine zsp ?_ ?_ <;> (intro hc; (try simp only [zhcs, reduceCtorEq] at hc); (try (exfalso; first | omega | contradiction | omega | exact absurd rfl hc | exact absurd (by decide) hc))))))
        all_goals ((with_reducible apply At.retV (B := [])); exact rfl; (repeat' (first | exact RVs.nil | (with_reducible apply RVs.cons) | exact rv_tmp (by rfl) | exact rv_cellN (by rfl) (by repeat constructor) (by rfl) (by rfl) (by rfl) | exact rv_cell1 (by rfl) (by repeat constructor) (by rfl) (by rfl))); exact zml; exact zkp; exact ⟨rfl, none, 0, rfl, Sl.empty _ inferInstance⟩)
      · have hF : ∀ (q : Bool), lastE l = 0 → fol (lastV l) e = true := fun q hq => by
          have hn : l.length ≠ 0 := fun h => by unfold lastE at hq; rw [if_pos h] at hq; cases hq
          unfold fol
          rw [decide_eq_true (show two (lastV l) e from ⟨lastV_ok h1.2.1.1 hn, h2⟩), decide_eq_true (show (lastV l).T < e.T by
            by_cases h4 : (lastV l).T < e.T
            · exact h4
            · exact absurd ⟨hn, h4⟩ h3)]; rfl
        by_cases h4 : (l.length : Int) = room ∧ lost = 70368744177664
        · refine puterr (w := 1) (by unfold putE; rw [if_pos ⟨h1, h2⟩, if_neg h3, if_pos h4]) (by decide) ?_
          by_cases h0 : lastE l = 0
          · rw [hF true h0] at hf
            rw [h0] at hla
            refine Ct.enterV (by rfl) Tryz.func120 rfl Tryz.ntmps120 rfl (fun w0 Rest => ?_)
            (repeat' (first | refine zss ?_ | refine zsM ?_ | ((with_reducible first | apply AtM1.cr | apply AtQ.cr | apply At.cr); exact rfl; exact rfl; exact fun _ hmm => hk _ hmm; exact ztk; kernel_rfl) | ((with_reducible first | apply AtM1.callp | apply AtQ.callp | apply At.callp); kernel_rfl; exact rfl; exact rfl; exact hj) | ((with_reducible first | apply AtM1.cr | apply AtQ.cr | apply At.cr); exact rfl; exact rfl; exact fun _ hmm => hla _ hmm; exact ztk; kernel_rfl) | ((with_reducible first | apply AtM1.callp | apply AtQ.callp | apply At.callp); kernel_rfl; exact rfl; exact rfl; exact hf) | ((with_reducible apply At.box (d := 3)); exact rfl; exact rfl; exact rfl; intro b3) | ((with_reducible apply At.box (d := 5)); exact rfl; exact rfl; exact rfl; intro b5) | ((with_reducible apply At.alloc (d := 6)); exact rfl; exact rfl; intro b6) | ((with_reducible apply At.alloc (d := 8)); exact rfl; exact rfl; intro b8) | ((with_reducible apply At.alloc (d := 11)); exact rfl; exact rfl; intro b11) | (refine zsp ?_ ?_ <;> (intro hc; (try simp only [zhcs, reduceCtorEq] at hc); (try (exfalso; first | omega | contradiction | omega | exact absurd rfl hc | exact absurd (by decide) hc))))))
            all_goals ((with_reducible apply At.retV (B := [])); exact rfl; (repeat' (first | exact RVs.nil | (with_reducible apply RVs.cons) | exact rv_tmp (by rfl) | exact rv_cellN (by rfl) (by repeat constructor) (by rfl) (by rfl) (by rfl) | exact rv_cell1 (by rfl) (by repeat constructor) (by rfl) (by rfl))); exact zml; exact zkp; exact ⟨rfl, none, 0, rfl, Sl.empty _ inferInstance⟩)
          · rw [show lastE l = 3 by unfold lastE at h0 ⊢; split at h0 <;> simp_all] at hla
            refine Ct.enterV (by rfl) Tryz.func120 rfl Tryz.ntmps120 rfl (fun w0 Rest => ?_)
            (repeat' (first | refine zss ?_ | refine zsM ?_ | ((with_reducible first | apply AtM1.cr | apply AtQ.cr | apply At.cr); exact rfl; exact rfl; exact fun _ hmm => hk _ hmm; exact ztk; kernel_rfl) | ((with_reducible first | apply AtM1.callp | apply AtQ.callp | apply At.callp); kernel_rfl; exact rfl; exact rfl; exact hj) | ((with_reducible first | apply AtM1.cr | apply AtQ.cr | apply At.cr); exact rfl; exact rfl; exact fun _ hmm => hla _ hmm; exact ztk; kernel_rfl) | ((with_reducible first | apply AtM1.callp | apply AtQ.callp | apply At.callp); kernel_rfl; exact rfl; exact rfl; exact hf) | ((with_reducible apply At.box (d := 3)); exact rfl; exact rfl; exact rfl; intro b3) | ((with_reducible apply At.box (d := 5)); exact rfl; exact rfl; exact rfl; intro b5) | ((with_reducible apply At.alloc (d := 6)); exact rfl; exact rfl; intro b6) | ((with_reducible apply At.alloc (d := 8)); exact rfl; exact rfl; intro b8) | ((with_reducible apply At.alloc (d := 11)); exact rfl; exact rfl; intro b11) | (refine zsp ?_ ?_ <;> (intro hc; (try simp only [zhcs, reduceCtorEq] at hc); (try (exfalso; first | omega | contradiction | omega | exact absurd rfl hc | exact absurd (by decide) hc))))))
            all_goals ((with_reducible apply At.retV (B := [])); exact rfl; (repeat' (first | exact RVs.nil | (with_reducible apply RVs.cons) | exact rv_tmp (by rfl) | exact rv_cellN (by rfl) (by repeat constructor) (by rfl) (by rfl) (by rfl) | exact rv_cell1 (by rfl) (by repeat constructor) (by rfl) (by rfl))); exact zml; exact zkp; exact ⟨rfl, none, 0, rfl, Sl.empty _ inferInstance⟩)
        · have hE : putE lost mark l room e = 0 := by unfold putE; rw [if_pos ⟨h1, h2⟩, if_neg h3, if_neg h4]
          obtain ⟨hb, hr, hm⟩ := h1
          obtain ⟨b1, b2, b3, b4, b5⟩ := hb
          obtain ⟨n, rfl⟩ : ∃ n : Nat, room = n := ⟨room.toNat, by omega⟩
          have ho := open_ (m := m) p c l n (by omega) (by omega) (by omega) sl0
          have hA := fun (m : Mem) b lost cont => RingE.ringAll (m := m) b n lost cont (by omega)
          by_cases h5 : (l.length : Int) < n
          · refine postr (o := lost) (k := mark) (l := l ++ [e]) (w := 0) ?_ (by unfold putO; rw [if_pos hE, if_pos h5]) (by unfold putM; rw [if_pos hE, if_pos h5]) (by unfold putL; rw [if_pos hE, if_pos h5]) hE.symm
            have hP : ∀ b, Ct Tryz.prog 171 #[ptr b, e.v] m [R b n 0 l] (fun v m' B => v = .tuple #[Ev.z.v, .bool false] ∧ m = m' ∧ B = [R b n 0 (l ++ [e])]) := fun b =>
              (RingE.ringPut b n 0 l e (by omega) (by omega) ⟨by omega, by omega⟩).mono fun v m' B _ ⟨g1, g2, g3⟩ => ⟨by rw [g1, if_pos (by omega)], g2, by rw [g3, if_pos (by omega), RingE.putC, if_pos (by omega)]⟩
            by_cases h0 : lastE l = 0
            · rw [hF true h0] at hf
              rw [h0] at hla
              refine Ct.enterV (by rfl) Tryz.func120 rfl Tryz.ntmps120 rfl (fun w0 Rest => ?_)
              (repeat' (first | refine zss ?_ | refine zsM ?_ | ((with_reducible first | apply AtM1.cr | apply AtQ.cr | apply At.cr); exact rfl; exact rfl; exact fun _ hmm => hk _ hmm; exact ztk; kernel_rfl) | ((with_reducible first | apply AtM1.callp | apply AtQ.callp | apply At.callp); kernel_rfl; exact rfl; exact rfl; exact hj) | ((with_reducible first | apply AtM1.cr | apply AtQ.cr | apply At.cr); exact rfl; exact rfl; exact fun _ hmm => hla _ hmm; exact ztk; kernel_rfl) | ((with_reducible first | apply AtM1.callp | apply AtQ.callp | apply At.callp); kernel_rfl; exact rfl; exact rfl; exact hf) | ((with_reducible first | apply At.c1 | apply At.c0); exact rfl; exact rfl; exact ho; exact ztk; kernel_rfl; rintro v' m' B' hm' ⟨rfl, b, rfl, rfl⟩; (try replace sl0 := sl0.mono hm'); (try replace sl1 := sl1.mono hm'); (try (have hq0 : hm' = Mem.le_refl _ := rfl; clear hq0 hm'))) | ((with_reducible first | apply At.c1 | apply At.c0); exact rfl; exact rfl; exact hP _; exact ztk; kernel_rfl; rintro v' m' B' hm' ⟨rfl, rfl, rfl⟩; (try replace sl0 := sl0.mono hm'); (try replace sl1 := sl1.mono hm'); (try (have hq0 : hm' = Mem.le_refl _ := rfl; clear hq0 hm'))) | ((with_reducible first | apply At.c1 | apply At.c0); exact rfl; exact rfl; exact hA _ b 0 (l ++ [e]); exact ztk; kernel_rfl; rintro v' m' B' hm' ⟨rfl, p2, c2, rfl, rfl⟩; (try replace sl0 := sl0.mono hm'); (try replace sl1 := sl1.mono hm'); (try (have hq0 : hm' = Mem.le_refl _ := rfl; clear hq0 hm'))) | ((with_reducible apply At.box (d := 3)); exact rfl; exact rfl; exact rfl; intro b3) | ((with_reducible apply At.box (d := 5)); exact rfl; exact rfl; exact rfl; intro b5) | ((with_reducible apply At.alloc (d := 6)); exact rfl; exact rfl; intro b6) | ((with_reducible apply At.alloc (d := 8)); exact rfl; exact rfl; intro b8) | ((with_reducible apply At.alloc (d := 11)); exact rfl; exact rfl; intro b11) | (refine zsp ?_ ?_ <;> (intro hc; (try simp only [zhcs, reduceCtorEq] at hc); (try (exfalso; first | omega | contradiction | omega | exact absurd rfl hc | exact absurd (by decide) hc))))))
              all_goals (refine At.own_freeze inferInstance (by repeat constructor) fun m' hm' sl1 => ?_; (try replace sl0 := sl0.mono hm'))
              all_goals ((with_reducible apply At.retV (B := [])); exact rfl; (repeat' (first | exact RVs.nil | (with_reducible apply RVs.cons) | exact rv_tmp (by rfl) | exact rv_cellN (by rfl) (by repeat constructor) (by rfl) (by rfl) (by rfl) | exact rv_cell1 (by rfl) (by repeat constructor) (by rfl) (by rfl))); exact zml; exact zkp; exact ⟨rfl, _, _, rfl, sl1⟩)
            · rw [show lastE l = 3 by unfold lastE at h0 ⊢; split at h0 <;> simp_all] at hla
              refine Ct.enterV (by rfl) Tryz.func120 rfl Tryz.ntmps120 rfl (fun w0 Rest => ?_)
              (repeat' (first | refine zss ?_ | refine zsM ?_ | ((with_reducible first | apply AtM1.cr | apply AtQ.cr | apply At.cr); exact rfl; exact rfl; exact fun _ hmm => hk _ hmm; exact ztk; kernel_rfl) | ((with_reducible first | apply AtM1.callp | apply AtQ.callp | apply At.callp); kernel_rfl; exact rfl; exact rfl; exact hj) | ((with_reducible first | apply AtM1.cr | apply AtQ.cr | apply At.cr); exact rfl; exact rfl; exact fun _ hmm => hla _ hmm; exact ztk; kernel_rfl) | ((with_reducible first | apply AtM1.callp | apply AtQ.callp | apply At.callp); kernel_rfl; exact rfl; exact rfl; exact hf) | ((with_reducible first | apply At.c1 | apply At.c0); exact rfl; exact rfl; exact ho; exact ztk; kernel_rfl; rintro v' m' B' hm' ⟨rfl, b, rfl, rfl⟩; (try replace sl0 := sl0.mono hm'); (try replace sl1 := sl1.mono hm'); (try (have hq0 : hm' = Mem.le_refl _ := rfl; clear hq0 hm'))) | ((with_reducible first | apply At.c1 | apply At.c0); exact rfl; exact rfl; exact hP _; exact ztk; kernel_rfl; rintro v' m' B' hm' ⟨rfl, rfl, rfl⟩; (try replace sl0 := sl0.mono hm'); (try replace sl1 := sl1.mono hm'); (try (have hq0 : hm' = Mem.le_refl _ := rfl; clear hq0 hm'))) | ((with_reducible first | apply At.c1 | apply At.c0); exact rfl; exact rfl; exact hA _ b 0 (l ++ [e]); exact ztk; kernel_rfl; rintro v' m' B' hm' ⟨rfl, p2, c2, rfl, rfl⟩; (try replace sl0 := sl0.mono hm'); (try replace sl1 := sl1.mono hm'); (try (have hq0 : hm' = Mem.le_refl _ := rfl; clear hq0 hm'))) | ((with_reducible apply At.box (d := 3)); exact rfl; exact rfl; exact rfl; intro b3) | ((with_reducible apply At.box (d := 5)); exact rfl; exact rfl; exact rfl; intro b5) | ((with_reducible apply At.alloc (d := 6)); exact rfl; exact rfl; intro b6) | ((with_reducible apply At.alloc (d := 8)); exact rfl; exact rfl; intro b8) | ((with_reducible apply At.alloc (d := 11)); exact rfl; exact rfl; intro b11) | (refine zsp ?_ ?_ <;> (intro hc; (try simp only [zhcs, reduceCtorEq] at hc); (try (exfalso; first | omega | contradiction | omega | exact absurd rfl hc | exact absurd (by decide) hc))))))
              all_goals (refine At.own_freeze inferInstance (by repeat constructor) fun m' hm' sl1 => ?_; (try replace sl0 := sl0.mono hm'))
              all_goals ((with_reducible apply At.retV (B := [])); exact rfl; (repeat' (first | exact RVs.nil | (with_reducible apply RVs.cons) | exact rv_tmp (by rfl) | exact rv_cellN (by rfl) (by repeat constructor) (by rfl) (by rfl) (by rfl) | exact rv_cell1 (by rfl) (by repeat constructor) (by rfl) (by rfl))); exact zml; exact zkp; exact ⟨rfl, _, _, rfl, sl1⟩)
          · refine postr (o := lost + 1) (k := (l[0]!).T) (l := l.drop 1 ++ [e]) (w := 0) ?_ (by unfold putO; rw [if_pos hE, if_neg h5]) (by unfold putM; rw [if_pos hE, if_neg h5]) (by unfold putL; rw [if_pos hE, if_neg h5]) hE.symm
            have hP : ∀ b, Ct Tryz.prog 171 #[ptr b, e.v] m [R b n 0 l] (fun v m' B => v = .tuple #[(l[0]!).v, .bool true] ∧ m = m' ∧ B = [R b n 1 (l.drop 1 ++ [e])]) := fun b =>
              (RingE.ringPut b n 0 l e (by omega) (by omega) ⟨by omega, by omega⟩).mono fun v m' B _ ⟨g1, g2, g3⟩ => ⟨by rw [g1, if_neg (by omega)], g2, by rw [g3, if_neg (by omega), RingE.putC, if_neg (by omega)]; rfl⟩
            have h0 : lastE l = 0 := if_neg (by omega)
            rw [hF true h0] at hf
            rw [h0] at hla
            refine Ct.enterV (by rfl) Tryz.func120 rfl Tryz.ntmps120 rfl (fun w0 Rest => ?_)
            (repeat' (first | refine zss ?_ | refine zsM ?_ | ((with_reducible first | apply AtM1.cr | apply AtQ.cr | apply At.cr); exact rfl; exact rfl; exact fun _ hmm => hk _ hmm; exact ztk; kernel_rfl) | ((with_reducible first | apply AtM1.callp | apply AtQ.callp | apply At.callp); kernel_rfl; exact rfl; exact rfl; exact hj) | ((with_reducible first | apply AtM1.cr | apply AtQ.cr | apply At.cr); exact rfl; exact rfl; exact fun _ hmm => hla _ hmm; exact ztk; kernel_rfl) | ((with_reducible first | apply AtM1.callp | apply AtQ.callp | apply At.callp); kernel_rfl; exact rfl; exact rfl; exact hf) | ((with_reducible first | apply At.c1 | apply At.c0); exact rfl; exact rfl; exact ho; exact ztk; kernel_rfl; rintro v' m' B' hm' ⟨rfl, b, rfl, rfl⟩; (try replace sl0 := sl0.mono hm'); (try replace sl1 := sl1.mono hm'); (try (have hq0 : hm' = Mem.le_refl _ := rfl; clear hq0 hm'))) | ((with_reducible first | apply At.c1 | apply At.c0); exact rfl; exact rfl; exact hP _; exact ztk; kernel_rfl; rintro v' m' B' hm' ⟨rfl, rfl, rfl⟩; (try replace sl0 := sl0.mono hm'); (try replace sl1 := sl1.mono hm'); (try (have hq0 : hm' = Mem.le_refl _ := rfl; clear hq0 hm'))) | ((with_reducible first | apply At.c1 | apply At.c0); exact rfl; exact rfl; exact hA _ b 1 (l.drop 1 ++ [e]); exact ztk; kernel_rfl; rintro v' m' B' hm' ⟨rfl, p2, c2, rfl, rfl⟩; (try replace sl0 := sl0.mono hm'); (try replace sl1 := sl1.mono hm'); (try (have hq0 : hm' = Mem.le_refl _ := rfl; clear hq0 hm'))) | ((with_reducible apply At.box (d := 3)); exact rfl; exact rfl; exact rfl; intro b3) | ((with_reducible apply At.box (d := 5)); exact rfl; exact rfl; exact rfl; intro b5) | ((with_reducible apply At.alloc (d := 6)); exact rfl; exact rfl; intro b6) | ((with_reducible apply At.alloc (d := 8)); exact rfl; exact rfl; intro b8) | ((with_reducible apply At.alloc (d := 11)); exact rfl; exact rfl; intro b11) | (refine zsp ?_ ?_ <;> (intro hc; (try simp only [zhcs, reduceCtorEq] at hc); (try (exfalso; first | omega | contradiction | omega | exact absurd rfl hc | exact absurd (by decide) hc))))))
            all_goals (refine At.own_freeze inferInstance (by repeat constructor) fun m' hm' sl1 => ?_; (try replace sl0 := sl0.mono hm'))
            all_goals ((with_reducible apply At.retV (B := [])); exact rfl; (repeat' (first | exact RVs.nil | (with_reducible apply RVs.cons) | exact rv_tmp (by rfl) | exact rv_cellN (by rfl) (by repeat constructor) (by rfl) (by rfl) (by rfl) | exact rv_cell1 (by rfl) (by repeat constructor) (by rfl) (by rfl))); exact zml; exact zkp; exact ⟨rfl, _, _, rfl, sl1⟩)
    · rw [show e.chk = 2 from if_neg h2] at hj
      refine puterr (w := 2) (by unfold putE; rw [if_neg fun h => h2 h.2]) (by decide) ?_
      refine Ct.enterV (by rfl) Tryz.func120 rfl Tryz.ntmps120 rfl (fun w0 Rest => ?_)
      (repeat' (first | refine zss ?_ | refine zsM ?_ | ((with_reducible first | apply AtM1.cr | apply AtQ.cr | apply At.cr); exact rfl; exact rfl; exact fun _ hmm => hk _ hmm; exact ztk; kernel_rfl) | ((with_reducible first | apply AtM1.callp | apply AtQ.callp | apply At.callp); kernel_rfl; exact rfl; exact rfl; exact hj) | ((with_reducible apply At.box (d := 3)); exact rfl; exact rfl; exact rfl; intro b3) | ((with_reducible apply At.box (d := 5)); exact rfl; exact rfl; exact rfl; intro b5) | ((with_reducible apply At.alloc (d := 6)); exact rfl; exact rfl; intro b6) | ((with_reducible apply At.alloc (d := 8)); exact rfl; exact rfl; intro b8) | ((with_reducible apply At.alloc (d := 11)); exact rfl; exact rfl; intro b11) | (refine zsp ?_ ?_ <;> (intro hc; (try simp only [zhcs, reduceCtorEq] at hc); (try (exfalso; first | omega | contradiction | omega | exact absurd rfl hc | exact absurd (by decide) hc))))))
      all_goals ((with_reducible apply At.retV (B := [])); exact rfl; (repeat' (first | exact RVs.nil | (with_reducible apply RVs.cons) | exact rv_tmp (by rfl) | exact rv_cellN (by rfl) (by repeat constructor) (by rfl) (by rfl) (by rfl) | exact rv_cell1 (by rfl) (by repeat constructor) (by rfl) (by rfl))); exact zml; exact zkp; exact ⟨rfl, none, 0, rfl, Sl.empty _ inferInstance⟩)
  · rw [show chkR lost mark l room = 2 from if_neg h1] at hk
    refine puterr (w := 2) (by unfold putE; rw [if_neg fun h => h1 h.1]) (by decide) ?_
    refine Ct.enterV (by rfl) Tryz.func120 rfl Tryz.ntmps120 rfl (fun w0 Rest => ?_)
    (repeat' (first | refine zss ?_ | refine zsM ?_ | ((with_reducible first | apply AtM1.cr | apply AtQ.cr | apply At.cr); exact rfl; exact rfl; exact fun _ hmm => hk _ hmm; exact ztk; kernel_rfl) | ((with_reducible apply At.box (d := 3)); exact rfl; exact rfl; exact rfl; intro b3) | ((with_reducible apply At.box (d := 5)); exact rfl; exact rfl; exact rfl; intro b5) | ((with_reducible apply At.alloc (d := 6)); exact rfl; exact rfl; intro b6) | ((with_reducible apply At.alloc (d := 8)); exact rfl; exact rfl; intro b8) | ((with_reducible apply At.alloc (d := 11)); exact rfl; exact rfl; intro b11) | (refine zsp ?_ ?_ <;> (intro hc; (try simp only [zhcs, reduceCtorEq] at hc); (try (exfalso; first | omega | contradiction | omega | exact absurd rfl hc | exact absurd (by decide) hc))))))
    all_goals ((with_reducible apply At.retV (B := [])); exact rfl; (repeat' (first | exact RVs.nil | (with_reducible apply RVs.cons) | exact rv_tmp (by rfl) | exact rv_cellN (by rfl) (by repeat constructor) (by rfl) (by rfl) (by rfl) | exact rv_cell1 (by rfl) (by repeat constructor) (by rfl) (by rfl))); exact zml; exact zkp; exact ⟨rfl, none, 0, rfl, Sl.empty _ inferInstance⟩)
end Raw
end Go.Proofs.YtkoijdmlehkhbaaGreatDoor
namespace Go.Proofs.YtkoijdmlehkhbaaGreatDoor
open Go Go.J
attribute [local irreducible] At AtQ AtM AtM1 PR Ct Pu Rd Res.blk Res.own Res.ex RVs RV
namespace Raw
open Ev Mrg
def keep (a b : Int) (e : Ev) : Bool := decide (a ≤ e.T ∧ e.T < b)
end Raw
end Go.Proofs.YtkoijdmlehkhbaaGreatDoor
namespace Go.Proofs.YtkoijdmlehkhbaaGreatDoor
open Go Go.J
attribute [local irreducible] At AtQ AtM AtM1 PR Ct Pu Rd Res.blk Res.own Res.ex RVs RV
namespace Raw
open Ev Mrg
def rgE (lost mark a b : Int) : Int := if b ≤ a then 1 else if 0 < lost ∧ a ≤ mark then 11 else 0
def rgL (lost mark : Int) (l : List Ev) (a b : Int) : List Ev := if rgE lost mark a b = 0 then l.filter (keep a b) else []
end Raw
end Go.Proofs.YtkoijdmlehkhbaaGreatDoor
namespace Go.Proofs.YtkoijdmlehkhbaaGreatDoor
open Go Go.J
attribute [local irreducible] At AtQ AtM AtM1 PR Ct Pu Rd Res.blk Res.own Res.ex RVs RV
namespace Raw
open Ev Mrg
/-- what was put so far, and what there is -/
structure RA (room lost mark : Int) (l put : List Ev) : Prop where
  rr : rk lost mark l room
  ok : ∀ e ∈ put, e.ok
  asc : Asc put
  le : l.length ≤ put.length
  n : (l.length : Int) = min (put.length : Int) room
  dr : l = put.drop (put.length - l.length)
  lo : lost = (put.length : Int) - l.length
  mrk : 0 < lost → ∀ e ∈ put.take (put.length - l.length), e.T ≤ mark
/-- of a range, all of it -/
theorem RA.all {room lost mark : Int} {l put : List Ev} (h : RA room lost mark l put) {a b : Int} (he : rgE lost mark a b = 0) : rgL lost mark l a b = put.filter (keep a b) := by
  have hm := h.mrk
  have hlo := h.lo
  unfold rgL
  rw [if_pos he]
  have hq : put.filter (keep a b) = (put.take (put.length - l.length)).filter (keep a b) ++ l.filter (keep a b) := by
    conv => lhs; rw [← List.take_append_drop (put.length - l.length) put]
    rw [List.filter_append, ← h.dr]
  suffices hz : (put.take (put.length - l.length)).filter (keep a b) = [] from by rw [hq, hz, List.nil_append]
  refine List.filter_eq_nil_iff.2 ?_
  intro x hx hk
  have hk' : a ≤ x.T ∧ x.T < b := of_decide_eq_true hk
  unfold rgE at he
  by_cases h1 : b ≤ a
  · rw [if_pos h1] at he; cases he
  · rw [if_neg h1] at he
    by_cases h2 : 0 < lost ∧ a ≤ mark
    · rw [if_pos h2] at he; cases he
    · have h0 : 0 < lost := by
        have := List.length_pos_of_mem hx
        rw [List.length_take] at this
        have := h.le
        omega
      have := hm h0 x hx
      omega
end Raw
end Go.Proofs.YtkoijdmlehkhbaaGreatDoor
namespace Go.Proofs.YtkoijdmlehkhbaaGreatDoor
open Go Go.J
namespace Sv
open Cell Ti Fo Gr Se
abbrev tt (x : Ser) : TT := ⟨x.t0, x.t1, x.t2⟩
/-- the events were put, and no other ones -/
structure SI (K : Cfg) (es : List Ev) (x : Ser) : Prop where
  inv : Inv K es (tt x).ls x.op
  last : x.last = if es = [] then -1 else lastT es
  raw : Raw.RA K.r x.lost x.mark x.raw.l es
  lab : Lb.right x.lab.l
theorem SI.pos {K : Cfg} {es : List Ev} {x : Ser} (h : SI K es x) (hn : es ≠ []) : x.last = lastT es ∧ 0 ≤ x.last ∧ x.last ≤ 35184372088831 := by
  have e : x.last = lastT es := h.last.trans (if_neg hn)
  have := last_bd h.inv.g hn
  rw [e]
  exact ⟨rfl, this⟩
end Sv
end Go.Proofs.YtkoijdmlehkhbaaGreatDoor

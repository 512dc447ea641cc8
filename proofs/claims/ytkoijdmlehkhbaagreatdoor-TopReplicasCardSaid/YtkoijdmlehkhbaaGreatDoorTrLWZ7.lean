/- Part 7 of what the law's proof needs: rules of the walk, contracts of functions, plain laws. No condition. -/
import Derived.Test.YtkoijdmlehkhbaaGreatDoorTrLWZ6
set_option linter.unusedSimpArgs false
set_option linter.unusedVariables false
set_option linter.unusedSectionVars false
set_option maxRecDepth 20000
set_option maxHeartbeats 4000000
namespace Go.Proofs.YtkoijdmlehkhbaaGreatDoor
open Go Go.J
attribute [local irreducible] At AtQ AtM AtM1 PR Ct Pu Rd Res.blk Res.own Res.ex RVs RV
namespace Se
open Win
/-- all of it is gone -/
def dead (k : Cfg) (last now : Int) : Bool := decide k.ok && goneV last now k.a k.x && goneV last now k.b k.y && goneV last now k.d k.w
structure DS where
  (j : Nat) (q : Bool)
/-- what is told so far -/
def ex3 (b q1 q2 q3 : Bool) : Nat → Bool
  | 0 => b
  | 1 => b && q1
  | 2 => b && q1 && q2
  | _ => b && q1 && q2 && q3
theorem deadF (k : Cfg) (last now : Int) : Pu Tryz.prog 91 #[k.v, .int .i64 last, .int .i64 now] (.bool (dead k last now)) := Pu.intro fun m => by
  have k0 := Cfg.check k
  unfold Cfg.chk at k0
  unfold dead
  by_cases h0 : k.ok
  rotate_left
  · rw [if_neg h0] at k0
    rw [decide_eq_false h0, Bool.false_and, Bool.false_and, Bool.false_and]
    refine Ct.enterV (by rfl) Tryz.func91 rfl Tryz.ntmps91 rfl (fun w0 Rest => ?_)
    (repeat' (first | refine zss ?_ | refine zs0 ?_ | ((with_reducible first | apply AtM1.callp | apply AtQ.callp | apply At.callp); kernel_rfl; exact rfl; exact rfl; exact k0) | ((with_reducible apply At.box (d := 3)); exact rfl; exact rfl; exact rfl; intro b3) | (refine zsp ?_ ?_ <;> (intro hc; (try simp only [zhcs, reduceCtorEq] at hc); (try (exfalso; first | omega | contradiction | omega | exact absurd rfl hc | exact absurd (by decide) hc))))))
    (refine At.loopk (σ := Nat) [1, 2, 3] (fun s F0 => (8, .int .i64 0) :: (7, .bool false) :: F0) (fun s => m) (fun s => .blk b3 25 k.cells :: Rest) (fun s => True) (fun s => 0) 0 (by rfl) ?_ zsubs zml zente ?_)
    · trivial
    intro _ _
    (repeat' (first | refine zss ?_ | refine zs0 ?_ | ((with_reducible apply At.box (d := 3)); exact rfl; exact rfl; exact rfl; intro b3) | (refine zsp ?_ ?_ <;> (intro hc; (try simp only [zhcs, reduceCtorEq] at hc); (try (exfalso; first | omega | contradiction | omega | exact absurd rfl hc | exact absurd (by decide) hc))))))
    all_goals ((with_reducible apply At.retB1 (B := [])); exact rfl; exact rfl; exact zml; exact zkp; exact ⟨rfl, rfl, rfl⟩)
  rw [if_pos h0] at k0
  rw [decide_eq_true h0, Bool.true_and]
  have k1 := win_gone last now k.a k.x
  have k2 := win_gone last now k.b k.y
  have k3 := win_gone last now k.d k.w
  generalize goneV last now k.a k.x = q1 at k1 ⊢
  generalize goneV last now k.b k.y = q2 at k2 ⊢
  generalize goneV last now k.d k.w = q3 at k3 ⊢
  clear h0
  refine Ct.enterV (by rfl) Tryz.func91 rfl Tryz.ntmps91 rfl (fun w0 Rest => ?_)
  (repeat' (first | refine zss ?_ | refine zs0 ?_ | ((with_reducible first | apply AtM1.callp | apply AtQ.callp | apply At.callp); kernel_rfl; exact rfl; exact rfl; exact k0) | ((with_reducible apply At.box (d := 3)); exact rfl; exact rfl; exact rfl; intro b3) | (refine zsp ?_ ?_ <;> (intro hc; (try simp only [zhcs, reduceCtorEq] at hc); (try (exfalso; first | omega | contradiction | omega | exact absurd rfl hc | exact absurd (by decide) hc))))))
  (refine At.loopk (σ := DS) [1, 2, 3] (fun s F0 => (8, .int .i64 (s.j : Int)) :: (7, .bool s.q) :: F0) (fun s => m) (fun s => .blk b3 25 k.cells :: Rest) (fun s => s.j ≤ 3 ∧ s.q = ex3 true q1 q2 q3 s.j) (fun s => 3 - s.j) ⟨0, true⟩ (by rfl) ?_ zsubs zml zente ?_)
  · exact ⟨Nat.zero_le _, rfl⟩
  rintro ⟨j, q⟩ ⟨hs, e⟩
  dsimp only at hs e ⊢
  rcases (show j = 0 ∨ j = 1 ∨ j = 2 ∨ j = 3 by omega) with rfl | rfl | rfl | rfl
  · obtain rfl : q = true := e
    (repeat' (first | refine zss ?_ | ((first | (with_reducible first | apply At.val | apply AtQ.val)); (exact pr_indexArr (k := 0) (by rfl) (by rfl) (by rfl) (by rfl) (by decide)); exact rfl) | refine zs0 ?_ | ((with_reducible first | apply AtM1.callp | apply AtQ.callp | apply At.callp); kernel_rfl; exact rfl; exact rfl; exact k1) | ((with_reducible apply At.box (d := 3)); exact rfl; exact rfl; exact rfl; intro b3) | (refine zsp ?_ ?_ <;> (intro hc; (try simp only [zhcs, reduceCtorEq] at hc); (try (exfalso; first | (first | omega | exact absurd rfl hc) | contradiction | omega | exact absurd rfl hc | exact absurd (by decide) hc))))))
    all_goals ((with_reducible refine At.reachk (⟨1, q1⟩) ?_ ?_ ?_ ?_); exact zsubs; exact zml; exact zente; exact ⟨⟨(by decide : 1 ≤ 3), rfl⟩, (by decide : 2 < 3)⟩)
  · obtain rfl : q = q1 := e
    cases q
    · (repeat' (first | refine zss ?_ | refine zs0 ?_ | ((with_reducible apply At.box (d := 3)); exact rfl; exact rfl; exact rfl; intro b3) | (refine zsp ?_ ?_ <;> (intro hc; (try simp only [zhcs, reduceCtorEq] at hc); (try (exfalso; first | (first | omega | exact absurd rfl hc) | contradiction | omega | exact absurd rfl hc | exact absurd (by decide) hc))))))
      all_goals ((with_reducible apply At.retB1 (B := [])); exact rfl; exact rfl; exact zml; exact zkp; exact ⟨rfl, rfl, rfl⟩)
    · (repeat' (first | refine zss ?_ | ((first | (with_reducible first | apply At.val | apply AtQ.val)); (exact pr_indexArr (k := 1) (by rfl) (by rfl) (by rfl) (by rfl) (by decide)); exact rfl) | refine zs0 ?_ | ((with_reducible first | apply AtM1.callp | apply AtQ.callp | apply At.callp); kernel_rfl; exact rfl; exact rfl; exact k2) | ((with_reducible apply At.box (d := 3)); exact rfl; exact rfl; exact rfl; intro b3) | (refine zsp ?_ ?_ <;> (intro hc; (try simp only [zhcs, reduceCtorEq] at hc); (try (exfalso; first | (first | omega | exact absurd rfl hc) | contradiction | omega | exact absurd rfl hc | exact absurd (by decide) hc))))))
      all_goals ((with_reducible refine At.reachk (⟨2, q2⟩) ?_ ?_ ?_ ?_); exact zsubs; exact zml; exact zente; exact ⟨⟨(by decide : 2 ≤ 3), rfl⟩, (by decide : 1 < 2)⟩)
  · replace e : q = (q1 && q2) := e
    rw [← e]
    cases q
    · (repeat' (first | refine zss ?_ | refine zs0 ?_ | ((with_reducible apply At.box (d := 3)); exact rfl; exact rfl; exact rfl; intro b3) | (refine zsp ?_ ?_ <;> (intro hc; (try simp only [zhcs, reduceCtorEq] at hc); (try (exfalso; first | (first | omega | exact absurd rfl hc) | contradiction | omega | exact absurd rfl hc | exact absurd (by decide) hc))))))
      all_goals ((with_reducible apply At.retB1 (B := [])); exact rfl; exact rfl; exact zml; exact zkp; exact ⟨rfl, rfl, rfl⟩)
    · (repeat' (first | refine zss ?_ | ((first | (with_reducible first | apply At.val | apply AtQ.val)); (exact pr_indexArr (k := 2) (by rfl) (by rfl) (by rfl) (by rfl) (by decide)); exact rfl) | refine zs0 ?_ | ((with_reducible first | apply AtM1.callp | apply AtQ.callp | apply At.callp); kernel_rfl; exact rfl; exact rfl; exact k3) | ((with_reducible apply At.box (d := 3)); exact rfl; exact rfl; exact rfl; intro b3) | (refine zsp ?_ ?_ <;> (intro hc; (try simp only [zhcs, reduceCtorEq] at hc); (try (exfalso; first | (first | omega | exact absurd rfl hc) | contradiction | omega | exact absurd rfl hc | exact absurd (by decide) hc))))))
      all_goals ((with_reducible refine At.reachk (⟨3, q3⟩) ?_ ?_ ?_ ?_); exact zsubs; exact zml; exact zente; exact ⟨⟨(by decide : 3 ≤ 3), by show q3 = (q1 && q2 && q3); rw [← e]; rfl⟩, (by decide : 0 < 1)⟩)
  · replace e : q = (q1 && q2 && q3) := e
    rw [← e]
    cases q
    · (repeat' (first | refine zss ?_ | refine zs0 ?_ | ((with_reducible apply At.box (d := 3)); exact rfl; exact rfl; exact rfl; intro b3) | (refine zsp ?_ ?_ <;> (intro hc; (try simp only [zhcs, reduceCtorEq] at hc); (try (exfalso; first | (first | omega | exact absurd rfl hc) | contradiction | omega | exact absurd rfl hc | exact absurd (by decide) hc))))))
      all_goals ((with_reducible apply At.retB1 (B := [])); exact rfl; exact rfl; exact zml; exact zkp; exact ⟨rfl, rfl, rfl⟩)
    · (repeat' (first | refine zss ?_ | refine zs0 ?_ | ((with_reducible apply At.box (d := 3)); exact rfl; exact rfl; exact rfl; intro b3) | (refine zsp ?_ ?_ <;> (intro hc; (try simp only [zhcs, reduceCtorEq] at hc); (try (exfalso; first | (first | omega | exact absurd rfl hc) | contradiction | omega | exact absurd rfl hc | exact absurd (by decide) hc))))))
      all_goals ((with_reducible apply At.retB1 (B := [])); exact rfl; exact rfl; exact zml; exact zkp; exact ⟨rfl, rfl, rfl⟩)
end Se
end Go.Proofs.YtkoijdmlehkhbaaGreatDoor
namespace Go.Proofs.YtkoijdmlehkhbaaGreatDoor
open Go Go.J
attribute [local irreducible] At AtQ AtM AtM1 PR Ct Pu Rd Res.blk Res.own Res.ex RVs RV
namespace Se
open Win
/-- nothing was put yet -/
def frs (x : Ser) : Bool := ex3 (decide (x.raw.l.length = 0 ∧ x.op = Slot.z)) (!bhd x.t0.l 0) (!bhd x.t1.l 0) (!bhd x.t2.l 0) 3
abbrev kb (b : Nat) (k : Cfg) (x : Ser) : List Res := [.blk b 142 (k.cells ++ x.cells)]
set_option maxRecDepth 100000 in
theorem fresh {m : Mem} (b : Nat) (k : Cfg) (x : Ser) (ho : x.Ok m) : Ct Tryz.prog 117 #[pt b] m (kb b k x) (fun v m' B => v = .bool (frs x) ∧ m = m' ∧ B = kb b k x) := by
  obtain ⟨sl0, sl1, sl2, sl3, sl4, -, -, -, -, -, -, -, hr, h0, h1, h2, -⟩ := ho
  have k0 := fun (m' : Mem) (h : m.le m') => behind x.t0.p x.t0.c x.t0.l 0 h0 (sl2.mono h)
  have k1 := fun (m' : Mem) (h : m.le m') => behind x.t1.p x.t1.c x.t1.l 0 h1 (sl3.mono h)
  have k2 := fun (m' : Mem) (h : m.le m') => behind x.t2.p x.t2.c x.t2.l 0 h2 (sl4.mono h)
  unfold frs
  generalize bhd x.t0.l 0 = q0 at k0 ⊢
  generalize bhd x.t1.l 0 = q1 at k1 ⊢
  generalize bhd x.t2.l 0 = q2 at k2 ⊢
  refine Ct.enterV (by rfl) Tryz.func117 rfl Tryz.ntmps117 rfl (fun w0 Rest => ?_)
  (repeat' (first | (refine At.cutp (id := 1) (x.raw.l.length = 0 ∧ x.op = Slot.z) 3 [0] (by rfl) ?_ ?_) | refine zss ?_ | ((first | (with_reducible first | apply At.val | apply AtQ.val)); (exact Ti.pr_sleq (b := Slot.z) (by rfl) (by rfl)); exact rfl) | refine zsM ?_ | ((with_reducible apply At.endp); exact rfl; exact zsubs; exact zml; exact zente; (first | (simp_all; done) | (simp_all <;> omega))) | (refine zsp ?_ ?_ <;> (intro hc; (try simp only [zhcs, reduceCtorEq] at hc); (try (exfalso; first | omega | contradiction | omega | exact absurd rfl hc | exact absurd (by decide) hc))))))
  generalize decide (x.raw.l.length = 0 ∧ x.op = Slot.z) = b0
  (refine At.loopk (σ := DS) [27] (fun s F0 => (28, .int .i64 (s.j : Int)) :: (3, .bool s.q) :: F0) (fun s => m) (fun s => .blk b 142 (k.cells ++ x.cells) :: Rest) (fun s => s.j ≤ 3 ∧ s.q = ex3 b0 (!q0) (!q1) (!q2) s.j) (fun s => 3 - s.j) ⟨0, b0⟩ (by rfl) ?_ zsubs zml zente ?_)
  · exact ⟨Nat.zero_le _, rfl⟩
  rintro ⟨j, q⟩ ⟨hs, e⟩
  dsimp only at hs e ⊢
  rcases (show j = 0 ∨ j = 1 ∨ j = 2 ∨ j = 3 by omega) with rfl | rfl | rfl | rfl
  · replace e : q = b0 := e
    cases q
    · (repeat' (first | refine zss ?_ | ((first | (with_reducible first | apply At.val | apply AtQ.val)); (exact pr_index_agg (k := 0) (by rfl) (by rfl) (by rfl) (by rfl) (by rfl) (by rfl) (by rfl)); exact rfl) | refine zsM ?_ | (refine zsp ?_ ?_ <;> (intro hc; (try simp only [zhcs, reduceCtorEq] at hc); (try (exfalso; first | (first | omega | exact absurd rfl hc) | contradiction | omega | exact absurd rfl hc | exact absurd (by decide) hc))))))
      all_goals ((with_reducible refine At.reachk (⟨1, false⟩) ?_ ?_ ?_ ?_); exact zsubs; exact zml; exact zente; exact ⟨⟨(by decide : 1 ≤ 3), by show false = (b0 && !q0); rw [← e]; rfl⟩, (by decide : 3 - 1 < 3 - 0)⟩)
    · (repeat' (first | refine zss ?_ | ((first | (with_reducible first | apply At.val | apply AtQ.val)); (exact pr_index_agg (k := 0) (by rfl) (by rfl) (by rfl) (by rfl) (by rfl) (by rfl) (by rfl)); exact rfl) | refine zsM ?_ | ((with_reducible first | apply AtM1.cr | apply AtQ.cr | apply At.cr); exact rfl; exact rfl; exact fun _ hmm => k0 _ hmm; exact ztk; kernel_rfl) | (refine zsp ?_ ?_ <;> (intro hc; (try simp only [zhcs, reduceCtorEq] at hc); (try (exfalso; first | (first | omega | exact absurd rfl hc) | contradiction | omega | exact absurd rfl hc | exact absurd (by decide) hc))))))
      all_goals ((with_reducible refine At.reachk (⟨1, !q0⟩) ?_ ?_ ?_ ?_); exact zsubs; exact zml; exact zente; exact ⟨⟨(by decide : 1 ≤ 3), by show (!q0) = (b0 && !q0); rw [← e]; rfl⟩, (by decide : 3 - 1 < 3 - 0)⟩)
  · replace e : q = (b0 && !q0) := e
    cases q
    · (repeat' (first | refine zss ?_ | ((first | (with_reducible first | apply At.val | apply AtQ.val)); (exact pr_index_agg (k := 1) (by rfl) (by rfl) (by rfl) (by rfl) (by rfl) (by rfl) (by rfl)); exact rfl) | refine zsM ?_ | (refine zsp ?_ ?_ <;> (intro hc; (try simp only [zhcs, reduceCtorEq] at hc); (try (exfalso; first | (first | omega | exact absurd rfl hc) | contradiction | omega | exact absurd rfl hc | exact absurd (by decide) hc))))))
      all_goals ((with_reducible refine At.reachk (⟨2, false⟩) ?_ ?_ ?_ ?_); exact zsubs; exact zml; exact zente; exact ⟨⟨(by decide : 2 ≤ 3), by show false = (b0 && !q0 && !q1); rw [← e]; rfl⟩, (by decide : 3 - 2 < 3 - 1)⟩)
    · (repeat' (first | refine zss ?_ | ((first | (with_reducible first | apply At.val | apply AtQ.val)); (exact pr_index_agg (k := 1) (by rfl) (by rfl) (by rfl) (by rfl) (by rfl) (by rfl) (by rfl)); exact rfl) | refine zsM ?_ | ((with_reducible first | apply AtM1.cr | apply AtQ.cr | apply At.cr); exact rfl; exact rfl; exact fun _ hmm => k1 _ hmm; exact ztk; kernel_rfl) | (refine zsp ?_ ?_ <;> (intro hc; (try simp only [zhcs, reduceCtorEq] at hc); (try (exfalso; first | (first | omega | exact absurd rfl hc) | contradiction | omega | exact absurd rfl hc | exact absurd (by decide) hc))))))
      all_goals ((with_reducible refine At.reachk (⟨2, !q1⟩) ?_ ?_ ?_ ?_); exact zsubs; exact zml; exact zente; exact ⟨⟨(by decide : 2 ≤ 3), by show (!q1) = (b0 && !q0 && !q1); rw [← e]; rfl⟩, (by decide : 3 - 2 < 3 - 1)⟩)
  · replace e : q = (b0 && !q0 && !q1) := e
    cases q
    · (repeat' (first | refine zss ?_ | ((first | (with_reducible first | apply At.val | apply AtQ.val)); (exact pr_index_agg (k := 2) (by rfl) (by rfl) (by rfl) (by rfl) (by rfl) (by rfl) (by rfl)); exact rfl) | refine zsM ?_ | (refine zsp ?_ ?_ <;> (intro hc; (try simp only [zhcs, reduceCtorEq] at hc); (try (exfalso; first | (first | omega | exact absurd rfl hc) | contradiction | omega | exact absurd rfl hc | exact absurd (by decide) hc))))))
      all_goals ((with_reducible refine At.reachk (⟨3, false⟩) ?_ ?_ ?_ ?_); exact zsubs; exact zml; exact zente; exact ⟨⟨(by decide : 3 ≤ 3), by show false = (b0 && !q0 && !q1 && !q2); rw [← e]; rfl⟩, (by decide : 3 - 3 < 3 - 2)⟩)
    · (repeat' (first | refine zss ?_ | ((first | (with_reducible first | apply At.val | apply AtQ.val)); (exact pr_index_agg (k := 2) (by rfl) (by rfl) (by rfl) (by rfl) (by rfl) (by rfl) (by rfl)); exact rfl) | refine zsM ?_ | ((with_reducible first | apply AtM1.cr | apply AtQ.cr | apply At.cr); exact rfl; exact rfl; exact fun _ hmm => k2 _ hmm; exact ztk; kernel_rfl) | (refine zsp ?_ ?_ <;> (intro hc; (try simp only [zhcs, reduceCtorEq] at hc); (try (exfalso; first | (first | omega | exact absurd rfl hc) | contradiction | omega | exact absurd rfl hc | exact absurd (by decide) hc))))))
      all_goals ((with_reducible refine At.reachk (⟨3, !q2⟩) ?_ ?_ ?_ ?_); exact zsubs; exact zml; exact zente; exact ⟨⟨(by decide : 3 ≤ 3), by show (!q2) = (b0 && !q0 && !q1 && !q2); rw [← e]; rfl⟩, (by decide : 3 - 3 < 3 - 2)⟩)
  · replace e : q = (b0 && !q0 && !q1 && !q2) := e
    subst e
    (repeat' (first | refine zss ?_ | refine zsM ?_ | (refine zsp ?_ ?_ <;> (intro hc; (try simp only [zhcs, reduceCtorEq] at hc); (try (exfalso; first | (first | omega | exact absurd rfl hc) | contradiction | omega | exact absurd rfl hc | exact absurd (by decide) hc))))))
    all_goals ((with_reducible apply At.retB1 (B := kb b k x)); exact rfl; exact rfl; exact zml; exact zkp; exact ⟨rfl, rfl, rfl⟩)
/-- all ends with the last event -/
def edB (x : Ser) (k : Cfg) : Prop := Raw.lastE x.raw.l = 0 ∧ (Raw.lastV x.raw.l).T = x.last ∧ x.op.c.L.T = x.last ∧ Ti.fits x.op.c k.a x.op.w
instance (x : Ser) (k : Cfg) : Decidable (edB x k) := by unfold edB; infer_instance
def eds (x : Ser) (k : Cfg) : Bool := ex3 (decide (edB x k)) (!bhd x.t0.l (x.last / k.a)) (!bhd x.t1.l (x.last / k.b)) (!bhd x.t2.l (x.last / k.d)) 3
theorem last_pos {lost mark room : Int} {l : List Ev} (h : Raw.rk lost mark l room) (he : Raw.lastE l = 0) : 0 ≤ (Raw.lastV l).T ∧ (Raw.lastV l).T < 35184372088832 := by
  unfold Raw.lastE at he
  unfold Raw.lastV
  by_cases hz : l.length = 0
  · rw [if_pos hz] at he; exact absurd he (by decide)
  · rw [if_neg hz]
    have := h.2.1.1 (l.length - 1) (by omega)
    exact ⟨this.1, this.2.1⟩
set_option maxRecDepth 100000 in
theorem ends {m : Mem} (b : Nat) (k : Cfg) (x : Ser) (ho : x.Ok m) (hk : k.ok) (hr : Raw.rk x.lost x.mark x.raw.l k.r) : Ct Tryz.prog 118 #[pt b] m (kb b k x) (fun v m' B => v = .bool (eds x k) ∧ m = m' ∧ B = kb b k x) := by
  have hlp := last_pos hr
  obtain ⟨sl0, sl1, sl2, sl3, sl4, -, -, -, -, io, -, -, nr, h0, h1, h2, -⟩ := ho
  have hw0 := hk.ha
  have hw1 := hk.hb
  have hw2 := hk.hd
  clear hr hk
  have kl := fun (m' : Mem) (h : m.le m') => Raw.last x.lost x.mark x.raw.p x.raw.c x.raw.l nr (sl1.mono h)
  have kf := Ti.fitsT x.op.c k.a x.op.w io.2.1
  have k0 := fun (m' : Mem) (h : m.le m') => behind x.t0.p x.t0.c x.t0.l (x.last / k.a) h0 (sl2.mono h)
  have k1 := fun (m' : Mem) (h : m.le m') => behind x.t1.p x.t1.c x.t1.l (x.last / k.b) h1 (sl3.mono h)
  have k2 := fun (m' : Mem) (h : m.le m') => behind x.t2.p x.t2.c x.t2.l (x.last / k.d) h2 (sl4.mono h)
  unfold eds
  generalize bhd x.t0.l (x.last / k.a) = q0 at k0 ⊢
  generalize bhd x.t1.l (x.last / k.b) = q1 at k1 ⊢
  generalize bhd x.t2.l (x.last / k.d) = q2 at k2 ⊢
  have hb : edB x k → 0 ≤ x.last ∧ x.last < 35184372088832 := fun h => by rw [← h.2.1]; exact hlp h.1
  clear hlp io nr
  rw [show decide (edB x k) = decide (Raw.lastE x.raw.l = 0 ∧ (Raw.lastV x.raw.l).T = x.last ∧ x.op.c.L.T = x.last ∧ Ti.fits x.op.c k.a x.op.w) from decide_eq_decide.2 Iff.rfl]
  unfold edB at hb
  generalize Raw.lastE x.raw.l = le at kl hb ⊢
  generalize Raw.lastV x.raw.l = lv at kl hb ⊢
  refine Ct.enterV (by rfl) Tryz.func118 rfl Tryz.ntmps118 rfl (fun w0 Rest => ?_)
  (repeat' (first | (refine At.cutp (id := 2) (le = 0 ∧ lv.T = x.last ∧ x.op.c.L.T = x.last ∧ Ti.fits x.op.c k.a x.op.w) 5 [0] (by rfl) ?_ ?_) | refine zss ?_ | ((first | (with_reducible first | apply At.val | apply AtQ.val)); (exact pr_indexArr (k := 0) (by rfl) (by rfl) (by rfl) (by rfl) (by decide)); exact rfl) | refine zsM ?_ | ((with_reducible first | apply AtM1.cr | apply AtQ.cr | apply At.cr); exact rfl; exact rfl; exact fun _ hmm => kl _ hmm; exact ztk; kernel_rfl) | ((with_reducible first | apply AtM1.callp | apply AtQ.callp | apply At.callp); kernel_rfl; exact rfl; exact rfl; exact kf) | ((with_reducible apply At.endp); exact rfl; exact zsubs; exact zml; exact zente; (first | (simp_all; done) | (simp_all <;> omega))) | ((with_reducible apply At.alloc (d := 3)); exact rfl; exact rfl; intro b3) | (refine zsp ?_ ?_ <;> (intro hc; (try simp only [zhcs, reduceCtorEq] at hc); (try (exfalso; first | (first | omega | exact absurd rfl hc) | contradiction | omega | exact absurd rfl hc | exact absurd (by decide) hc))))))
  replace hb : decide (le = 0 ∧ lv.T = x.last ∧ x.op.c.L.T = x.last ∧ Ti.fits x.op.c k.a x.op.w) = true → 0 ≤ x.last ∧ x.last < 35184372088832 := fun h => hb (of_decide_eq_true h)
  generalize decide (le = 0 ∧ lv.T = x.last ∧ x.op.c.L.T = x.last ∧ Ti.fits x.op.c k.a x.op.w) = b0 at hb ⊢
  clear kl kf
  (refine At.loopk (σ := DS) [0, 70] (fun s F0 => (71, .int .i64 (s.j : Int)) :: (5, .bool s.q) :: F0) (fun s => m) (fun s => .blk b 142 (k.cells ++ x.cells) :: Rest) (fun s => s.j ≤ 3 ∧ s.q = ex3 b0 (!q0) (!q1) (!q2) s.j) (fun s => 3 - s.j) ⟨0, b0⟩ (by rfl) ?_ zsubs zml zente ?_)
  · exact ⟨Nat.zero_le _, rfl⟩
  rintro ⟨j, q⟩ ⟨hs, e⟩
  dsimp only at hs e ⊢
  rcases (show j = 0 ∨ j = 1 ∨ j = 2 ∨ j = 3 by omega) with rfl | rfl | rfl | rfl
  · replace e : q = b0 := e
    cases q
    · clear hb
      (repeat' (first | refine zss ?_ | ((first | (with_reducible first | apply At.val | apply AtQ.val)); (exact pr_index_agg (k := 0) (by rfl) (by rfl) (by rfl) (by rfl) (by rfl) (by rfl) (by rfl)); exact rfl) | refine zsM ?_ | ((with_reducible apply At.alloc (d := 3)); exact rfl; exact rfl; intro b3) | (refine zsp ?_ ?_ <;> (intro hc; (try simp only [zhcs, reduceCtorEq] at hc); (try (exfalso; first | (first | omega | exact absurd rfl hc) | contradiction | omega | exact absurd rfl hc | exact absurd (by decide) hc))))))
      all_goals ((with_reducible refine At.reachk (⟨1, false⟩) ?_ ?_ ?_ ?_); exact zsubs; exact zml; exact zente; exact ⟨⟨(by decide : 1 ≤ 3), by show false = (b0 && !q0); rw [← e]; rfl⟩, (by decide : 3 - 1 < 3 - 0)⟩)
    · have hp := hb (by cases b0 with | false => exact absurd e (by first | decide | (simp only [Bool.false_and]; decide)) | true => rfl)
      (repeat' (first | refine zss ?_ | ((first | (with_reducible first | apply At.val | apply AtQ.val)); (first | exact pr_index_agg (k := 0) (by rfl) (by rfl) (by rfl) (by rfl) (by rfl) (by rfl) (by rfl) | exact pr_indexArr (k := 0) (by rfl) (by rfl) (by rfl) (by rfl) (by decide)); exact rfl) | refine zsM ?_ | ((with_reducible first | apply AtM1.cr | apply AtQ.cr | apply At.cr); exact rfl; exact rfl; exact fun _ hmm => k0 _ hmm; exact ztk; kernel_rfl) | ((with_reducible apply At.alloc (d := 3)); exact rfl; exact rfl; intro b3) | (refine zsp ?_ ?_ <;> (intro hc; (try simp only [zhcs, reduceCtorEq] at hc); (try (exfalso; first | (first | omega | exact absurd rfl hc) | contradiction | omega | exact absurd rfl hc | exact absurd (by decide) hc))))))
      all_goals ((with_reducible refine At.reachk (⟨1, !q0⟩) ?_ ?_ ?_ ?_); exact zsubs; exact zml; exact zente; exact ⟨⟨(by decide : 1 ≤ 3), by show (!q0) = (b0 && !q0); rw [← e]; rfl⟩, (by decide : 3 - 1 < 3 - 0)⟩)
  · replace e : q = (b0 && !q0) := e
    cases q
    · clear hb
      (repeat' (first | refine zss ?_ | ((first | (with_reducible first | apply At.val | apply AtQ.val)); (exact pr_index_agg (k := 1) (by rfl) (by rfl) (by rfl) (by rfl) (by rfl) (by rfl) (by rfl)); exact rfl) | refine zsM ?_ | ((with_reducible apply At.alloc (d := 3)); exact rfl; exact rfl; intro b3) | (refine zsp ?_ ?_ <;> (intro hc; (try simp only [zhcs, reduceCtorEq] at hc); (try (exfalso; first | (first | omega | exact absurd rfl hc) | contradiction | omega | exact absurd rfl hc | exact absurd (by decide) hc))))))
      all_goals ((with_reducible refine At.reachk (⟨2, false⟩) ?_ ?_ ?_ ?_); exact zsubs; exact zml; exact zente; exact ⟨⟨(by decide : 2 ≤ 3), by show false = (b0 && !q0 && !q1); rw [← e]; rfl⟩, (by decide : 3 - 2 < 3 - 1)⟩)
    · have hp := hb (by cases b0 with | false => exact absurd e (by first | decide | (simp only [Bool.false_and]; decide)) | true => rfl)
      (repeat' (first | refine zss ?_ | ((first | (with_reducible first | apply At.val | apply AtQ.val)); (first | exact pr_index_agg (k := 1) (by rfl) (by rfl) (by rfl) (by rfl) (by rfl) (by rfl) (by rfl) | exact pr_indexArr (k := 1) (by rfl) (by rfl) (by rfl) (by rfl) (by decide)); exact rfl) | refine zsM ?_ | ((with_reducible first | apply AtM1.cr | apply AtQ.cr | apply At.cr); exact rfl; exact rfl; exact fun _ hmm => k1 _ hmm; exact ztk; kernel_rfl) | ((with_reducible apply At.alloc (d := 3)); exact rfl; exact rfl; intro b3) | (refine zsp ?_ ?_ <;> (intro hc; (try simp only [zhcs, reduceCtorEq] at hc); (try (exfalso; first | (first | omega | exact absurd rfl hc) | contradiction | omega | exact absurd rfl hc | exact absurd (by decide) hc))))))
      all_goals ((with_reducible refine At.reachk (⟨2, !q1⟩) ?_ ?_ ?_ ?_); exact zsubs; exact zml; exact zente; exact ⟨⟨(by decide : 2 ≤ 3), by show (!q1) = (b0 && !q0 && !q1); rw [← e]; rfl⟩, (by decide : 3 - 2 < 3 - 1)⟩)
  · replace e : q = (b0 && !q0 && !q1) := e
    cases q
    · clear hb
      (repeat' (first | refine zss ?_ | ((first | (with_reducible first | apply At.val | apply AtQ.val)); (exact pr_index_agg (k := 2) (by rfl) (by rfl) (by rfl) (by rfl) (by rfl) (by rfl) (by rfl)); exact rfl) | refine zsM ?_ | ((with_reducible apply At.alloc (d := 3)); exact rfl; exact rfl; intro b3) | (refine zsp ?_ ?_ <;> (intro hc; (try simp only [zhcs, reduceCtorEq] at hc); (try (exfalso; first | (first | omega | exact absurd rfl hc) | contradiction | omega | exact absurd rfl hc | exact absurd (by decide) hc))))))
      all_goals ((with_reducible refine At.reachk (⟨3, false⟩) ?_ ?_ ?_ ?_); exact zsubs; exact zml; exact zente; exact ⟨⟨(by decide : 3 ≤ 3), by show false = (b0 && !q0 && !q1 && !q2); rw [← e]; rfl⟩, (by decide : 3 - 3 < 3 - 2)⟩)
    · have hp := hb (by cases b0 with | false => exact absurd e (by first | decide | (simp only [Bool.false_and]; decide)) | true => rfl)
      (repeat' (first | refine zss ?_ | ((first | (with_reducible first | apply At.val | apply AtQ.val)); (first | exact pr_index_agg (k := 2) (by rfl) (by rfl) (by rfl) (by rfl) (by rfl) (by rfl) (by rfl) | exact pr_indexArr (k := 2) (by rfl) (by rfl) (by rfl) (by rfl) (by decide)); exact rfl) | refine zsM ?_ | ((with_reducible first | apply AtM1.cr | apply AtQ.cr | apply At.cr); exact rfl; exact rfl; exact fun _ hmm => k2 _ hmm; exact ztk; kernel_rfl) | ((with_reducible apply At.alloc (d := 3)); exact rfl; exact rfl; intro b3) | (refine zsp ?_ ?_ <;> (intro hc; (try simp only [zhcs, reduceCtorEq] at hc); (try (exfalso; first | (first | omega | exact absurd rfl hc) | contradiction | omega | exact absurd rfl hc | exact absurd (by decide) hc))))))
      all_goals ((with_reducible refine At.reachk (⟨3, !q2⟩) ?_ ?_ ?_ ?_); exact zsubs; exact zml; exact zente; exact ⟨⟨(by decide : 3 ≤ 3), by show (!q2) = (b0 && !q0 && !q1 && !q2); rw [← e]; rfl⟩, (by decide : 3 - 3 < 3 - 2)⟩)
  · replace e : q = (b0 && !q0 && !q1 && !q2) := e
    subst e
    clear hb
    (repeat' (first | refine zss ?_ | refine zsM ?_ | ((with_reducible apply At.alloc (d := 3)); exact rfl; exact rfl; intro b3) | (refine zsp ?_ ?_ <;> (intro hc; (try simp only [zhcs, reduceCtorEq] at hc); (try (exfalso; first | (first | omega | exact absurd rfl hc) | contradiction | omega | exact absurd rfl hc | exact absurd (by decide) hc))))))
    all_goals ((with_reducible apply At.retB1 (B := kb b k x)); exact rfl; exact rfl; exact zml; exact zkp; exact ⟨rfl, rfl, rfl⟩)
/-- a series is right -/
def sok (k : Cfg) (x : Ser) : Prop := fok k x.t0.l x.t1.l x.t2.l ∧ Lb.right x.lab.l ∧ Raw.rk x.lost x.mark x.raw.l k.r ∧ (if x.last = -1 then frs x = true else eds x k = true)
instance (k : Cfg) (x : Ser) : Decidable (sok k x) := by unfold sok; infer_instance
def schk (k : Cfg) (x : Ser) : Int := if sok k x then 0 else 2
set_option maxRecDepth 100000 in
theorem openS {m : Mem} (k : Cfg) (x : Ser) (ho : x.Ok m) : Ct Tryz.prog 61 #[k.v, x.v] m [] (fun v m' B => m = m' ∧ ((sok k x ∧ ∃ q, v = .tuple #[pt q, .int .i64 0] ∧ B = kb q k x) ∨ (¬ sok k x ∧ v = .tuple #[.pointer none, .int .i64 2] ∧ B = []))) := by
  have k0 := fun (m' : Mem) (h : m.le m') => checkF k x.t0 x.t1 x.t2 ho.n0 ho.n1 ho.n2 ho.i0 ho.i1 ho.i2 (ho.s0.mono h) (ho.s1.mono h) (ho.s2.mono h)
  have k1 := fun (m' : Mem) (h : m.le m') => Lb.check x.lab.p x.lab.c x.lab.l ho.ml (ho.sl.mono h)
  have k2 := fun (m' : Mem) (h : m.le m') => Raw.check x.lost x.mark x.raw.p x.raw.c x.raw.l k.r ho.nr (ho.sr.mono h)
  unfold fchk at k0
  unfold Lb.chk at k1
  unfold Raw.chkR at k2
  by_cases h0 : fok k x.t0.l x.t1.l x.t2.l
  rotate_left
  · rw [if_neg h0] at k0
    refine Ct.enterV (by rfl) Tryz.func61 rfl Tryz.ntmps61 rfl (fun w0 Rest => ?_)
    (repeat' (first | refine zss ?_ | refine zsM ?_ | ((with_reducible first | apply AtM1.cr | apply AtQ.cr | apply At.cr); exact rfl; exact rfl; exact fun _ hmm => k0 _ hmm; exact ztk; kernel_rfl) | ((with_reducible apply At.box (d := 2)); exact rfl; exact rfl; exact rfl; intro b2) | ((with_reducible apply At.box (d := 3)); exact rfl; exact rfl; exact rfl; intro b3) | ((with_reducible apply At.box (d := 29)); exact rfl; exact rfl; exact rfl; intro b29) | (refine zsp ?_ ?_ <;> (intro hc; (try simp only [zhcs, reduceCtorEq] at hc); (try (exfalso; first | omega | contradiction | omega | exact absurd rfl hc | exact absurd (by decide) hc))))))
    all_goals ((with_reducible apply At.retV (B := [])); exact rfl; (repeat' (first | exact RVs.nil | (with_reducible apply RVs.cons) | exact rv_tmp (by rfl) | exact rv_cellN (by rfl) (by repeat constructor) (by rfl) (by rfl) (by rfl) | exact rv_cell1 (by rfl) (by repeat constructor) (by rfl) (by rfl))); exact zml; exact zkp; exact ⟨rfl, .inr ⟨fun h => h0 h.1, rfl, rfl⟩⟩)
  rw [if_pos h0] at k0
  by_cases h1 : Lb.right x.lab.l
  rotate_left
  · rw [if_neg h1] at k1
    refine Ct.enterV (by rfl) Tryz.func61 rfl Tryz.ntmps61 rfl (fun w0 Rest => ?_)
    (repeat' (first | refine zss ?_ | refine zsM ?_ | ((with_reducible first | apply AtM1.cr | apply AtQ.cr | apply At.cr); exact rfl; exact rfl; exact fun _ hmm => k0 _ hmm; exact ztk; kernel_rfl) | ((with_reducible first | apply AtM1.cr | apply AtQ.cr | apply At.cr); exact rfl; exact rfl; exact fun _ hmm => k1 _ hmm; exact ztk; kernel_rfl) | ((with_reducible apply At.box (d := 2)); exact rfl; exact rfl; exact rfl; intro b2) | ((with_reducible apply At.box (d := 3)); exact rfl; exact rfl; exact rfl; intro b3) | ((with_reducible apply At.box (d := 29)); exact rfl; exact rfl; exact rfl; intro b29) | (refine zsp ?_ ?_ <;> (intro hc; (try simp only [zhcs, reduceCtorEq] at hc); (try (exfalso; first | omega | contradiction | omega | exact absurd rfl hc | exact absurd (by decide) hc))))))
    all_goals ((with_reducible apply At.retV (B := [])); exact rfl; (repeat' (first | exact RVs.nil | (with_reducible apply RVs.cons) | exact rv_tmp (by rfl) | exact rv_cellN (by rfl) (by repeat constructor) (by rfl) (by rfl) (by rfl) | exact rv_cell1 (by rfl) (by repeat constructor) (by rfl) (by rfl))); exact zml; exact zkp; exact ⟨rfl, .inr ⟨fun h => h1 h.2.1, rfl, rfl⟩⟩)
  rw [if_pos h1] at k1
  by_cases h2 : Raw.rk x.lost x.mark x.raw.l k.r
  rotate_left
  · rw [if_neg h2] at k2
    refine Ct.enterV (by rfl) Tryz.func61 rfl Tryz.ntmps61 rfl (fun w0 Rest => ?_)
    (repeat' (first | refine zss ?_ | refine zsM ?_ | ((with_reducible first | apply AtM1.cr | apply AtQ.cr | apply At.cr); exact rfl; exact rfl; exact fun _ hmm => k0 _ hmm; exact ztk; kernel_rfl) | ((with_reducible first | apply AtM1.cr | apply AtQ.cr | apply At.cr); exact rfl; exact rfl; exact fun _ hmm => k1 _ hmm; exact ztk; kernel_rfl) | ((with_reducible first | apply AtM1.cr | apply AtQ.cr | apply At.cr); exact rfl; exact rfl; exact fun _ hmm => k2 _ hmm; exact ztk; kernel_rfl) | ((with_reducible apply At.box (d := 2)); exact rfl; exact rfl; exact rfl; intro b2) | ((with_reducible apply At.box (d := 3)); exact rfl; exact rfl; exact rfl; intro b3) | ((with_reducible apply At.box (d := 29)); exact rfl; exact rfl; exact rfl; intro b29) | (refine zsp ?_ ?_ <;> (intro hc; (try simp only [zhcs, reduceCtorEq] at hc); (try (exfalso; first | omega | contradiction | omega | exact absurd rfl hc | exact absurd (by decide) hc))))))
    all_goals ((with_reducible apply At.retV (B := [])); exact rfl; (repeat' (first | exact RVs.nil | (with_reducible apply RVs.cons) | exact rv_tmp (by rfl) | exact rv_cellN (by rfl) (by repeat constructor) (by rfl) (by rfl) (by rfl) | exact rv_cell1 (by rfl) (by repeat constructor) (by rfl) (by rfl))); exact zml; exact zkp; exact ⟨rfl, .inr ⟨fun h => h2 h.2.2.1, rfl, rfl⟩⟩)
  rw [if_pos h2] at k2
  have hs : sok k x ↔ (if x.last = -1 then frs x = true else eds x k = true) := ⟨fun h => h.2.2.2, fun h => ⟨h0, h1, h2, h⟩⟩
  by_cases hl : x.last = -1
  · rw [if_pos hl] at hs
    have k3 := fun q => fresh q k x ho
    generalize frs x = f at k3 hs
    cases f
    · refine Ct.enterV (by rfl) Tryz.func61 rfl Tryz.ntmps61 rfl (fun w0 Rest => ?_)
      (repeat' (first | refine zss ?_ | refine zsM ?_ | ((with_reducible first | apply AtM1.cr | apply AtQ.cr | apply At.cr); exact rfl; exact rfl; exact fun _ hmm => k0 _ hmm; exact ztk; kernel_rfl) | ((with_reducible first | apply AtM1.cr | apply AtQ.cr | apply At.cr); exact rfl; exact rfl; exact fun _ hmm => k1 _ hmm; exact ztk; kernel_rfl) | ((with_reducible first | apply AtM1.cr | apply AtQ.cr | apply At.cr); exact rfl; exact rfl; exact fun _ hmm => k2 _ hmm; exact ztk; kernel_rfl) | ((with_reducible first | apply At.c1 | apply At.c0); exact rfl; exact rfl; exact k3 _; exact ztk; kernel_rfl; rintro v' m' B' hm' ⟨rfl, rfl, rfl⟩; skip; (try (have hq0 : hm' = Mem.le_refl _ := rfl; clear hq0 hm'))) | ((with_reducible apply At.box (d := 2)); exact rfl; exact rfl; exact rfl; intro b2) | ((with_reducible apply At.box (d := 3)); exact rfl; exact rfl; exact rfl; intro b3) | ((with_reducible apply At.box (d := 29)); exact rfl; exact rfl; exact rfl; intro b29) | (refine zsp ?_ ?_ <;> (intro hc; (try simp only [zhcs, reduceCtorEq] at hc); (try (exfalso; first | (first | omega | exact absurd hl hc) | contradiction | omega | exact absurd rfl hc | exact absurd (by decide) hc))))))
      all_goals ((with_reducible apply At.retV (B := [])); exact rfl; (repeat' (first | exact RVs.nil | (with_reducible apply RVs.cons) | exact rv_tmp (by rfl) | exact rv_cellN (by rfl) (by repeat constructor) (by rfl) (by rfl) (by rfl) | exact rv_cell1 (by rfl) (by repeat constructor) (by rfl) (by rfl))); exact zml; exact zkp; exact ⟨rfl, .inr ⟨fun h => absurd (hs.1 h) (by decide), rfl, rfl⟩⟩)
    · refine Ct.enterV (by rfl) Tryz.func61 rfl Tryz.ntmps61 rfl (fun w0 Rest => ?_)
      (repeat' (first | refine zss ?_ | refine zsM ?_ | ((with_reducible first | apply AtM1.cr | apply AtQ.cr | apply At.cr); exact rfl; exact rfl; exact fun _ hmm => k0 _ hmm; exact ztk; kernel_rfl) | ((with_reducible first | apply AtM1.cr | apply AtQ.cr | apply At.cr); exact rfl; exact rfl; exact fun _ hmm => k1 _ hmm; exact ztk; kernel_rfl) | ((with_reducible first | apply AtM1.cr | apply AtQ.cr | apply At.cr); exact rfl; exact rfl; exact fun _ hmm => k2 _ hmm; exact ztk; kernel_rfl) | ((with_reducible first | apply At.c1 | apply At.c0); exact rfl; exact rfl; exact k3 _; exact ztk; kernel_rfl; rintro v' m' B' hm' ⟨rfl, rfl, rfl⟩; skip; (try (have hq0 : hm' = Mem.le_refl _ := rfl; clear hq0 hm'))) | ((with_reducible apply At.box (d := 2)); exact rfl; exact rfl; exact rfl; intro b2) | ((with_reducible apply At.box (d := 3)); exact rfl; exact rfl; exact rfl; intro b3) | ((with_reducible apply At.box (d := 29)); exact rfl; exact rfl; exact rfl; intro b29) | (refine zsp ?_ ?_ <;> (intro hc; (try simp only [zhcs, reduceCtorEq] at hc); (try (exfalso; first | (first | omega | exact absurd hl hc) | contradiction | omega | exact absurd rfl hc | exact absurd (by decide) hc))))))
      all_goals ((with_reducible apply At.retV (B := kb b29 k x)); exact rfl; (repeat' (first | exact RVs.nil | (with_reducible apply RVs.cons) | exact rv_tmp (by rfl) | exact rv_cellN (by rfl) (by repeat constructor) (by rfl) (by rfl) (by rfl) | exact rv_cell1 (by rfl) (by repeat constructor) (by rfl) (by rfl))); exact zml; exact zkp; exact ⟨rfl, .inl ⟨hs.2 rfl, b29, rfl, rfl⟩⟩)
  · rw [if_neg hl] at hs
    have k3 := fun q => ends q k x ho h0.1 h2
    generalize eds x k = f at k3 hs
    cases f
    · refine Ct.enterV (by rfl) Tryz.func61 rfl Tryz.ntmps61 rfl (fun w0 Rest => ?_)
      (repeat' (first | refine zss ?_ | refine zsM ?_ | ((with_reducible first | apply AtM1.cr | apply AtQ.cr | apply At.cr); exact rfl; exact rfl; exact fun _ hmm => k0 _ hmm; exact ztk; kernel_rfl) | ((with_reducible first | apply AtM1.cr | apply AtQ.cr | apply At.cr); exact rfl; exact rfl; exact fun _ hmm => k1 _ hmm; exact ztk; kernel_rfl) | ((with_reducible first | apply AtM1.cr | apply AtQ.cr | apply At.cr); exact rfl; exact rfl; exact fun _ hmm => k2 _ hmm; exact ztk; kernel_rfl) | ((with_reducible first | apply At.c1 | apply At.c0); exact rfl; exact rfl; exact k3 _; exact ztk; kernel_rfl; rintro v' m' B' hm' ⟨rfl, rfl, rfl⟩; skip; (try (have hq0 : hm' = Mem.le_refl _ := rfl; clear hq0 hm'))) | ((with_reducible apply At.box (d := 2)); exact rfl; exact rfl; exact rfl; intro b2) | ((with_reducible apply At.box (d := 3)); exact rfl; exact rfl; exact rfl; intro b3) | ((with_reducible apply At.box (d := 29)); exact rfl; exact rfl; exact rfl; intro b29) | (refine zsp ?_ ?_ <;> (intro hc; (try simp only [zhcs, reduceCtorEq] at hc); (try (exfalso; first | (first | omega | exact absurd hc hl) | contradiction | omega | exact absurd rfl hc | exact absurd (by decide) hc))))))
      all_goals ((with_reducible apply At.retV (B := [])); exact rfl; (repeat' (first | exact RVs.nil | (with_reducible apply RVs.cons) | exact rv_tmp (by rfl) | exact rv_cellN (by rfl) (by repeat constructor) (by rfl) (by rfl) (by rfl) | exact rv_cell1 (by rfl) (by repeat constructor) (by rfl) (by rfl))); exact zml; exact zkp; exact ⟨rfl, .inr ⟨fun h => absurd (hs.1 h) (by decide), rfl, rfl⟩⟩)
    · refine Ct.enterV (by rfl) Tryz.func61 rfl Tryz.ntmps61 rfl (fun w0 Rest => ?_)
      (repeat' (first | refine zss ?_ | refine zsM ?_ | ((with_reducible first | apply AtM1.cr | apply AtQ.cr | apply At.cr); exact rfl; exact rfl; exact fun _ hmm => k0 _ hmm; exact ztk; kernel_rfl) | ((with_reducible first | apply AtM1.cr | apply AtQ.cr | apply At.cr); exact rfl; exact rfl; exact fun _ hmm => k1 _ hmm; exact ztk; kernel_rfl) | ((with_reducible first | apply AtM1.cr | apply AtQ.cr | apply At.cr); exact rfl; exact rfl; exact fun _ hmm => k2 _ hmm; exact ztk; kernel_rfl) | ((with_reducible first | apply At.c1 | apply At.c0); exact rfl; exact rfl; exact k3 _; exact ztk; kernel_rfl; rintro v' m' B' hm' ⟨rfl, rfl, rfl⟩; skip; (try (have hq0 : hm' = Mem.le_refl _ := rfl; clear hq0 hm'))) | ((with_reducible apply At.box (d := 2)); exact rfl; exact rfl; exact rfl; intro b2) | ((with_reducible apply At.box (d := 3)); exact rfl; exact rfl; exact rfl; intro b3) | ((with_reducible apply At.box (d := 29)); exact rfl; exact rfl; exact rfl; intro b29) | (refine zsp ?_ ?_ <;> (intro hc; (try simp only [zhcs, reduceCtorEq] at hc); (try (exfalso; first | (first | omega | exact absurd hc hl) | contradiction | omega | exact absurd rfl hc | exact absurd (by decide) hc))))))
      all_goals ((with_reducible apply At.retV (B := kb b29 k x)); exact rfl; (repeat' (first | exact RVs.nil | (with_reducible apply RVs.cons) | exact rv_tmp (by rfl) | exact rv_cellN (by rfl) (by repeat constructor) (by rfl) (by rfl) (by rfl) | exact rv_cell1 (by rfl) (by repeat constructor) (by rfl) (by rfl))); exact zml; exact zkp; exact ⟨rfl, .inl ⟨hs.2 rfl, b29, rfl, rfl⟩⟩)
theorem checkS {m : Mem} (k : Cfg) (x : Ser) (ho : x.Ok m) : Rd Tryz.prog 83 #[k.v, x.v] m [] (.int .i64 (schk k x)) := by
  unfold Rd
  have k0 := openS k x ho
  unfold schk
  refine Ct.enterV (by rfl) Tryz.func83 rfl Tryz.ntmps83 rfl (fun w0 Rest => ?_)
  (repeat' (first | refine zss ?_ | refine zsM ?_ | ((with_reducible first | apply At.c1 | apply At.c0); exact rfl; exact rfl; exact k0; exact ztk; kernel_rfl; rintro v' m' B' hm' ⟨rfl, hv⟩; skip; (try (have hq0 : hm' = Mem.le_refl _ := rfl; clear hq0 hm'))) | (rcases hv with ⟨hv, q', rfl, rfl⟩ | ⟨hv, rfl, rfl⟩) | ((with_reducible apply At.box (d := 2)); exact rfl; exact rfl; exact rfl; intro b2) | ((with_reducible apply At.box (d := 3)); exact rfl; exact rfl; exact rfl; intro b3) | (refine zsp ?_ ?_ <;> (intro hc; (try simp only [zhcs, reduceCtorEq] at hc); (try (exfalso; first | contradiction | omega | exact absurd rfl hc | exact absurd (by decide) hc))))))
  · rw [if_pos hv]
    ((with_reducible apply At.retB1 (B := [])); exact rfl; exact rfl; exact zml; exact zkp; exact ⟨rfl, rfl, rfl⟩)
  · rw [if_neg hv]
    ((with_reducible apply At.retB1 (B := [])); exact rfl; exact rfl; exact zml; exact zkp; exact ⟨rfl, rfl, rfl⟩)
end Se
end Go.Proofs.YtkoijdmlehkhbaaGreatDoor
namespace Go.Proofs.YtkoijdmlehkhbaaGreatDoor
open Go Go.J
attribute [local irreducible] At AtQ AtM AtM1 PR Ct Pu Rd Res.blk Res.own Res.ex RVs RV
namespace Lb
theorem equal {m : Mem} (p : Option Addr) (c : Nat) (a : List Lab) (q : Option Addr) (d : Nat) (b : List Lab) (hl : a.length ≤ 1000000000) (hlb : b.length ≤ 1000000000) (sl0 : Sl m cells 2 p c a) (sl1 : Sl m cells 2 q d b) :
    Rd Tryz.prog 122 #[.slice p a.length c, .slice q b.length d] m [] (.bool (decide (a = b))) := by
  unfold Rd
  by_cases hlen : a.length = b.length
  · refine Ct.enterV (by rfl) Tryz.func122 rfl Tryz.ntmps122 rfl (fun w0 Rest => ?_)
    (repeat' (first | refine zss ?_ | refine zsM ?_ | (refine zsp ?_ ?_ <;> (intro hc; (try simp only [zhcs, reduceCtorEq] at hc); (try (exfalso; first | omega | contradiction | omega | exact absurd rfl hc | exact absurd (by decide) hc))))))
    (refine At.loopk (σ := Nat) [0, 1, 12] (fun s F0 => (13, .int .i64 (s : Int)) :: F0) (fun s => m) (fun s => Rest) (fun s => s ≤ a.length ∧ ∀ i, i < s → a[i]! = b[i]!) (fun s => a.length - s) 0 (by rfl) ?_ zsubs zml zente ?_)
    · exact ⟨Nat.zero_le _, fun i h => absurd h (Nat.not_lt_zero i)⟩
    rintro s ⟨hs, hn⟩
    by_cases h : s < a.length
    · by_cases e : a[s]! = b[s]!
      · have hnn : ∀ i, i < s + 1 → a[i]! = b[i]! := fun i hi => by
          by_cases e1 : i = s
          · subst e1; exact e
          · exact hn i (by omega)
        (repeat' (first | refine zss ?_ | ((first | (with_reducible first | apply At.val | apply AtQ.val)); (exact pr_lbne (by rfl) (by rfl)); exact rfl) | refine zsM ?_ | (refine zsp ?_ ?_ <;> (intro hc; (try simp only [zhcs, reduceCtorEq] at hc); (try (exfalso; first | (first | omega | exact absurd e hc) | contradiction | omega | exact absurd rfl hc | exact absurd (by decide) hc))))))
        all_goals ((with_reducible refine At.reachk ((s + 1)) ?_ ?_ ?_ ?_); exact zsubs; exact zml; exact zente; exact ⟨⟨h, hnn⟩, by omega⟩)
      · rw [decide_eq_false (show ¬ a = b from fun h => e (by rw [h]))]
        (repeat' (first | refine zss ?_ | ((first | (with_reducible first | apply At.val | apply AtQ.val)); (exact pr_lbne (by rfl) (by rfl)); exact rfl) | refine zsM ?_ | (refine zsp ?_ ?_ <;> (intro hc; (try simp only [zhcs, reduceCtorEq] at hc); (try (exfalso; first | (first | omega | exact absurd hc e) | contradiction | omega | exact absurd rfl hc | exact absurd (by decide) hc))))))
        all_goals ((with_reducible apply At.retB1 (B := [])); exact rfl; exact rfl; exact zml; exact zkp; exact ⟨rfl, rfl, rfl⟩)
    · rw [decide_eq_true (show a = b from Ls.ext! hlen fun i hi => hn i (by omega))]
      (repeat' (first | refine zss ?_ | refine zsM ?_ | (refine zsp ?_ ?_ <;> (intro hc; (try simp only [zhcs, reduceCtorEq] at hc); (try (exfalso; first | omega | contradiction | omega | exact absurd rfl hc | exact absurd (by decide) hc))))))
      all_goals ((with_reducible apply At.retB1 (B := [])); exact rfl; exact rfl; exact zml; exact zkp; exact ⟨rfl, rfl, rfl⟩)
  · rw [decide_eq_false (show ¬ a = b from fun h => hlen (by rw [h]))]
    refine Ct.enterV (by rfl) Tryz.func122 rfl Tryz.ntmps122 rfl (fun w0 Rest => ?_)
    (repeat' (first | refine zss ?_ | refine zsM ?_ | (refine zsp ?_ ?_ <;> (intro hc; (try simp only [zhcs, reduceCtorEq] at hc); (try (exfalso; first | omega | contradiction | omega | exact absurd rfl hc | exact absurd (by decide) hc))))))
    all_goals ((with_reducible apply At.retB1 (B := [])); exact rfl; exact rfl; exact zml; exact zkp; exact ⟨rfl, rfl, rfl⟩)
theorem same {m : Mem} (p : Option Addr) (c : Nat) (a : List Lab) (q : Option Addr) (d : Nat) (b : List Lab) (hl : a.length ≤ 1000000000) (hlb : b.length ≤ 1000000000) (sl0 : Sl m cells 2 p c a) (sl1 : Sl m cells 2 q d b) :
    Rd Tryz.prog 64 #[.slice p a.length c, .slice q b.length d] m [] (.bool (decide (a = b))) := by
  unfold Rd
  have h := fun (m' : Mem) (hm' : m.le m') => equal (m := m') p c a q d b hl hlb (sl0.mono hm') (sl1.mono hm')
  refine Ct.enterV (by rfl) Tryz.func64 rfl Tryz.ntmps64 rfl (fun w0 Rest => ?_)
  (repeat' (first | refine zss ?_ | refine zs0 ?_ | ((with_reducible first | apply AtM1.cr | apply AtQ.cr | apply At.cr); exact rfl; exact rfl; exact fun _ hmm => h _ hmm; exact ztk; kernel_rfl) | (refine zsp ?_ ?_ <;> (intro hc; (try simp only [zhcs, reduceCtorEq] at hc); (try (exfalso; first | contradiction | omega | exact absurd rfl hc | exact absurd (by decide) hc))))))
  all_goals ((with_reducible apply At.retB1 (B := [])); exact rfl; exact rfl; exact zml; exact zkp; exact ⟨rfl, rfl, rfl⟩)
end Lb
end Go.Proofs.YtkoijdmlehkhbaaGreatDoor
namespace Go.Proofs.YtkoijdmlehkhbaaGreatDoor
open Go Go.J
attribute [local irreducible] At AtQ AtM AtM1 PR Ct Pu Rd Res.blk Res.own Res.ex RVs RV
namespace Se
def eqB (x y : Ser) : Prop := x.lab.l = y.lab.l ∧ x.last = y.last ∧ (x.lost = y.lost ∧ x.mark = y.mark ∧ x.raw.l = y.raw.l) ∧ x.op = y.op
instance (x y : Ser) : Decidable (eqB x y) := by unfold eqB; infer_instance
def eqS (x y : Ser) : Bool := ex3 (decide (eqB x y)) (decide (x.t0.l = y.t0.l)) (decide (x.t1.l = y.t1.l)) (decide (x.t2.l = y.t2.l)) 3
theorem eqS_iff {x y : Ser} : eqS x y = true ↔ eqB x y ∧ x.t0.l = y.t0.l ∧ x.t1.l = y.t1.l ∧ x.t2.l = y.t2.l := by
  show (decide (eqB x y) && decide (x.t0.l = y.t0.l) && decide (x.t1.l = y.t1.l) && decide (x.t2.l = y.t2.l)) = true ↔ _
  simp only [Bool.and_eq_true, decide_eq_true_eq, and_assoc]
set_option maxRecDepth 100000 in
theorem sameS {m : Mem} (x y : Ser) (hx : x.Ok m) (hy : y.Ok m) : Rd Tryz.prog 27 #[x.v, y.v] m [] (.bool (eqS x y)) := by
  unfold Rd
  have kl := fun (m' : Mem) (h : m.le m') => Lb.same (m := m') x.lab.p x.lab.c x.lab.l y.lab.p y.lab.c y.lab.l (Nat.le_trans hx.nl (by decide)) (Nat.le_trans hy.nl (by decide)) (hx.sl.mono h) (hy.sl.mono h)
  have kr := fun (m' : Mem) (h : m.le m') => Raw.same (m := m') ⟨x.lost, x.mark, x.raw.p, x.raw.c, x.raw.l⟩ ⟨y.lost, y.mark, y.raw.p, y.raw.c, y.raw.l⟩ hx.nr hy.nr (hx.sr.mono h) (hy.sr.mono h)
  have k0 := fun (m' : Mem) (h : m.le m') => equalS (m := m') x.t0.p x.t0.c x.t0.l y.t0.p y.t0.c y.t0.l hx.n0 hy.n0 (hx.s0.mono h) (hy.s0.mono h)
  have k1 := fun (m' : Mem) (h : m.le m') => equalS (m := m') x.t1.p x.t1.c x.t1.l y.t1.p y.t1.c y.t1.l hx.n1 hy.n1 (hx.s1.mono h) (hy.s1.mono h)
  have k2 := fun (m' : Mem) (h : m.le m') => equalS (m := m') x.t2.p x.t2.c x.t2.l y.t2.p y.t2.c y.t2.l hx.n2 hy.n2 (hx.s2.mono h) (hy.s2.mono h)
  unfold Raw.eqR at kr
  dsimp only at kr
  unfold eqS
  rw [show decide (eqB x y) = decide (x.lab.l = y.lab.l ∧ x.last = y.last ∧ (x.lost = y.lost ∧ x.mark = y.mark ∧ x.raw.l = y.raw.l) ∧ x.op = y.op) from decide_eq_decide.2 Iff.rfl]
  generalize decide (x.t0.l = y.t0.l) = q0 at k0 ⊢
  generalize decide (x.t1.l = y.t1.l) = q1 at k1 ⊢
  generalize decide (x.t2.l = y.t2.l) = q2 at k2 ⊢
  clear hx hy
  refine Ct.enterV (by rfl) Tryz.func27 rfl Tryz.ntmps27 rfl (fun w0 Rest => ?_)
  (repeat' (first | (refine At.cutp (id := 1) (x.lab.l = y.lab.l ∧ x.last = y.last ∧ (x.lost = y.lost ∧ x.mark = y.mark ∧ x.raw.l = y.raw.l) ∧ x.op = y.op) 5 [2, 3] (by rfl) ?_ ?_) | refine zss ?_ | ((first | (with_reducible first | apply At.val | apply AtQ.val)); (exact Ti.pr_sleq (a := x.op) (b := y.op) (by rfl) (by rfl)); exact rfl) | refine zsM ?_ | ((with_reducible first | apply AtM1.cr | apply AtQ.cr | apply At.cr); exact rfl; exact rfl; exact fun _ hmm => kl _ hmm; exact ztk; kernel_rfl) | ((with_reducible first | apply AtM1.cr | apply AtQ.cr | apply At.cr); exact rfl; exact rfl; exact fun _ hmm => kr _ hmm; exact ztk; kernel_rfl) | ((with_reducible apply At.endp); exact rfl; exact zsubs; exact zml; exact zente; (first | (simp_all; done) | (simp_all <;> omega))) | ((with_reducible apply At.box (d := 2)); exact rfl; exact rfl; exact rfl; intro b2) | ((with_reducible apply At.box (d := 3)); exact rfl; exact rfl; exact rfl; intro b3) | (refine zsp ?_ ?_ <;> (intro hc; (try simp only [zhcs, reduceCtorEq] at hc); (try (exfalso; first | (first | omega | exact absurd rfl hc) | contradiction | omega | exact absurd rfl hc | exact absurd (by decide) hc))))))
  generalize decide (x.lab.l = y.lab.l ∧ x.last = y.last ∧ (x.lost = y.lost ∧ x.mark = y.mark ∧ x.raw.l = y.raw.l) ∧ x.op = y.op) = b0
  clear kl kr
  (refine At.loopk (σ := DS) [3, 35] (fun s F0 => (36, .int .i64 (s.j : Int)) :: (5, .bool s.q) :: F0) (fun s => m) (fun s => .blk b3 63 y.cells :: .blk b2 63 x.cells :: Rest) (fun s => s.j ≤ 3 ∧ s.q = ex3 b0 q0 q1 q2 s.j) (fun s => 3 - s.j) ⟨0, b0⟩ (by rfl) ?_ zsubs zml zente ?_)
  · exact ⟨Nat.zero_le _, rfl⟩
  rintro ⟨j, q⟩ ⟨hs, e⟩
  dsimp only at hs e ⊢
  rcases (show j = 0 ∨ j = 1 ∨ j = 2 ∨ j = 3 by omega) with rfl | rfl | rfl | rfl
  · replace e : q = b0 := e
    cases q
    · (repeat' (first | refine zss ?_ | ((first | (with_reducible first | apply At.val | apply AtQ.val)); (exact pr_index_agg (k := 0) (by rfl) (by rfl) (by rfl) (by rfl) (by rfl) (by rfl) (by rfl)); exact rfl) | refine zsM ?_ | ((with_reducible apply At.box (d := 2)); exact rfl; exact rfl; exact rfl; intro b2) | ((with_reducible apply At.box (d := 3)); exact rfl; exact rfl; exact rfl; intro b3) | (refine zsp ?_ ?_ <;> (intro hc; (try simp only [zhcs, reduceCtorEq] at hc); (try (exfalso; first | (first | omega | exact absurd rfl hc) | contradiction | omega | exact absurd rfl hc | exact absurd (by decide) hc))))))
      all_goals ((with_reducible refine At.reachk (⟨1, false⟩) ?_ ?_ ?_ ?_); exact zsubs; exact zml; exact zente; exact ⟨⟨(by decide : 1 ≤ 3), by show false = (b0 && q0); rw [← e]; rfl⟩, (by decide : 3 - 1 < 3 - 0)⟩)
    · (repeat' (first | refine zss ?_ | ((first | (with_reducible first | apply At.val | apply AtQ.val)); (first | exact pr_index_agg (k := 0) (by rfl) (by rfl) (by rfl) (by rfl) (by rfl) (by rfl) (by rfl) | exact pr_indexArr (k := 0) (by rfl) (by rfl) (by rfl) (by rfl) (by decide)); exact rfl) | refine zsM ?_ | ((with_reducible first | apply AtM1.cr | apply AtQ.cr | apply At.cr); exact rfl; exact rfl; exact fun _ hmm => k0 _ hmm; exact ztk; kernel_rfl) | ((with_reducible apply At.box (d := 2)); exact rfl; exact rfl; exact rfl; intro b2) | ((with_reducible apply At.box (d := 3)); exact rfl; exact rfl; exact rfl; intro b3) | (refine zsp ?_ ?_ <;> (intro hc; (try simp only [zhcs, reduceCtorEq] at hc); (try (exfalso; first | (first | omega | exact absurd rfl hc) | contradiction | omega | exact absurd rfl hc | exact absurd (by decide) hc))))))
      all_goals ((with_reducible refine At.reachk (⟨1, q0⟩) ?_ ?_ ?_ ?_); exact zsubs; exact zml; exact zente; exact ⟨⟨(by decide : 1 ≤ 3), by show q0 = (b0 && q0); rw [← e]; rfl⟩, (by decide : 3 - 1 < 3 - 0)⟩)
  · replace e : q = (b0 && q0) := e
    cases q
    · (repeat' (first | refine zss ?_ | ((first | (with_reducible first | apply At.val | apply AtQ.val)); (exact pr_index_agg (k := 1) (by rfl) (by rfl) (by rfl) (by rfl) (by rfl) (by rfl) (by rfl)); exact rfl) | refine zsM ?_ | ((with_reducible apply At.box (d := 2)); exact rfl; exact rfl; exact rfl; intro b2) | ((with_reducible apply At.box (d := 3)); exact rfl; exact rfl; exact rfl; intro b3) | (refine zsp ?_ ?_ <;> (intro hc; (try simp only [zhcs, reduceCtorEq] at hc); (try (exfalso; first | (first | omega | exact absurd rfl hc) | contradiction | omega | exact absurd rfl hc | exact absurd (by decide) hc))))))
      all_goals ((with_reducible refine At.reachk (⟨2, false⟩) ?_ ?_ ?_ ?_); exact zsubs; exact zml; exact zente; exact ⟨⟨(by decide : 2 ≤ 3), by show false = (b0 && q0 && q1); rw [← e]; rfl⟩, (by decide : 3 - 2 < 3 - 1)⟩)
    · (repeat' (first | refine zss ?_ | ((first | (with_reducible first | apply At.val | apply AtQ.val)); (first | exact pr_index_agg (k := 1) (by rfl) (by rfl) (by rfl) (by rfl) (by rfl) (by rfl) (by rfl) | exact pr_indexArr (k := 1) (by rfl) (by rfl) (by rfl) (by rfl) (by decide)); exact rfl) | refine zsM ?_ | ((with_reducible first | apply AtM1.cr | apply AtQ.cr | apply At.cr); exact rfl; exact rfl; exact fun _ hmm => k1 _ hmm; exact ztk; kernel_rfl) | ((with_reducible apply At.box (d := 2)); exact rfl; exact rfl; exact rfl; intro b2) | ((with_reducible apply At.box (d := 3)); exact rfl; exact rfl; exact rfl; intro b3) | (refine zsp ?_ ?_ <;> (intro hc; (try simp only [zhcs, reduceCtorEq] at hc); (try (exfalso; first | (first | omega | exact absurd rfl hc) | contradiction | omega | exact absurd rfl hc | exact absurd (by decide) hc))))))
      all_goals ((with_reducible refine At.reachk (⟨2, q1⟩) ?_ ?_ ?_ ?_); exact zsubs; exact zml; exact zente; exact ⟨⟨(by decide : 2 ≤ 3), by show q1 = (b0 && q0 && q1); rw [← e]; rfl⟩, (by decide : 3 - 2 < 3 - 1)⟩)
  · replace e : q = (b0 && q0 && q1) := e
    cases q
    · (repeat' (first | refine zss ?_ | ((first | (with_reducible first | apply At.val | apply AtQ.val)); (exact pr_index_agg (k := 2) (by rfl) (by rfl) (by rfl) (by rfl) (by rfl) (by rfl) (by rfl)); exact rfl) | refine zsM ?_ | ((with_reducible apply At.box (d := 2)); exact rfl; exact rfl; exact rfl; intro b2) | ((with_reducible apply At.box (d := 3)); exact rfl; exact rfl; exact rfl; intro b3) | (refine zsp ?_ ?_ <;> (intro hc; (try simp only [zhcs, reduceCtorEq] at hc); (try (exfalso; first | (first | omega | exact absurd rfl hc) | contradiction | omega | exact absurd rfl hc | exact absurd (by decide) hc))))))
      all_goals ((with_reducible refine At.reachk (⟨3, false⟩) ?_ ?_ ?_ ?_); exact zsubs; exact zml; exact zente; exact ⟨⟨(by decide : 3 ≤ 3), by show false = (b0 && q0 && q1 && q2); rw [← e]; rfl⟩, (by decide : 3 - 3 < 3 - 2)⟩)
    · (repeat' (first | refine zss ?_ | ((first | (with_reducible first | apply At.val | apply AtQ.val)); (first | exact pr_index_agg (k := 2) (by rfl) (by rfl) (by rfl) (by rfl) (by rfl) (by rfl) (by rfl) | exact pr_indexArr (k := 2) (by rfl) (by rfl) (by rfl) (by rfl) (by decide)); exact rfl) | refine zsM ?_ | ((with_reducible first | apply AtM1.cr | apply AtQ.cr | apply At.cr); exact rfl; exact rfl; exact fun _ hmm => k2 _ hmm; exact ztk; kernel_rfl) | ((with_reducible apply At.box (d := 2)); exact rfl; exact rfl; exact rfl; intro b2) | ((with_reducible apply At.box (d := 3)); exact rfl; exact rfl; exact rfl; intro b3) | (refine zsp ?_ ?_ <;> (intro hc; (try simp only [zhcs, reduceCtorEq] at hc); (try (exfalso; first | (first | omega | exact absurd rfl hc) | contradiction | omega | exact absurd rfl hc | exact absurd (by decide) hc))))))
      all_goals ((with_reducible refine At.reachk (⟨3, q2⟩) ?_ ?_ ?_ ?_); exact zsubs; exact zml; exact zente; exact ⟨⟨(by decide : 3 ≤ 3), by show q2 = (b0 && q0 && q1 && q2); rw [← e]; rfl⟩, (by decide : 3 - 3 < 3 - 2)⟩)
  · replace e : q = (b0 && q0 && q1 && q2) := e
    subst e
    (repeat' (first | refine zss ?_ | refine zsM ?_ | ((with_reducible apply At.box (d := 2)); exact rfl; exact rfl; exact rfl; intro b2) | ((with_reducible apply At.box (d := 3)); exact rfl; exact rfl; exact rfl; intro b3) | (refine zsp ?_ ?_ <;> (intro hc; (try simp only [zhcs, reduceCtorEq] at hc); (try (exfalso; first | (first | omega | exact absurd rfl hc) | contradiction | omega | exact absurd rfl hc | exact absurd (by decide) hc))))))
    all_goals ((with_reducible apply At.retB1 (B := [])); exact rfl; exact rfl; exact zml; exact zkp; exact ⟨rfl, rfl, rfl⟩)
end Se
end Go.Proofs.YtkoijdmlehkhbaaGreatDoor
namespace Go.Proofs.YtkoijdmlehkhbaaGreatDoor
open Go Go.J
attribute [local irreducible] At AtQ AtM AtM1 PR Ct Pu Rd Res.blk Res.own Res.ex RVs RV
/-- a state -/
structure Sta where
  (k : Cfg) (now swept : Int) (pl : Lst Ser)
namespace Sta
abbrev cells (s : Sta) : List Value := [.int .i64 s.k.r, .int .i64 s.k.a, .int .i64 s.k.b, .int .i64 s.k.d, .int .i64 s.k.x, .int .i64 s.k.y, .int .i64 s.k.w, .int .i64 s.k.c, .int .i64 s.k.g, .int .i64 s.now, .int .i64 s.swept, s.pl.v]
abbrev v (s : Sta) : Value := .agg (cells s).toArray
abbrev z : Sta := ⟨⟨0, 0, 0, 0, 0, 0, 0, 0, 0⟩, 0, 0, Lst.nil⟩
structure Ok (m : Mem) (s : Sta) : Prop where
  sl : Sl m Ser.cells 23 s.pl.p s.pl.c s.pl.l
  pk : ∀ x ∈ s.pl.l, Ser.Ok m x
  np : s.pl.l.length ≤ 1000000
  bn : -9223372036854775808 ≤ s.now ∧ s.now ≤ 9223372036854775807
  bs : -9223372036854775808 ≤ s.swept ∧ s.swept ≤ 9223372036854775807
theorem Ok.mono {m m' : Mem} {s : Sta} (h : Ok m s) (hm : m.le m') : Ok m' s := ⟨h.sl.mono hm, fun x hx => (h.pk x hx).mono hm, h.np, h.bn, h.bs⟩
theorem Ok.at {m : Mem} {s : Sta} (h : Ok m s) {i : Nat} (hi : i < s.pl.l.length) : Ser.Ok m s.pl.l[i]! := h.pk _ (Ls.mem! hi)
end Sta
namespace St
open Se Win
def tm (t : Int) : Prop := 0 ≤ t ∧ t < 35184372088832
instance (t : Int) : Decidable (tm t) := by unfold tm; infer_instance
theorem time (t : Int) : Pu Tryz.prog 81 #[.int .i64 t] (.bool (decide (tm t))) := Pu.intro fun m => by
  unfold tm
  refine Ct.enterV (by rfl) Tryz.func81 rfl Tryz.ntmps81 rfl (fun w0 Rest => ?_)
  (repeat' (first | refine zss ?_ | refine zs0 ?_ | (refine zsp ?_ ?_ <;> (intro hc; (try simp only [zhcs, reduceCtorEq] at hc); (try (exfalso; first | contradiction | omega | exact absurd rfl hc | exact absurd (by decide) hc))))))
  all_goals ((with_reducible apply At.retB1 (B := [])); exact rfl; exact rfl; exact zml; exact zkp; exact ⟨congrArg Value.bool (by simp [hc]), rfl, rfl⟩)
theorem zok (m : Mem) : Ser.z.Ok m where
  sl := Sl.empty m inferInstance
  sr := Sl.empty m inferInstance
  s0 := Sl.empty m inferInstance
  s1 := Sl.empty m inferInstance
  s2 := Sl.empty m inferInstance
  ml := fun i hi => absurd hi (Nat.not_lt_zero i)
  i0 := fun x hx => by cases hx
  i1 := fun x hx => by cases hx
  i2 := fun x hx => by cases hx
  io := ⟨⟨by decide, by decide⟩, ⟨by decide, by decide⟩, by decide, by decide, by decide⟩
  ir := fun e he => by cases he
  nl := Nat.zero_le _
  nr := Nat.zero_le _
  n0 := Nat.zero_le _
  n1 := Nat.zero_le _
  n2 := Nat.zero_le _
  bl := ⟨by decide, by decide⟩
/-- a place has no series -/
def emp (x : Ser) : Bool := eqS x Ser.z
theorem empty {m : Mem} (x : Ser) (hx : x.Ok m) : Rd Tryz.prog 82 #[x.v] m [] (.bool (emp x)) := by
  unfold Rd
  have k := fun (m' : Mem) (h : m.le m') => sameS x Ser.z (hx.mono h) (zok m')
  unfold emp
  refine Ct.enterV (by rfl) Tryz.func82 rfl Tryz.ntmps82 rfl (fun w0 Rest => ?_)
  (repeat' (first | refine zss ?_ | refine zsM ?_ | ((with_reducible first | apply AtM1.cr | apply AtQ.cr | apply At.cr); exact rfl; exact rfl; exact fun _ hmm => k _ hmm; exact ztk; kernel_rfl) | ((with_reducible apply At.box (d := 1)); exact rfl; exact rfl; exact rfl; intro b1) | (refine zsp ?_ ?_ <;> (intro hc; (try simp only [zhcs, reduceCtorEq] at hc); (try (exfalso; first | contradiction | omega | exact absurd rfl hc | exact absurd (by decide) hc))))))
  all_goals ((with_reducible apply At.retB1 (B := [])); exact rfl; exact rfl; exact zml; exact zkp; exact ⟨rfl, rfl, rfl⟩)
/-- a state may be asked -/
def whole (s : Sta) : Prop := s.k.ok ∧ (s.pl.l.length : Int) = s.k.c
instance (s : Sta) : Decidable (whole s) := by unfold whole; infer_instance
theorem openK (s : Sta) (h : whole s) : Pu Tryz.prog 35 #[s.v] (.tuple #[s.v, .int .i64 0]) := Pu.intro fun m => by
  have k0 := Cfg.check s.k
  unfold Cfg.chk at k0
  rw [if_pos h.1] at k0
  have h2 := h.2
  clear h
  refine Ct.enterV (by rfl) Tryz.func35 rfl Tryz.ntmps35 rfl (fun w0 Rest => ?_)
  (repeat' (first | refine zss ?_ | refine zs0 ?_ | ((with_reducible first | apply AtM1.callp | apply AtQ.callp | apply At.callp); kernel_rfl; exact rfl; exact rfl; exact k0) | ((with_reducible apply At.box (d := 1)); exact rfl; exact rfl; exact rfl; intro b1) | ((with_reducible apply At.alloc (d := 2)); exact rfl; exact rfl; intro b2) | (refine zsp ?_ ?_ <;> (intro hc; (try simp only [zhcs, reduceCtorEq] at hc); (try (exfalso; first | (first | omega | exact absurd h2 hc) | contradiction | omega | exact absurd rfl hc | exact absurd (by decide) hc))))))
  all_goals ((with_reducible apply At.retV (B := [])); exact rfl; (repeat' (first | exact RVs.nil | (with_reducible apply RVs.cons) | exact rv_tmp (by rfl) | exact rv_cellN (by rfl) (by repeat constructor) (by rfl) (by rfl) (by rfl) | exact rv_cell1 (by rfl) (by repeat constructor) (by rfl) (by rfl))); exact zml; exact zkp; exact ⟨rfl, rfl, rfl⟩)
theorem openN (s : Sta) (h : ¬ whole s) : Pu Tryz.prog 35 #[s.v] (.tuple #[Sta.z.v, .int .i64 2]) := Pu.intro fun m => by
  have k0 := Cfg.check s.k
  unfold Cfg.chk at k0
  by_cases h0 : s.k.ok
  · rw [if_pos h0] at k0
    have h2 : ¬ (s.pl.l.length : Int) = s.k.c := fun e => h ⟨h0, e⟩
    refine Ct.enterV (by rfl) Tryz.func35 rfl Tryz.ntmps35 rfl (fun w0 Rest => ?_)
    (repeat' (first | refine zss ?_ | refine zs0 ?_ | ((with_reducible first | apply AtM1.callp | apply AtQ.callp | apply At.callp); kernel_rfl; exact rfl; exact rfl; exact k0) | ((with_reducible apply At.box (d := 1)); exact rfl; exact rfl; exact rfl; intro b1) | ((with_reducible apply At.alloc (d := 2)); exact rfl; exact rfl; intro b2) | (refine zsp ?_ ?_ <;> (intro hc; (try simp only [zhcs, reduceCtorEq] at hc); (try (exfalso; first | (first | omega | exact absurd hc h2) | contradiction | omega | exact absurd rfl hc | exact absurd (by decide) hc))))))
    all_goals ((with_reducible apply At.retV (B := [])); exact rfl; (repeat' (first | exact RVs.nil | (with_reducible apply RVs.cons) | exact rv_tmp (by rfl) | exact rv_cellN (by rfl) (by repeat constructor) (by rfl) (by rfl) (by rfl) | exact rv_cell1 (by rfl) (by repeat constructor) (by rfl) (by rfl))); exact zml; exact zkp; exact ⟨rfl, rfl, rfl⟩)
  · rw [if_neg h0] at k0
    refine Ct.enterV (by rfl) Tryz.func35 rfl Tryz.ntmps35 rfl (fun w0 Rest => ?_)
    (repeat' (first | refine zss ?_ | refine zs0 ?_ | ((with_reducible first | apply AtM1.callp | apply AtQ.callp | apply At.callp); kernel_rfl; exact rfl; exact rfl; exact k0) | ((with_reducible apply At.box (d := 1)); exact rfl; exact rfl; exact rfl; intro b1) | ((with_reducible apply At.alloc (d := 2)); exact rfl; exact rfl; intro b2) | (refine zsp ?_ ?_ <;> (intro hc; (try simp only [zhcs, reduceCtorEq] at hc); (try (exfalso; first | omega | contradiction | omega | exact absurd rfl hc | exact absurd (by decide) hc))))))
    all_goals ((with_reducible apply At.retV (B := [])); exact rfl; (repeat' (first | exact RVs.nil | (with_reducible apply RVs.cons) | exact rv_tmp (by rfl) | exact rv_cellN (by rfl) (by repeat constructor) (by rfl) (by rfl) (by rfl) | exact rv_cell1 (by rfl) (by repeat constructor) (by rfl) (by rfl))); exact zml; exact zkp; exact ⟨rfl, rfl, rfl⟩)
/-- its times may be -/
def clk (s : Sta) : Prop := tm s.now ∧ (s.swept = -1 ∨ tm s.swept) ∧ s.swept ≤ s.now
instance (s : Sta) : Decidable (clk s) := by unfold clk; infer_instance
theorem clock (s : Sta) : Pu Tryz.prog 36 #[s.v] (.bool (decide (clk s))) := Pu.intro fun m => by
  have k1 := time s.now
  have k2 := time s.swept
  rw [show decide (clk s) = decide (tm s.now ∧ (s.swept = -1 ∨ tm s.swept) ∧ s.swept ≤ s.now) from decide_eq_decide.2 Iff.rfl]
  by_cases h1 : tm s.now
  rotate_left
  · rw [decide_eq_false h1] at k1
    rw [decide_eq_false (fun h => h1 h.1)]
    refine Ct.enterV (by rfl) Tryz.func36 rfl Tryz.ntmps36 rfl (fun w0 Rest => ?_)
    (repeat' (first | refine zss ?_ | refine zs0 ?_ | ((with_reducible first | apply AtM1.callp | apply AtQ.callp | apply At.callp); kernel_rfl; exact rfl; exact rfl; exact k1) | ((with_reducible apply At.box (d := 1)); exact rfl; exact rfl; exact rfl; intro b1) | (refine zsp ?_ ?_ <;> (intro hc; (try simp only [zhcs, reduceCtorEq] at hc); (try (exfalso; first | omega | contradiction | omega | exact absurd rfl hc | exact absurd (by decide) hc))))))
    all_goals ((with_reducible apply At.retB1 (B := [])); exact rfl; exact rfl; exact zml; exact zkp; exact ⟨rfl, rfl, rfl⟩)
  rw [decide_eq_true h1] at k1
  by_cases h2 : tm s.swept
  · rw [decide_eq_true h2] at k2
    refine Ct.enterV (by rfl) Tryz.func36 rfl Tryz.ntmps36 rfl (fun w0 Rest => ?_)
    (repeat' (first | refine zss ?_ | refine zs0 ?_ | ((with_reducible first | apply AtM1.callp | apply AtQ.callp | apply At.callp); kernel_rfl; exact rfl; exact rfl; exact k1) | ((with_reducible first | apply AtM1.callp | apply AtQ.callp | apply At.callp); kernel_rfl; exact rfl; exact rfl; exact k2) | ((with_reducible apply At.box (d := 1)); exact rfl; exact rfl; exact rfl; intro b1) | (refine zsp ?_ ?_ <;> (intro hc; (try simp only [zhcs, reduceCtorEq] at hc); (try (exfalso; first | omega | contradiction | omega | exact absurd rfl hc | exact absurd (by decide) hc))))))
    all_goals ((with_reducible apply At.retB1 (B := [])); exact rfl; exact rfl; exact zml; exact zkp; exact ⟨congrArg Value.bool (by simp [h1, h2]), rfl, rfl⟩)
  · rw [decide_eq_false h2] at k2
    refine Ct.enterV (by rfl) Tryz.func36 rfl Tryz.ntmps36 rfl (fun w0 Rest => ?_)
    (repeat' (first | refine zss ?_ | refine zs0 ?_ | ((with_reducible first | apply AtM1.callp | apply AtQ.callp | apply At.callp); kernel_rfl; exact rfl; exact rfl; exact k1) | ((with_reducible first | apply AtM1.callp | apply AtQ.callp | apply At.callp); kernel_rfl; exact rfl; exact rfl; exact k2) | ((with_reducible apply At.box (d := 1)); exact rfl; exact rfl; exact rfl; intro b1) | (refine zsp ?_ ?_ <;> (intro hc; (try simp only [zhcs, reduceCtorEq] at hc); (try (exfalso; first | omega | contradiction | omega | exact absurd rfl hc | exact absurd (by decide) hc))))))
    all_goals ((with_reducible apply At.retB1 (B := [])); exact rfl; exact rfl; exact zml; exact zkp; exact ⟨congrArg Value.bool (by simp_all), rfl, rfl⟩)
/-- where the open window begins -/
def mk (s : Sta) : Int := s.now - s.now % s.k.a
theorem mark (s : Sta) (hk : s.k.ok) (ht : tm s.now) : Pu Tryz.prog 84 #[s.v] (.int .i64 (mk s)) := Pu.intro fun m => by
  have ha := hk.ha
  obtain ⟨h1, h2⟩ := ht
  have f := mod_bd (t := s.now) (w := s.k.a) ha.1
  have fm : s.now.tmod s.k.a = s.now % s.k.a := by rw [Int.tmod_eq_emod_of_nonneg h1]
  unfold mk
  refine Ct.enterV (by rfl) Tryz.func84 rfl Tryz.ntmps84 rfl (fun w0 Rest => ?_)
  (repeat' (first | refine zss ?_ | ((first | (with_reducible first | apply At.val | apply AtQ.val)); (first | exact pr_rem (by rfl) (by rfl) (by omega) fm | exact pr_indexArr (k := 0) (by rfl) (by rfl) (by rfl) (by rfl) (by decide)); exact rfl) | refine zs0 ?_ | ((with_reducible apply At.box (d := 1)); exact rfl; exact rfl; exact rfl; intro b1) | (refine zsp ?_ ?_ <;> (intro hc; (try simp only [zhcs, reduceCtorEq] at hc); (try (exfalso; first | omega | contradiction | omega | exact absurd rfl hc | exact absurd (by decide) hc))))))
  all_goals ((with_reducible apply At.retB1 (B := [])); exact rfl; exact rfl; exact zml; exact zkp; exact ⟨rfl, rfl, rfl⟩)
/-- a series lives -/
def liv (s : Sta) (x : Ser) : Bool := !emp x && (decide (s.swept = -1) || !dead s.k x.last s.swept)
theorem lives {m : Mem} (s : Sta) (i : Nat) (hs : s.Ok m) (hi : i < s.pl.l.length) : Rd Tryz.prog 45 #[s.v, .int .i64 (i : Int)] m [] (.bool (liv s s.pl.l[i]!)) := by
  unfold Rd
  have sl0 := hs.sl
  have np := hs.np
  have k1 := fun (m' : Mem) (h : m.le m') => empty s.pl.l[i]! ((hs.at hi).mono h)
  have k2 := deadF s.k s.pl.l[i]!.last s.swept
  unfold liv
  generalize emp s.pl.l[i]! = e at k1 ⊢
  generalize dead s.k s.pl.l[i]!.last s.swept = d at k2 ⊢
  clear hs
  cases e
  rotate_left
  · refine Ct.enterV (by rfl) Tryz.func45 rfl Tryz.ntmps45 rfl (fun w0 Rest => ?_)
    (repeat' (first | refine zss ?_ | refine zsM ?_ | ((with_reducible first | apply AtM1.cr | apply AtQ.cr | apply At.cr); exact rfl; exact rfl; exact fun _ hmm => k1 _ hmm; exact ztk; kernel_rfl) | ((with_reducible apply At.box (d := 2)); exact rfl; exact rfl; exact rfl; intro b2) | ((with_reducible apply At.alloc (d := 5)); exact rfl; exact rfl; intro b5) | (refine zsp ?_ ?_ <;> (intro hc; (try simp only [zhcs, reduceCtorEq] at hc); (try (exfalso; first | (first | omega | exact absurd rfl hc) | contradiction | omega | exact absurd rfl hc | exact absurd (by decide) hc))))))
    all_goals ((with_reducible apply At.retB1 (B := [])); exact rfl; exact rfl; exact zml; exact zkp; exact ⟨rfl, rfl, rfl⟩)
  by_cases hw : s.swept = -1
  · rw [decide_eq_true hw]
    refine Ct.enterV (by rfl) Tryz.func45 rfl Tryz.ntmps45 rfl (fun w0 Rest => ?_)
    (repeat' (first | refine zss ?_ | refine zsM ?_ | ((with_reducible first | apply AtM1.cr | apply AtQ.cr | apply At.cr); exact rfl; exact rfl; exact fun _ hmm => k1 _ hmm; exact ztk; kernel_rfl) | ((with_reducible apply At.box (d := 2)); exact rfl; exact rfl; exact rfl; intro b2) | ((with_reducible apply At.alloc (d := 5)); exact rfl; exact rfl; intro b5) | (refine zsp ?_ ?_ <;> (intro hc; (try simp only [zhcs, reduceCtorEq] at hc); (try (exfalso; first | (first | omega | exact absurd rfl hc | exact absurd hw hc) | contradiction | omega | exact absurd rfl hc | exact absurd (by decide) hc))))))
    all_goals ((with_reducible apply At.retB1 (B := [])); exact rfl; exact rfl; exact zml; exact zkp; exact ⟨rfl, rfl, rfl⟩)
  · rw [decide_eq_false hw]
    refine Ct.enterV (by rfl) Tryz.func45 rfl Tryz.ntmps45 rfl (fun w0 Rest => ?_)
    (repeat' (first | refine zss ?_ | refine zsM ?_ | ((with_reducible first | apply AtM1.cr | apply AtQ.cr | apply At.cr); exact rfl; exact rfl; exact fun _ hmm => k1 _ hmm; exact ztk; kernel_rfl) | ((with_reducible first | apply AtM1.callp | apply AtQ.callp | apply At.callp); kernel_rfl; exact rfl; exact rfl; exact k2) | ((with_reducible apply At.box (d := 2)); exact rfl; exact rfl; exact rfl; intro b2) | ((with_reducible apply At.alloc (d := 5)); exact rfl; exact rfl; intro b5) | (refine zsp ?_ ?_ <;> (intro hc; (try simp only [zhcs, reduceCtorEq] at hc); (try (exfalso; first | (first | omega | exact absurd rfl hc | exact absurd hc hw) | contradiction | omega | exact absurd rfl hc | exact absurd (by decide) hc))))))
    all_goals ((with_reducible apply At.retB1 (B := [])); exact rfl; exact rfl; exact zml; exact zkp; exact ⟨by first | rfl | (cases d <;> rfl), rfl, rfl⟩)
end St
end Go.Proofs.YtkoijdmlehkhbaaGreatDoor
namespace Go.J
open Go
theorem take_app (A Y : List Res) : Take A (A ++ Y) Y := by
  induction A with
  | nil => exact Take.nil
  | cons X A ih => exact Take.cons .here ih
theorem keep_app (A Y : List Res) : Keep A (A ++ Y) Y := by
  induction A with
  | nil => exact Keep.nil
  | cons X A ih => exact Keep.cons .here ih
end Go.J
namespace Go.Proofs.YtkoijdmlehkhbaaGreatDoor
open Go Go.J
attribute [local irreducible] At AtQ AtM AtM1 PR Ct Pu Rd Res.blk Res.own Res.ex RVs RV
namespace St
open Se Win
/-- the first place of which something holds -/
def Fst (n : Nat) (q : Nat → Bool) (v : Value) : Prop := (v = .int .i64 (-1) ∧ ∀ i, i < n → q i = false) ∨ ∃ k : Nat, v = .int .i64 (k : Int) ∧ k < n ∧ q k = true ∧ ∀ i, i < k → q i = false
theorem place {m : Mem} (u : Sta) (g : FuncId) (caps : List Value) (A : List Res) (q : Nat → Bool) (hs : u.Ok m) (hg : goFn Tryz.prog g = true)
    (hq : ∀ m', m.le m' → ∀ i : Nat, i < u.pl.l.length → Ct Tryz.prog g (.int .i64 (i : Int) :: caps).toArray m' A (fun v m'' B => v = .bool (q i) ∧ m' = m'' ∧ B = A)) :
    Ct Tryz.prog 37 #[u.v, .func (.func g) #[] caps.toArray] m A (fun v m' B => Fst u.pl.l.length q v ∧ m = m' ∧ B = A) := by
  have np := hs.np
  clear hs
  refine Ct.enterV (by rfl) Tryz.func37 rfl Tryz.ntmps37 rfl (fun w0 Rest => ?_)
  (repeat' (first | refine zss ?_ | refine zsM ?_ | ((with_reducible apply At.box (d := 2)); exact rfl; exact rfl; exact rfl; intro b2) | (refine zsp ?_ ?_ <;> (intro hc; (try simp only [zhcs, reduceCtorEq] at hc); (try (exfalso; first | omega | contradiction | omega | exact absurd rfl hc | exact absurd (by decide) hc))))))
  (refine At.loopk (σ := Nat) [1, 9] (fun s F0 => (10, .int .i64 (s : Int)) :: F0) (fun s => m) (fun s => A ++ Rest) (fun s => s ≤ u.pl.l.length ∧ ∀ i, i < s → q i = false) (fun s => u.pl.l.length - s) 0 (by rfl) ?_ zsubs zml zente ?_)
  · exact ⟨Nat.zero_le _, fun i hi => absurd hi (Nat.not_lt_zero i)⟩
  rintro s ⟨hs, hn⟩
  by_cases h : s < u.pl.l.length
  · have hk := hq m (Mem.le_refl _) s h
    cases e : q s
    · rw [e] at hk
      have hnn : ∀ i, i < s + 1 → q i = false := fun i hi => by
        by_cases e1 : i = s
        · subst e1; exact e
        · exact hn i (by omega)
      (repeat' (first | refine zss ?_ | refine zsM ?_ | ((with_reducible apply At.callf); exact rfl; exact hg; exact rfl; exact rfl; exact hk; exact take_app A Rest; rintro v' m' B' hm' ⟨rfl, rfl, rfl⟩) | ((with_reducible apply At.box (d := 2)); exact rfl; exact rfl; exact rfl; intro b2) | (refine zsp ?_ ?_ <;> (intro hc; (try simp only [zhcs, reduceCtorEq] at hc); (try (exfalso; first | omega | contradiction | omega | exact absurd rfl hc | exact absurd (by decide) hc))))))
      all_goals ((with_reducible refine At.reachk ((s + 1)) ?_ ?_ ?_ ?_); exact zsubs; exact zml; exact zente; exact ⟨⟨h, hnn⟩, by omega⟩)
    · rw [e] at hk
      (repeat' (first | refine zss ?_ | refine zsM ?_ | ((with_reducible apply At.callf); exact rfl; exact hg; exact rfl; exact rfl; exact hk; exact take_app A Rest; rintro v' m' B' hm' ⟨rfl, rfl, rfl⟩) | ((with_reducible apply At.box (d := 2)); exact rfl; exact rfl; exact rfl; intro b2) | (refine zsp ?_ ?_ <;> (intro hc; (try simp only [zhcs, reduceCtorEq] at hc); (try (exfalso; first | omega | contradiction | omega | exact absurd rfl hc | exact absurd (by decide) hc))))))
      all_goals ((with_reducible apply At.retB1 (B := B')); exact rfl; exact rfl; exact Mem.le_refl _; exact keep_app _ _; exact ⟨.inr ⟨s, rfl, h, e, hn⟩, rfl, rfl⟩)
  · (repeat' (first | refine zss ?_ | refine zsM ?_ | ((with_reducible apply At.box (d := 2)); exact rfl; exact rfl; exact rfl; intro b2) | (refine zsp ?_ ?_ <;> (intro hc; (try simp only [zhcs, reduceCtorEq] at hc); (try (exfalso; first | omega | contradiction | omega | exact absurd rfl hc | exact absurd (by decide) hc))))))
    all_goals ((with_reducible apply At.retB1 (B := A)); exact rfl; exact rfl; exact Mem.le_refl _; exact keep_app _ _; exact ⟨.inl ⟨rfl, fun i hi => hn i (by omega)⟩, rfl, rfl⟩)
/-- the first such place, as a number -/
theorem Fst.lt {n : Nat} {q : Nat → Bool} {v : Value} (h : Fst n q v) (i : Nat) (hi : i < n) (hqi : q i = true) : ∃ k : Nat, v = .int .i64 (k : Int) ∧ k ≤ i ∧ q k = true ∧ ∀ j, j < k → q j = false := by
  rcases h with ⟨_, h⟩ | ⟨k, e, _, hk, hn⟩
  · rw [h i hi] at hqi; cases hqi
  · refine ⟨k, e, ?_, hk, hn⟩
    apply Nat.le_of_not_lt
    intro hlt
    rw [hn i hlt] at hqi
    cases hqi
/-! ### twins -/
abbrev vb (b : Nat) (u : Sta) : Res := .blk b 104 u.cells
abbrev ib (b : Nat) (i : Int) : Res := .blk b 3 [.int .i64 i]
/-- a place ahead is a twin, or this one -/
def tw1 (u : Sta) (i k : Nat) : Bool := decide (k = i) || (liv u u.pl.l[k]! && decide (u.pl.l[k]!.lab.l = u.pl.l[i]!.lab.l))
theorem twin1 {m : Mem} (b c : Nat) (u : Sta) (i k : Nat) (hs : u.Ok m) (hi : i < u.pl.l.length) (hk : k < u.pl.l.length) :
    Ct Tryz.prog 135 #[.int .i64 (k : Int), pt b, pt c] m [ib b (i : Int), vb c u] (fun v m' B => v = .bool (tw1 u i k) ∧ m = m' ∧ B = [ib b (i : Int), vb c u]) := by
  have sl0 := hs.sl
  have np := hs.np
  have k1 := fun (m' : Mem) (h : m.le m') => lives u k (hs.mono h) hk
  have ha := hs.at hk
  have hb := hs.at hi
  have k2 := fun (m' : Mem) (h : m.le m') => Lb.same u.pl.l[k]!.lab.p u.pl.l[k]!.lab.c u.pl.l[k]!.lab.l u.pl.l[i]!.lab.p u.pl.l[i]!.lab.c u.pl.l[i]!.lab.l (Nat.le_trans ha.nl (by decide)) (Nat.le_trans hb.nl (by decide)) (ha.sl.mono h) (hb.sl.mono h)
  unfold tw1
  generalize liv u u.pl.l[k]! = e at k1 ⊢
  generalize decide (u.pl.l[k]!.lab.l = u.pl.l[i]!.lab.l) = d at k2 ⊢
  clear hs ha hb
  by_cases h : k = i
  · rw [decide_eq_true h, Bool.true_or]
    refine Ct.enterV (by rfl) Tryz.func135 rfl Tryz.ntmps135 rfl (fun w0 Rest => ?_)
    (repeat' (first | refine zss ?_ | refine zsM ?_ | (refine zsp ?_ ?_ <;> (intro hc; (try simp only [zhcs, reduceCtorEq] at hc); (try (exfalso; first | (first | omega | exact absurd rfl hc) | contradiction | omega | exact absurd rfl hc | exact absurd (by decide) hc))))))
    all_goals ((with_reducible apply At.retB1 (B := [ib b (i : Int), vb c u])); exact rfl; exact rfl; exact zml; exact zkp; exact ⟨rfl, rfl, rfl⟩)
  · rw [decide_eq_false h, Bool.false_or]
    cases e
    · refine Ct.enterV (by rfl) Tryz.func135 rfl Tryz.ntmps135 rfl (fun w0 Rest => ?_)
      (repeat' (first | refine zss ?_ | refine zsM ?_ | ((with_reducible first | apply AtM1.cr | apply AtQ.cr | apply At.cr); exact rfl; exact rfl; exact fun _ hmm => k1 _ hmm; exact ztk; kernel_rfl) | (refine zsp ?_ ?_ <;> (intro hc; (try simp only [zhcs, reduceCtorEq] at hc); (try (exfalso; first | (first | omega | exact absurd rfl hc) | contradiction | omega | exact absurd rfl hc | exact absurd (by decide) hc))))))
      all_goals ((with_reducible apply At.retB1 (B := [ib b (i : Int), vb c u])); exact rfl; exact rfl; exact zml; exact zkp; exact ⟨rfl, rfl, rfl⟩)
    · refine Ct.enterV (by rfl) Tryz.func135 rfl Tryz.ntmps135 rfl (fun w0 Rest => ?_)
      (repeat' (first | refine zss ?_ | refine zsM ?_ | ((with_reducible first | apply AtM1.cr | apply AtQ.cr | apply At.cr); exact rfl; exact rfl; exact fun _ hmm => k1 _ hmm; exact ztk; kernel_rfl) | ((with_reducible first | apply AtM1.cr | apply AtQ.cr | apply At.cr); exact rfl; exact rfl; exact fun _ hmm => k2 _ hmm; exact ztk; kernel_rfl) | (refine zsp ?_ ?_ <;> (intro hc; (try simp only [zhcs, reduceCtorEq] at hc); (try (exfalso; first | (first | omega | exact absurd rfl hc) | contradiction | omega | exact absurd rfl hc | exact absurd (by decide) hc))))))
      all_goals ((with_reducible apply At.retB1 (B := [ib b (i : Int), vb c u])); exact rfl; exact rfl; exact zml; exact zkp; exact ⟨rfl, rfl, rfl⟩)
/-- a place ahead of this one has a series that lives, of the same labels -/
def twn (u : Sta) (i : Nat) : Bool := liv u u.pl.l[i]! && (List.range i).any fun k => liv u u.pl.l[k]! && decide (u.pl.l[k]!.lab.l = u.pl.l[i]!.lab.l)
theorem twn_of {u : Sta} {i k : Nat} (h : Fst u.pl.l.length (tw1 u i) (.int .i64 (k : Int))) (hi : i < u.pl.l.length) : (k < i ∧ twn u i = liv u u.pl.l[i]!) ∨ (k = i ∧ twn u i = false) := by
  obtain ⟨j, e, hj, hq, hn⟩ := h.lt i hi (by unfold tw1; simp)
  have : k = j := by injection e with _ e; omega
  subst this
  unfold twn
  by_cases hki : k = i
  · right
    refine ⟨hki, ?_⟩
    rw [show ((List.range i).any fun k => liv u u.pl.l[k]! && decide (u.pl.l[k]!.lab.l = u.pl.l[i]!.lab.l)) = false by
      rw [List.any_eq_false]
      intro x hx
      have hx' := List.mem_range.1 hx
      have := hn x (by omega)
      unfold tw1 at this
      rw [Bool.or_eq_false_iff] at this
      rw [this.2]
      decide, Bool.and_false]
  · left
    refine ⟨by omega, ?_⟩
    unfold tw1 at hq
    rw [decide_eq_false hki, Bool.false_or] at hq
    rw [show ((List.range i).any fun k => liv u u.pl.l[k]! && decide (u.pl.l[k]!.lab.l = u.pl.l[i]!.lab.l)) = true from List.any_eq_true.2 ⟨k, List.mem_range.2 (by omega), hq⟩, Bool.and_true]
theorem twin {m : Mem} (u : Sta) (i : Nat) (hs : u.Ok m) (hi : i < u.pl.l.length) : Rd Tryz.prog 85 #[u.v, .int .i64 (i : Int)] m [] (.bool (twn u i)) := by
  unfold Rd
  have k1 := fun (m' : Mem) (h : m.le m') => lives u i (hs.mono h) hi
  have k2 := fun (m' : Mem) (h : m.le m') b c => place u 135 [pt b, pt c] [ib b (i : Int), vb c u] (tw1 u i) (hs.mono h) (by kernel_rfl) (fun m'' h' k hk => twin1 b c u i k (hs.mono (Mem.le_trans h h')) hi hk)
  have np := hs.np
  refine Ct.enterV (by rfl) Tryz.func85 rfl Tryz.ntmps85 rfl (fun w0 Rest => ?_)
  (repeat' (first | refine zss ?_ | refine zsM ?_ | ((with_reducible first | apply At.c1 | apply At.c0); exact rfl; exact rfl; exact k2 _ (Mem.le_refl _) _ _; exact ztk; kernel_rfl; rintro v' m' B' hm' ⟨hf, rfl, rfl⟩; skip; (try (have hq0 : hm' = Mem.le_refl _ := rfl; clear hq0 hm'))) | (rcases hf.lt i hi (by unfold tw1; simp) with ⟨k, rfl, hki, -, -⟩; have h2 := twn_of hf hi; clear hf) | ((with_reducible first | apply AtM1.cr | apply AtQ.cr | apply At.cr); exact rfl; exact rfl; exact fun _ hmm => k1 _ hmm; exact ztk; kernel_rfl) | ((with_reducible apply At.box (d := 2)); exact rfl; exact rfl; exact rfl; intro b2) | ((with_reducible apply At.box (d := 3)); exact rfl; exact rfl; exact rfl; intro b3) | (refine zsp ?_ ?_ <;> (intro hc; (try simp only [zhcs, reduceCtorEq] at hc); (try (exfalso; first | (first | omega | exact absurd rfl hc) | contradiction | omega | exact absurd rfl hc | exact absurd (by decide) hc))))))
  all_goals rcases h2 with ⟨h3, h4⟩ | ⟨h3, h4⟩
  all_goals first | (exfalso; omega; done) | (rw [h4]; ((with_reducible apply At.retB1 (B := [])); exact rfl; exact rfl; exact zml; exact zkp; exact ⟨rfl, rfl, rfl⟩))
end St
end Go.Proofs.YtkoijdmlehkhbaaGreatDoor

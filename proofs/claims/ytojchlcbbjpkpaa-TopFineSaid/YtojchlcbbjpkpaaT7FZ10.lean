/- Part 10 of what the law's proof needs: rules of the walk, contracts of functions, plain laws. No condition. -/
import Derived.Test.YtojchlcbbjpkpaaT7FZ9
import Derived.ProofKit
import Derived.OpenShut
import Derived.Below
import Derived.Carry
import Derived.Deep.Slices
/- The package fold: Empty, Up, Close; whether stacks are small, or one. -/
set_option linter.unusedSimpArgs false
set_option linter.unusedVariables false
set_option linter.unusedSectionVars false
set_option maxRecDepth 20000
set_option maxHeartbeats 4000000
namespace Go.Proofs.Ytojchlcbbjpkpaa
open Go Go.J
attribute [local irreducible] At AtQ AtM AtM1 PR Ct Pu Rd Res.blk Res.own Res.ex RVs RV
namespace Fo
open Slot Win Ti
def emp (K : Cfg) : L3 := if K.ok then ⟨newL K.x, newL K.y, newL K.w⟩ else ⟨[], [], []⟩
theorem z_in : Slot.In Slot.z := by unfold Slot.In; decide
theorem newL_in (n : Int) : ∀ s ∈ newL n, Slot.In s := fun s hs => by
  unfold newL at hs
  split at hs
  · exact absurd hs List.not_mem_nil
  · rw [(List.mem_replicate.1 hs).2]; exact z_in
theorem newL_len (n : Int) : (newL n).length ≤ 1000000 := by
  unfold newL
  split
  · exact Nat.zero_le _
  · rw [List.length_replicate]; omega
theorem okL_new {m : Mem} {n : Int} {p : Option Addr} {c : Nat} (h : Sl m cells 15 p c (newL n)) : TT.OkL m ⟨p, c, newL n⟩ := ⟨h, newL_in n, newL_len n⟩
theorem okL_nil (m : Mem) : TT.OkL m Lst.nil := ⟨Sl.empty m inferInstance, fun _ h => absurd h List.not_mem_nil, Nat.zero_le _⟩
theorem ok_z (m : Mem) : TT.z.Ok m := ⟨okL_nil m, okL_nil m, okL_nil m⟩
theorem cfg_n {K : Cfg} (h : K.ok) : (1 ≤ K.x ∧ K.x ≤ 4096) ∧ (1 ≤ K.y ∧ K.y ≤ 4096) ∧ (1 ≤ K.w ∧ K.w ≤ 4096) := ⟨h.hx, h.hy, h.hw⟩
set_option maxRecDepth 100000 in
theorem empty {m : Mem} (K : Cfg) : Ct Try.prog 6 #[K.v] m [] (fun v m' B => B = [] ∧ ∃ t : TT, v = t.v ∧ t.Ok m' ∧ t.ls = emp K) := by
  have k0 := Cfg.check K
  unfold Cfg.chk at k0
  unfold emp
  by_cases h0 : K.ok
  rotate_left
  · rw [if_neg h0] at k0 ⊢
    refine Ct.enterV (by rfl) Try.func6 rfl Try.ntmps6 rfl (fun w0 Rest => ?_)
    (repeat' (first | refine zss ?_ | refine zs0 ?_ | ((with_reducible first | apply AtM1.callp | apply AtQ.callp | apply At.callp); kernel_rfl; exact rfl; exact rfl; exact k0) | ((with_reducible apply At.box (d := 1)); exact rfl; exact rfl; exact rfl; intro b1) | ((with_reducible apply At.alloc (d := 2)); exact rfl; exact rfl; intro b2) | ((with_reducible apply At.alloc (d := 3)); exact rfl; exact rfl; intro b3) | (refine zsp ?_ ?_ <;> (intro hc; (try simp only [zhcs, reduceCtorEq] at hc); (try (exfalso; first | omega | contradiction | omega | exact absurd rfl hc | exact absurd (by decide) hc))))))
    all_goals ((with_reducible apply At.retV (B := [])); exact rfl; (repeat' (first | exact RVs.nil | (with_reducible apply RVs.cons) | exact rv_tmp (by rfl) | exact rv_cellN (by rfl) (by repeat constructor) (by rfl) (by rfl) (by rfl) | exact rv_cell1 (by rfl) (by repeat constructor) (by rfl) (by rfl))); exact zml; exact zkp; exact ⟨rfl, TT.z, rfl, ok_z _, rfl⟩)
  rw [if_pos h0] at k0 ⊢
  have hn := cfg_n h0
  have n0 := fun (m : Mem) => newS (m := m) K.x (by omega)
  have n1 := fun (m : Mem) => newS (m := m) K.y (by omega)
  have n2 := fun (m : Mem) => newS (m := m) K.w (by omega)
  clear hn
  refine Ct.enterV (by rfl) Try.func6 rfl Try.ntmps6 rfl (fun w0 Rest => ?_)
  (repeat' (first | refine zss ?_ | refine zs0 ?_ | ((with_reducible first | apply AtM1.callp | apply AtQ.callp | apply At.callp); kernel_rfl; exact rfl; exact rfl; exact k0) | ((with_reducible apply At.box (d := 1)); exact rfl; exact rfl; exact rfl; intro b1) | ((with_reducible apply At.alloc (d := 2)); exact rfl; exact rfl; intro b2) | ((with_reducible apply At.alloc (d := 3)); exact rfl; exact rfl; intro b3) | (refine zsp ?_ ?_ <;> (intro hc; (try simp only [zhcs, reduceCtorEq] at hc); (try (exfalso; first | omega | contradiction | omega | exact absurd rfl hc | exact absurd (by decide) hc))))))
  (refine At.loopk (σ := US) [2, 3, 11] (fun s F0 => (12, .int .i64 (s.k : Int)) :: F0) (fun s => s.m) (fun s => .blk b3 29 s.t.cells :: .blk b2 29 TT.z.cells :: Rest) (fun s => m.le s.m ∧ s.t.Ok s.m ∧ ((s.k = 0 ∧ s.t = TT.z) ∨ (s.k = 1 ∧ s.t.a.l = newL K.x) ∨ (s.k = 2 ∧ s.t.a.l = newL K.x ∧ s.t.b.l = newL K.y) ∨ (s.k = 3 ∧ s.t.ls = ⟨newL K.x, newL K.y, newL K.w⟩))) (fun s => 3 - s.k) ⟨0, m, TT.z⟩ (by rfl) ?_ zsubs zml zente ?_)
  · exact ⟨Mem.le_refl _, ok_z _, .inl ⟨rfl, rfl⟩⟩
  rintro ⟨k, m1, T⟩ ⟨hm1, hT, hk⟩
  dsimp only at hm1 hT hk ⊢
  rcases hk with ⟨rfl, rfl⟩ | ⟨rfl, e1⟩ | ⟨rfl, e1, e2⟩ | ⟨rfl, e1⟩
  · (repeat' (first | refine zss ?_ | ((first | (with_reducible first | apply At.val | apply AtQ.val)); (first | exact pr_index_agg (k := 0) (by rfl) (by rfl) (by rfl) (by rfl) (by rfl) (by rfl) (by rfl) | exact pr_indexArr (k := 0) (by rfl) (by rfl) (by rfl) (by rfl) (by decide)); exact rfl) | refine zs0 ?_ | ((with_reducible first | apply At.c1 | apply At.c0); exact rfl; exact rfl; exact n0 _; exact ztk; kernel_rfl; rintro v' m' B' hm' ⟨rfl, p2, c2, rfl, sl9⟩; (try replace sl9 := sl9.mono hm'); (try (have hq0 : hm' = Mem.le_refl _ := rfl; clear hq0 hm'))) | ((with_reducible apply At.box (d := 1)); exact rfl; exact rfl; exact rfl; intro b1) | ((with_reducible apply At.alloc (d := 2)); exact rfl; exact rfl; intro b2) | ((with_reducible apply At.alloc (d := 3)); exact rfl; exact rfl; intro b3) | (refine zsp ?_ ?_ <;> (intro hc; (try simp only [zhcs, reduceCtorEq] at hc); (try (exfalso; first | omega | contradiction | omega | exact absurd rfl hc | exact absurd (by decide) hc))))))
    all_goals ((with_reducible refine At.reachk ((⟨1, m', ⟨⟨p2, c2, newL K.x⟩, Lst.nil, Lst.nil⟩⟩ : US)) ?_ ?_ ?_ ?_); exact zsubs; exact zml; exact zente; exact ⟨⟨zml, ⟨okL_new sl9, okL_nil _, okL_nil _⟩, .inr (.inl ⟨rfl, rfl⟩)⟩, (by decide : 3 - 1 < 3 - 0)⟩)
  · (repeat' (first | refine zss ?_ | ((first | (with_reducible first | apply At.val | apply AtQ.val)); (first | exact pr_index_agg (k := 1) (by rfl) (by rfl) (by rfl) (by rfl) (by rfl) (by rfl) (by rfl) | exact pr_indexArr (k := 1) (by rfl) (by rfl) (by rfl) (by rfl) (by decide)); exact rfl) | refine zs0 ?_ | ((with_reducible first | apply At.c1 | apply At.c0); exact rfl; exact rfl; exact n1 _; exact ztk; kernel_rfl; rintro v' m' B' hm' ⟨rfl, p2, c2, rfl, sl9⟩; (try replace sl9 := sl9.mono hm'); (try (have hq0 : hm' = Mem.le_refl _ := rfl; clear hq0 hm'))) | ((with_reducible apply At.box (d := 1)); exact rfl; exact rfl; exact rfl; intro b1) | ((with_reducible apply At.alloc (d := 2)); exact rfl; exact rfl; intro b2) | ((with_reducible apply At.alloc (d := 3)); exact rfl; exact rfl; intro b3) | (refine zsp ?_ ?_ <;> (intro hc; (try simp only [zhcs, reduceCtorEq] at hc); (try (exfalso; first | omega | contradiction | omega | exact absurd rfl hc | exact absurd (by decide) hc))))))
    all_goals ((with_reducible refine At.reachk ((⟨2, m', ⟨T.a, ⟨p2, c2, newL K.y⟩, T.c⟩⟩ : US)) ?_ ?_ ?_ ?_); exact zsubs; exact zml; exact zente; exact ⟨⟨zml, ⟨hT.a.mono zml, okL_new sl9, hT.c.mono zml⟩, .inr (.inr (.inl ⟨rfl, e1, rfl⟩))⟩, (by decide : 3 - 2 < 3 - 1)⟩)
  · (repeat' (first | refine zss ?_ | ((first | (with_reducible first | apply At.val | apply AtQ.val)); (first | exact pr_index_agg (k := 2) (by rfl) (by rfl) (by rfl) (by rfl) (by rfl) (by rfl) (by rfl) | exact pr_indexArr (k := 2) (by rfl) (by rfl) (by rfl) (by rfl) (by decide)); exact rfl) | refine zs0 ?_ | ((with_reducible first | apply At.c1 | apply At.c0); exact rfl; exact rfl; exact n2 _; exact ztk; kernel_rfl; rintro v' m' B' hm' ⟨rfl, p2, c2, rfl, sl9⟩; (try replace sl9 := sl9.mono hm'); (try (have hq0 : hm' = Mem.le_refl _ := rfl; clear hq0 hm'))) | ((with_reducible apply At.box (d := 1)); exact rfl; exact rfl; exact rfl; intro b1) | ((with_reducible apply At.alloc (d := 2)); exact rfl; exact rfl; intro b2) | ((with_reducible apply At.alloc (d := 3)); exact rfl; exact rfl; intro b3) | (refine zsp ?_ ?_ <;> (intro hc; (try simp only [zhcs, reduceCtorEq] at hc); (try (exfalso; first | omega | contradiction | omega | exact absurd rfl hc | exact absurd (by decide) hc))))))
    all_goals ((with_reducible refine At.reachk ((⟨3, m', ⟨T.a, T.b, ⟨p2, c2, newL K.w⟩⟩⟩ : US)) ?_ ?_ ?_ ?_); exact zsubs; exact zml; exact zente; exact ⟨⟨zml, ⟨hT.a.mono zml, hT.b.mono zml, okL_new sl9⟩, .inr (.inr (.inr ⟨rfl, by show (⟨T.a.l, T.b.l, newL K.w⟩ : L3) = _; rw [e1, e2]⟩))⟩, (by decide : 3 - 3 < 3 - 2)⟩)
  · (repeat' (first | refine zss ?_ | refine zs0 ?_ | ((with_reducible apply At.box (d := 1)); exact rfl; exact rfl; exact rfl; intro b1) | ((with_reducible apply At.alloc (d := 2)); exact rfl; exact rfl; intro b2) | ((with_reducible apply At.alloc (d := 3)); exact rfl; exact rfl; intro b3) | (refine zsp ?_ ?_ <;> (intro hc; (try simp only [zhcs, reduceCtorEq] at hc); (try (exfalso; first | omega | contradiction | omega | exact absurd rfl hc | exact absurd (by decide) hc))))))
    all_goals ((with_reducible apply At.retV (B := [])); exact rfl; (repeat' (first | exact RVs.nil | (with_reducible apply RVs.cons) | exact rv_tmp (by rfl) | exact rv_cellN (by rfl) (by repeat constructor) (by rfl) (by rfl) (by rfl) | exact rv_cell1 (by rfl) (by repeat constructor) (by rfl) (by rfl))); exact zml; exact zkp; exact ⟨rfl, T, rfl, hT, e1⟩)
def fk (K : Cfg) (t : L3) : Prop := Se.fok K t.a t.b t.c
instance (K : Cfg) (t : L3) : Decidable (fk K t) := by unfold fk; infer_instance
theorem openY {m : Mem} (K : Cfg) (t : TT) (ho : t.Ok m) (h : fk K t.ls) : Ct Try.prog 20 #[K.v, t.v] m [] (fun v m' B => m = m' ∧ ∃ q, v = .tuple #[pt q, .int .i64 0] ∧ B = kt q K t) :=
  Ct.mono (Se.openF K t.a t.b t.c ho.a.n ho.b.n ho.c.n ho.a.i ho.b.i ho.c.i ho.a.sl ho.b.sl ho.c.sl) fun v m' B _ ⟨h1, h2⟩ => ⟨h1, (h2.resolve_right fun k => k.1 h).2⟩
theorem openN {m : Mem} (K : Cfg) (t : TT) (ho : t.Ok m) (h : ¬ fk K t.ls) : Ct Try.prog 20 #[K.v, t.v] m [] (fun v m' B => m = m' ∧ v = .tuple #[.pointer none, .int .i64 2] ∧ B = []) :=
  Ct.mono (Se.openF K t.a t.b t.c ho.a.n ho.b.n ho.c.n ho.a.i ho.b.i ho.c.i ho.a.sl ho.b.sl ho.c.sl) fun v m' B _ ⟨h1, h2⟩ => ⟨h1, (h2.resolve_left fun k => h k.1).2⟩
def l3z : L3 := ⟨[], [], []⟩
def upE (K : Cfg) (t : L3) (i j : Int) : Int := if ¬ fk K t then 2 else if i < 0 ∨ j < i ∨ bgn K.a j = false then 1 else 0
def upT (K : Cfg) (t : L3) (i j : Int) : L3 := if upE K t i j ≠ 0 then l3z else up K t i j
theorem bgn_bd {w i : Int} (h : bgn w i = true) (hw : 1 ≤ w) : 0 ≤ i * w ∧ i * w ≤ 35184372088831 := by
  have h := of_decide_eq_true h
  have h1 := Int.ediv_mul_le 35184372088831 (show w ≠ 0 by omega)
  have h2 := Int.mul_le_mul_of_nonneg_right h.2 (show 0 ≤ w by omega)
  have h3 := Int.mul_nonneg h.1 (show 0 ≤ w by omega)
  omega
theorem up_ {m : Mem} (K : Cfg) (t : TT) (i j : Int) (ho : t.Ok m) :
    Ct Try.prog 14 #[K.v, t.v, .int .i64 i, .int .i64 j] m [] (fun v m' B => B = [] ∧ ∃ t' : TT, v = .tuple #[t'.v, .int .i64 (upE K t.ls i j)] ∧ t'.Ok m' ∧ t'.ls = upT K t.ls i j) := by
  by_cases h : fk K t.ls
  rotate_left
  · have ko := fun (m' : Mem) (h' : m.le m') => openN (m := m') K t (ho.mono h') h
    have e1 : upE K t.ls i j = 2 := if_pos h
    have e2 : upT K t.ls i j = l3z := if_pos (by rw [e1]; decide)
    rw [e1, e2]
    refine Ct.enterV (by rfl) Try.func14 rfl Try.ntmps14 rfl (fun w0 Rest => ?_)
    (repeat' (first | refine zss ?_ | ((first | (with_reducible first | apply At.val | apply AtQ.val)); (exact pr_buildArr (by rfl) (by rfl)); exact rfl) | refine zs0 ?_ | ((with_reducible first | apply At.c1 | apply At.c0); exact rfl; exact rfl; exact ko _ zml; exact ztk; kernel_rfl; rintro v' m' B' hm' ⟨rfl, rfl, rfl⟩; skip; (try (have hq0 : hm' = Mem.le_refl _ := rfl; clear hq0 hm'))) | ((with_reducible apply At.box (d := 4)); exact rfl; exact rfl; exact rfl; intro b4) | ((with_reducible apply At.box (d := 5)); exact rfl; exact rfl; exact rfl; intro b5) | ((with_reducible apply At.alloc (d := 8)); exact rfl; exact rfl; intro b8) | (refine zsp ?_ ?_ <;> (intro hc; (try simp only [zhcs, reduceCtorEq] at hc); (try (exfalso; first | contradiction | omega | exact absurd rfl hc | exact absurd (by decide) hc))))))
    all_goals ((with_reducible apply At.retV (B := [])); exact rfl; (repeat' (first | exact RVs.nil | (with_reducible apply RVs.cons) | exact rv_tmp (by rfl) | exact rv_cellN (by rfl) (by repeat constructor) (by rfl) (by rfl) (by rfl) | exact rv_cell1 (by rfl) (by repeat constructor) (by rfl) (by rfl))); exact zml; exact zkp; exact ⟨rfl, TT.z, rfl, ok_z _, rfl⟩)
  have ko := fun (m' : Mem) (h' : m.le m') => openY (m := m') K t (ho.mono h') h
  have hw : 1 ≤ K.a ∧ K.a ≤ 1099511627776 := h.1.ha
  have kb := fun (m : Mem) (q : Nat) => begins0 (m := m) q K t j hw
  by_cases h1 : i < 0 ∨ j < i ∨ bgn K.a j = false
  · have e1 : upE K t.ls i j = 1 := (if_neg (fun k => k h)).trans (if_pos h1)
    have e2 : upT K t.ls i j = l3z := if_pos (by rw [e1]; decide)
    rw [e1, e2]
    by_cases h2 : bgn K.a j = false
    · rw [h2] at kb
      refine Ct.enterV (by rfl) Try.func14 rfl Try.ntmps14 rfl (fun w0 Rest => ?_)
      (repeat' (first | refine zss ?_ | ((first | (with_reducible first | apply At.val | apply AtQ.val)); (exact pr_buildArr (by rfl) (by rfl)); exact rfl) | refine zs0 ?_ | ((with_reducible first | apply At.c1 | apply At.c0); exact rfl; exact rfl; exact ko _ zml; exact ztk; kernel_rfl; rintro v' m' B' hm' ⟨rfl, q, rfl, rfl⟩; skip; (try (have hq0 : hm' = Mem.le_refl _ := rfl; clear hq0 hm'))) | ((with_reducible first | apply AtM1.cr | apply AtQ.cr | apply At.cr); exact rfl; exact rfl; exact fun _ hmm => kb _ q; exact ztk; kernel_rfl) | ((with_reducible apply At.box (d := 4)); exact rfl; exact rfl; exact rfl; intro b4) | ((with_reducible apply At.box (d := 5)); exact rfl; exact rfl; exact rfl; intro b5) | ((with_reducible apply At.alloc (d := 8)); exact rfl; exact rfl; intro b8) | (refine zsp ?_ ?_ <;> (intro hc; (try simp only [zhcs, reduceCtorEq] at hc); (try (exfalso; first | omega | contradiction | omega | exact absurd rfl hc | exact absurd (by decide) hc))))))
      all_goals ((with_reducible apply At.retV (B := [])); exact rfl; (repeat' (first | exact RVs.nil | (with_reducible apply RVs.cons) | exact rv_tmp (by rfl) | exact rv_cellN (by rfl) (by repeat constructor) (by rfl) (by rfl) (by rfl) | exact rv_cell1 (by rfl) (by repeat constructor) (by rfl) (by rfl))); exact zml; exact zkp; exact ⟨rfl, TT.z, rfl, ok_z _, rfl⟩)
    · replace h1 : i < 0 ∨ j < i := by rcases h1 with h1 | h1 | h1; exact .inl h1; exact .inr h1; exact absurd h1 h2
      refine Ct.enterV (by rfl) Try.func14 rfl Try.ntmps14 rfl (fun w0 Rest => ?_)
      (repeat' (first | refine zss ?_ | ((first | (with_reducible first | apply At.val | apply AtQ.val)); (exact pr_buildArr (by rfl) (by rfl)); exact rfl) | refine zs0 ?_ | ((with_reducible first | apply At.c1 | apply At.c0); exact rfl; exact rfl; exact ko _ zml; exact ztk; kernel_rfl; rintro v' m' B' hm' ⟨rfl, q, rfl, rfl⟩; skip; (try (have hq0 : hm' = Mem.le_refl _ := rfl; clear hq0 hm'))) | ((with_reducible first | apply AtM1.cr | apply AtQ.cr | apply At.cr); exact rfl; exact rfl; exact fun _ hmm => kb _ q; exact ztk; kernel_rfl) | ((with_reducible apply At.box (d := 4)); exact rfl; exact rfl; exact rfl; intro b4) | ((with_reducible apply At.box (d := 5)); exact rfl; exact rfl; exact rfl; intro b5) | ((with_reducible apply At.alloc (d := 8)); exact rfl; exact rfl; intro b8) | (refine zsp ?_ ?_ <;> (intro hc; (try simp only [zhcs, reduceCtorEq] at hc); (try (exfalso; first | omega | contradiction | omega | exact absurd rfl hc | exact absurd (by decide) hc))))))
      all_goals ((with_reducible apply At.retV (B := [])); exact rfl; (repeat' (first | exact RVs.nil | (with_reducible apply RVs.cons) | exact rv_tmp (by rfl) | exact rv_cellN (by rfl) (by repeat constructor) (by rfl) (by rfl) (by rfl) | exact rv_cell1 (by rfl) (by repeat constructor) (by rfl) (by rfl))); exact zml; exact zkp; exact ⟨rfl, TT.z, rfl, ok_z _, rfl⟩)
  · have h2 : bgn K.a j = true := by cases e : bgn K.a j; exact absurd (.inr (.inr e)) h1; rfl
    have e1 : upE K t.ls i j = 0 := (if_neg (fun k => k h)).trans (if_neg h1)
    have e2 : upT K t.ls i j = up K t.ls i j := if_neg (by rw [e1]; decide)
    rw [e1, e2]
    have hj := bgn_bd h2 hw.1
    have hi1 : 0 ≤ i * K.a := Int.mul_nonneg (by omega) (by omega)
    have hi2 : i * K.a ≤ j * K.a := Int.mul_le_mul_of_nonneg_right (by omega) (by omega)
    have ku := fun (m' : Mem) (q : Nat) (h' : m.le m') => upF (m := m') q K t i j (ho.mono h') h.1 h.2.1.2 h.2.2.1.2 h.2.2.2.2 (by omega) (by omega)
    rw [h2] at kb
    clear hj hi1 hi2 hw ho
    refine Ct.enterV (by rfl) Try.func14 rfl Try.ntmps14 rfl (fun w0 Rest => ?_)
    (repeat' (first | refine zss ?_ | ((first | (with_reducible first | apply At.val | apply AtQ.val)); (exact pr_buildArr (by rfl) (by rfl)); exact rfl) | refine zs0 ?_ | ((with_reducible first | apply At.c1 | apply At.c0); exact rfl; exact rfl; exact ko _ zml; exact ztk; kernel_rfl; rintro v' m' B' hm' ⟨rfl, q, rfl, rfl⟩; skip; (try (have hq0 : hm' = Mem.le_refl _ := rfl; clear hq0 hm'))) | ((with_reducible first | apply AtM1.cr | apply AtQ.cr | apply At.cr); exact rfl; exact rfl; exact fun _ hmm => kb _ q; exact ztk; kernel_rfl) | ((with_reducible first | apply At.c1 | apply At.c0); exact rfl; exact rfl; exact ku _ q zml; exact ztk; kernel_rfl; rintro v' m' B' hm' ⟨rfl, t', ht1, ht2, rfl⟩; skip; (try (have hq0 : hm' = Mem.le_refl _ := rfl; clear hq0 hm'))) | ((with_reducible apply At.box (d := 4)); exact rfl; exact rfl; exact rfl; intro b4) | ((with_reducible apply At.box (d := 5)); exact rfl; exact rfl; exact rfl; intro b5) | ((with_reducible apply At.alloc (d := 8)); exact rfl; exact rfl; intro b8) | (refine zsp ?_ ?_ <;> (intro hc; (try simp only [zhcs, reduceCtorEq] at hc); (try (exfalso; first | omega | contradiction | omega | exact absurd rfl hc | exact absurd (by decide) hc))))))
    all_goals ((with_reducible apply At.retV (B := [])); exact rfl; (repeat' (first | exact RVs.nil | (with_reducible apply RVs.cons) | exact rv_tmp (by rfl) | exact rv_cellN (by rfl) (by repeat constructor) (by rfl) (by rfl) (by rfl) | exact rv_cell1 (by rfl) (by repeat constructor) (by rfl) (by rfl))); exact zml; exact zkp; exact ⟨rfl, t', rfl, ht1, ht2⟩)
def closeE (K : Cfg) (t : L3) (s : Slot) (j : Int) : Int := if ¬ fk K t then 2 else if s ≠ z ∧ ¬ fits s.c K.a s.w then 2 else if s = z ∨ s.w = j then 0 else if j < s.w ∨ bgn K.a j = false then 1 else 0
def closeT (K : Cfg) (t : L3) (s : Slot) (j : Int) : L3 := if closeE K t s j ≠ 0 then l3z else if s = z ∨ s.w = j then t else up K ⟨putO t.a K.a s.w s.c, t.b, t.c⟩ s.w j
theorem close_ {m : Mem} (K : Cfg) (t : TT) (s : Slot) (j : Int) (ho : t.Ok m) (hs : Slot.In s) :
    Ct Try.prog 13 #[K.v, t.v, s.v, .int .i64 j] m [] (fun v m' B => B = [] ∧ ∃ t' : TT, v = .tuple #[t'.v, .int .i64 (closeE K t.ls s j)] ∧ t'.Ok m' ∧ t'.ls = closeT K t.ls s j) := by
  by_cases h : fk K t.ls
  rotate_left
  · have ko := fun (m' : Mem) (h' : m.le m') => openN (m := m') K t (ho.mono h') h
    have e1 : closeE K t.ls s j = 2 := if_pos h
    have e2 : closeT K t.ls s j = l3z := if_pos (by rw [e1]; decide)
    rw [e1, e2]
    refine Ct.enterV (by rfl) Try.func13 rfl Try.ntmps13 rfl (fun w0 Rest => ?_)
    (repeat' (first | refine zss ?_ | ((first | (with_reducible first | apply At.val | apply AtQ.val)); (first | exact pr_buildArr (by rfl) (by rfl) | exact pr_sleq (b := z) (by rfl) (by rfl)); exact rfl) | refine zs0 ?_ | ((with_reducible first | apply At.c1 | apply At.c0); exact rfl; exact rfl; exact ko _ zml; exact ztk; kernel_rfl; rintro v' m' B' hm' ⟨rfl, rfl, rfl⟩; (try replace sl9 := sl9.mono hm'); (try (have hq0 : hm' = Mem.le_refl _ := rfl; clear hq0 hm'))) | ((with_reducible apply At.box (d := 4)); exact rfl; exact rfl; exact rfl; intro b4) | ((with_reducible apply At.box (d := 5)); exact rfl; exact rfl; exact rfl; intro b5) | ((with_reducible apply At.box (d := 6)); exact rfl; exact rfl; exact rfl; intro b6) | ((with_reducible apply At.alloc (d := 8)); exact rfl; exact rfl; intro b8) | (refine zsp ?_ ?_ <;> (intro hc; (try simp only [zhcs, reduceCtorEq] at hc); (try (exfalso; first | contradiction | omega | exact absurd rfl hc | exact absurd (by decide) hc))))))
    all_goals ((with_reducible apply At.retV (B := [])); exact rfl; (repeat' (first | exact RVs.nil | (with_reducible apply RVs.cons) | exact rv_tmp (by rfl) | exact rv_cellN (by rfl) (by repeat constructor) (by rfl) (by rfl) (by rfl) | exact rv_cell1 (by rfl) (by repeat constructor) (by rfl) (by rfl))); exact zml; exact zkp; exact ⟨rfl, TT.z, rfl, ok_z _, rfl⟩)
  have ko := fun (m' : Mem) (h' : m.le m') => openY (m := m') K t (ho.mono h') h
  have hw : 1 ≤ K.a ∧ K.a ≤ 1099511627776 := h.1.ha
  have kf := fitsT s.c K.a s.w hs.2.1
  by_cases h1 : s = z
  · have e1 : closeE K t.ls s j = 0 := (if_neg (fun k => k h)).trans ((if_neg (fun k => k.1 h1)).trans (if_pos (.inl h1)))
    have e2 : closeT K t.ls s j = t.ls := (if_neg (by rw [e1]; decide)).trans (if_pos (.inl h1))
    rw [e1, e2]
    have pq : ∀ {n' : Nat} {F : Fr} {C : World → Prop} {x y : Operand} {u : TypeId}, ev F x = some s.v → ev F y = some z.v → PR Try.prog n' F C (.binOp .eql 44 x y u) (.bool true) := fun hx hy => by rw [← show decide (s = z) = true from decide_eq_true h1]; exact pr_sleq hx hy
    have ho' := fun (m' : Mem) (h' : m.le m') => ho.mono h'
    clear ho
    refine Ct.enterV (by rfl) Try.func13 rfl Try.ntmps13 rfl (fun w0 Rest => ?_)
    (repeat' (first | refine zss ?_ | ((first | (with_reducible first | apply At.val | apply AtQ.val)); (first | exact pr_buildArr (by rfl) (by rfl) | exact pq (by rfl) (by rfl) | exact pr_indexArr (k := 0) (by rfl) (by rfl) (by rfl) (by rfl) (by decide)); exact rfl) | refine zs0 ?_ | ((with_reducible first | apply At.c1 | apply At.c0); exact rfl; exact rfl; exact ko _ zml; exact ztk; kernel_rfl; rintro v' m' B' hm' ⟨rfl, q, rfl, rfl⟩; (try replace sl9 := sl9.mono hm'); (try (have hq0 : hm' = Mem.le_refl _ := rfl; clear hq0 hm'))) | ((with_reducible apply At.box (d := 4)); exact rfl; exact rfl; exact rfl; intro b4) | ((with_reducible apply At.box (d := 5)); exact rfl; exact rfl; exact rfl; intro b5) | ((with_reducible apply At.box (d := 6)); exact rfl; exact rfl; exact rfl; intro b6) | ((with_reducible apply At.alloc (d := 8)); exact rfl; exact rfl; intro b8) | (refine zsp ?_ ?_ <;> (intro hc; (try simp only [zhcs, reduceCtorEq] at hc); (try (exfalso; first | omega | contradiction | omega | exact absurd rfl hc | exact absurd (by decide) hc))))))
    all_goals ((with_reducible apply At.retV (B := [])); exact rfl; (repeat' (first | exact RVs.nil | (with_reducible apply RVs.cons) | exact rv_tmp (by rfl) | exact rv_cellN (by rfl) (by repeat constructor) (by rfl) (by rfl) (by rfl) | exact rv_cell1 (by rfl) (by repeat constructor) (by rfl) (by rfl))); exact zml; exact zkp; exact ⟨rfl, t, rfl, ho' _ zml, rfl⟩)
  have pq : ∀ {n' : Nat} {F : Fr} {C : World → Prop} {x y : Operand} {u : TypeId}, ev F x = some s.v → ev F y = some z.v → PR Try.prog n' F C (.binOp .eql 44 x y u) (.bool false) := fun hx hy => by rw [← show decide (s = z) = false from decide_eq_false h1]; exact pr_sleq hx hy
  by_cases h2 : fits s.c K.a s.w
  rotate_left
  · rw [decide_eq_false h2] at kf
    have e1 : closeE K t.ls s j = 2 := (if_neg (fun k => k h)).trans (if_pos ⟨h1, h2⟩)
    have e2 : closeT K t.ls s j = l3z := if_pos (by rw [e1]; decide)
    rw [e1, e2]
    clear ho
    refine Ct.enterV (by rfl) Try.func13 rfl Try.ntmps13 rfl (fun w0 Rest => ?_)
    (repeat' (first | refine zss ?_ | ((first | (with_reducible first | apply At.val | apply AtQ.val)); (first | exact pr_buildArr (by rfl) (by rfl) | exact pq (by rfl) (by rfl) | exact pr_indexArr (k := 0) (by rfl) (by rfl) (by rfl) (by rfl) (by decide)); exact rfl) | refine zs0 ?_ | ((with_reducible first | apply At.c1 | apply At.c0); exact rfl; exact rfl; exact ko _ zml; exact ztk; kernel_rfl; rintro v' m' B' hm' ⟨rfl, q, rfl, rfl⟩; (try replace sl9 := sl9.mono hm'); (try (have hq0 : hm' = Mem.le_refl _ := rfl; clear hq0 hm'))) | ((with_reducible first | apply AtM1.callp | apply AtQ.callp | apply At.callp); kernel_rfl; exact rfl; exact rfl; exact kf) | ((with_reducible apply At.box (d := 4)); exact rfl; exact rfl; exact rfl; intro b4) | ((with_reducible apply At.box (d := 5)); exact rfl; exact rfl; exact rfl; intro b5) | ((with_reducible apply At.box (d := 6)); exact rfl; exact rfl; exact rfl; intro b6) | ((with_reducible apply At.alloc (d := 8)); exact rfl; exact rfl; intro b8) | (refine zsp ?_ ?_ <;> (intro hc; (try simp only [zhcs, reduceCtorEq] at hc); (try (exfalso; first | omega | contradiction | omega | exact absurd rfl hc | exact absurd (by decide) hc))))))
    all_goals ((with_reducible apply At.retV (B := [])); exact rfl; (repeat' (first | exact RVs.nil | (with_reducible apply RVs.cons) | exact rv_tmp (by rfl) | exact rv_cellN (by rfl) (by repeat constructor) (by rfl) (by rfl) (by rfl) | exact rv_cell1 (by rfl) (by repeat constructor) (by rfl) (by rfl))); exact zml; exact zkp; exact ⟨rfl, TT.z, rfl, ok_z _, rfl⟩)
  rw [decide_eq_true h2] at kf
  have nb : ¬ (s ≠ z ∧ ¬ fits s.c K.a s.w) := fun k => k.2 h2
  by_cases h3 : s.w = j
  · have e1 : closeE K t.ls s j = 0 := (if_neg (fun k => k h)).trans ((if_neg nb).trans (if_pos (.inr h3)))
    have e2 : closeT K t.ls s j = t.ls := (if_neg (by rw [e1]; decide)).trans (if_pos (.inr h3))
    rw [e1, e2]
    have ho' := fun (m' : Mem) (h' : m.le m') => ho.mono h'
    clear ho
    refine Ct.enterV (by rfl) Try.func13 rfl Try.ntmps13 rfl (fun w0 Rest => ?_)
    (repeat' (first | refine zss ?_ | ((first | (with_reducible first | apply At.val | apply AtQ.val)); (first | exact pr_buildArr (by rfl) (by rfl) | exact pq (by rfl) (by rfl) | exact pr_indexArr (k := 0) (by rfl) (by rfl) (by rfl) (by rfl) (by decide)); exact rfl) | refine zs0 ?_ | ((with_reducible first | apply At.c1 | apply At.c0); exact rfl; exact rfl; exact ko _ zml; exact ztk; kernel_rfl; rintro v' m' B' hm' ⟨rfl, q, rfl, rfl⟩; (try replace sl9 := sl9.mono hm'); (try (have hq0 : hm' = Mem.le_refl _ := rfl; clear hq0 hm'))) | ((with_reducible first | apply AtM1.callp | apply AtQ.callp | apply At.callp); kernel_rfl; exact rfl; exact rfl; exact kf) | ((with_reducible apply At.box (d := 4)); exact rfl; exact rfl; exact rfl; intro b4) | ((with_reducible apply At.box (d := 5)); exact rfl; exact rfl; exact rfl; intro b5) | ((with_reducible apply At.box (d := 6)); exact rfl; exact rfl; exact rfl; intro b6) | ((with_reducible apply At.alloc (d := 8)); exact rfl; exact rfl; intro b8) | (refine zsp ?_ ?_ <;> (intro hc; (try simp only [zhcs, reduceCtorEq] at hc); (try (exfalso; first | (first | omega | exact absurd h3 hc) | contradiction | omega | exact absurd rfl hc | exact absurd (by decide) hc))))))
    all_goals ((with_reducible apply At.retV (B := [])); exact rfl; (repeat' (first | exact RVs.nil | (with_reducible apply RVs.cons) | exact rv_tmp (by rfl) | exact rv_cellN (by rfl) (by repeat constructor) (by rfl) (by rfl) (by rfl) | exact rv_cell1 (by rfl) (by repeat constructor) (by rfl) (by rfl))); exact zml; exact zkp; exact ⟨rfl, t, rfl, ho' _ zml, rfl⟩)
  have nc : ¬ (s = z ∨ s.w = j) := fun k => k.elim h1 h3
  have kb := fun (m : Mem) (q : Nat) => begins0 (m := m) q K t j hw
  by_cases h4 : j < s.w ∨ bgn K.a j = false
  · have e1 : closeE K t.ls s j = 1 := (if_neg (fun k => k h)).trans ((if_neg nb).trans ((if_neg nc).trans (if_pos h4)))
    have e2 : closeT K t.ls s j = l3z := if_pos (by rw [e1]; decide)
    rw [e1, e2]
    clear ho
    by_cases h5 : bgn K.a j = false
    · rw [h5] at kb
      refine Ct.enterV (by rfl) Try.func13 rfl Try.ntmps13 rfl (fun w0 Rest => ?_)
      (repeat' (first | refine zss ?_ | ((first | (with_reducible first | apply At.val | apply AtQ.val)); (first | exact pr_buildArr (by rfl) (by rfl) | exact pq (by rfl) (by rfl) | exact pr_indexArr (k := 0) (by rfl) (by rfl) (by rfl) (by rfl) (by decide)); exact rfl) | refine zs0 ?_ | ((with_reducible first | apply At.c1 | apply At.c0); exact rfl; exact rfl; exact ko _ zml; exact ztk; kernel_rfl; rintro v' m' B' hm' ⟨rfl, q, rfl, rfl⟩; (try replace sl9 := sl9.mono hm'); (try (have hq0 : hm' = Mem.le_refl _ := rfl; clear hq0 hm'))) | ((with_reducible first | apply AtM1.callp | apply AtQ.callp | apply At.callp); kernel_rfl; exact rfl; exact rfl; exact kf) | ((with_reducible first | apply AtM1.cr | apply AtQ.cr | apply At.cr); exact rfl; exact rfl; exact fun _ hmm => kb _ q; exact ztk; kernel_rfl) | ((with_reducible apply At.box (d := 4)); exact rfl; exact rfl; exact rfl; intro b4) | ((with_reducible apply At.box (d := 5)); exact rfl; exact rfl; exact rfl; intro b5) | ((with_reducible apply At.box (d := 6)); exact rfl; exact rfl; exact rfl; intro b6) | ((with_reducible apply At.alloc (d := 8)); exact rfl; exact rfl; intro b8) | (refine zsp ?_ ?_ <;> (intro hc; (try simp only [zhcs, reduceCtorEq] at hc); (try (exfalso; first | (first | omega | exact absurd hc h3) | contradiction | omega | exact absurd rfl hc | exact absurd (by decide) hc))))))
      all_goals ((with_reducible apply At.retV (B := [])); exact rfl; (repeat' (first | exact RVs.nil | (with_reducible apply RVs.cons) | exact rv_tmp (by rfl) | exact rv_cellN (by rfl) (by repeat constructor) (by rfl) (by rfl) (by rfl) | exact rv_cell1 (by rfl) (by repeat constructor) (by rfl) (by rfl))); exact zml; exact zkp; exact ⟨rfl, TT.z, rfl, ok_z _, rfl⟩)
    · replace h4 : j < s.w := h4.resolve_right h5
      refine Ct.enterV (by rfl) Try.func13 rfl Try.ntmps13 rfl (fun w0 Rest => ?_)
      (repeat' (first | refine zss ?_ | ((first | (with_reducible first | apply At.val | apply AtQ.val)); (first | exact pr_buildArr (by rfl) (by rfl) | exact pq (by rfl) (by rfl) | exact pr_indexArr (k := 0) (by rfl) (by rfl) (by rfl) (by rfl) (by decide)); exact rfl) | refine zs0 ?_ | ((with_reducible first | apply At.c1 | apply At.c0); exact rfl; exact rfl; exact ko _ zml; exact ztk; kernel_rfl; rintro v' m' B' hm' ⟨rfl, q, rfl, rfl⟩; (try replace sl9 := sl9.mono hm'); (try (have hq0 : hm' = Mem.le_refl _ := rfl; clear hq0 hm'))) | ((with_reducible first | apply AtM1.callp | apply AtQ.callp | apply At.callp); kernel_rfl; exact rfl; exact rfl; exact kf) | ((with_reducible first | apply AtM1.cr | apply AtQ.cr | apply At.cr); exact rfl; exact rfl; exact fun _ hmm => kb _ q; exact ztk; kernel_rfl) | ((with_reducible apply At.box (d := 4)); exact rfl; exact rfl; exact rfl; intro b4) | ((with_reducible apply At.box (d := 5)); exact rfl; exact rfl; exact rfl; intro b5) | ((with_reducible apply At.box (d := 6)); exact rfl; exact rfl; exact rfl; intro b6) | ((with_reducible apply At.alloc (d := 8)); exact rfl; exact rfl; intro b8) | (refine zsp ?_ ?_ <;> (intro hc; (try simp only [zhcs, reduceCtorEq] at hc); (try (exfalso; first | (first | omega | exact absurd hc h3) | contradiction | omega | exact absurd rfl hc | exact absurd (by decide) hc))))))
      all_goals ((with_reducible apply At.retV (B := [])); exact rfl; (repeat' (first | exact RVs.nil | (with_reducible apply RVs.cons) | exact rv_tmp (by rfl) | exact rv_cellN (by rfl) (by repeat constructor) (by rfl) (by rfl) (by rfl) | exact rv_cell1 (by rfl) (by repeat constructor) (by rfl) (by rfl))); exact zml; exact zkp; exact ⟨rfl, TT.z, rfl, ok_z _, rfl⟩)
  have h5 : bgn K.a j = true := by cases e : bgn K.a j; exact absurd (.inr e) h4; rfl
  rw [h5] at kb
  have e1 : closeE K t.ls s j = 0 := (if_neg (fun k => k h)).trans ((if_neg nb).trans ((if_neg nc).trans (if_neg h4)))
  have e2 : closeT K t.ls s j = up K ⟨putO t.a.l K.a s.w s.c, t.b.l, t.c.l⟩ s.w j := (if_neg (by rw [e1]; decide)).trans (if_neg nc)
  rw [e1, e2]
  have hj := bgn_bd h5 hw.1
  have hf := fits_i h2
  have hi1 : 0 ≤ s.w * K.a := Int.mul_nonneg (by omega) (by omega)
  have hi2 : s.w * K.a ≤ 35184372088832 := by
    have := Int.mul_le_mul_of_nonneg_right (show s.w ≤ j by omega) (show 0 ≤ K.a by omega)
    omega
  have hpe : putE t.a.l K.a s.w s.c = 0 := if_pos ⟨h.2.1.2, h2⟩
  have kp := fun (m' : Mem) (q : Nat) (h' : m.le m') => putY (put0 (m := m') q K t s.w s.c (ho.mono h') hs.1 hs.2.1) hpe
  change ∀ m' q (h' : m.le m'), Ct _ _ _ _ _ (fun v m' B => v = .int .i64 0 ∧ ∃ n : Lst Slot, n.l = putO t.a.l K.a s.w s.c ∧ Sl m' cells 15 n.p n.c n.l ∧ B = kt q K ⟨n, t.b, t.c⟩) at kp
  have hn : ∀ (m' : Mem) (n : Lst Slot), n.l = putO t.a.l K.a s.w s.c → m.le m' → Sl m' cells 15 n.p n.c n.l → (⟨n, t.b, t.c⟩ : TT).Ok m' := fun m' n hn hm sl => ⟨⟨sl, by rw [hn]; exact putO_in ho.a.i (slot_cell hs) hs.1, by rw [hn]; exact Nat.le_trans (putO_le _ _ _ _) ho.a.n⟩, ho.b.mono hm, ho.c.mono hm⟩
  have ku := fun (m' : Mem) (q : Nat) (n : Lst Slot) (hn1 : n.l = putO t.a.l K.a s.w s.c) (ho' : (⟨n, t.b, t.c⟩ : TT).Ok m') => upF (m := m') q K ⟨n, t.b, t.c⟩ s.w j ho' h.1 (by show okT n.l K.a; rw [hn1]; exact putO_ok hpe) h.2.2.1.2 h.2.2.2.2 (by omega) (by omega)
  clear hj hf hi1 hi2 hw ho hpe e1 e2
  refine Ct.enterV (by rfl) Try.func13 rfl Try.ntmps13 rfl (fun w0 Rest => ?_)
  (repeat' (first | refine zss ?_ | ((first | (with_reducible first | apply At.val | apply AtQ.val)); (first | exact pr_buildArr (by rfl) (by rfl) | exact pq (by rfl) (by rfl) | exact pr_indexArr (k := 0) (by rfl) (by rfl) (by rfl) (by rfl) (by decide)); exact rfl) | refine zs0 ?_ | ((with_reducible first | apply At.c1 | apply At.c0); exact rfl; exact rfl; exact ko _ zml; exact ztk; kernel_rfl; rintro v' m' B' hm' ⟨rfl, q, rfl, rfl⟩; (try replace sl9 := sl9.mono hm'); (try (have hq0 : hm' = Mem.le_refl _ := rfl; clear hq0 hm'))) | ((with_reducible first | apply AtM1.callp | apply AtQ.callp | apply At.callp); kernel_rfl; exact rfl; exact rfl; exact kf) | ((with_reducible first | apply AtM1.cr | apply AtQ.cr | apply At.cr); exact rfl; exact rfl; exact fun _ hmm => kb _ q; exact ztk; kernel_rfl) | ((with_reducible first | apply At.c1 | apply At.c0); exact rfl; exact rfl; exact kp _ q zml; exact ztk; kernel_rfl; rintro v' m' B' hm' ⟨rfl, n, hn1, sl9, rfl⟩; (try replace sl9 := sl9.mono hm'); (try (have hq0 : hm' = Mem.le_refl _ := rfl; clear hq0 hm'))) | ((with_reducible first | apply At.c1 | apply At.c0); exact rfl; exact rfl; exact ku _ q n hn1 (hn _ n hn1 zml sl9); exact ztk; kernel_rfl; rintro v' m' B' hm' ⟨rfl, t', ht1, ht2, rfl⟩; (try replace sl9 := sl9.mono hm'); (try (have hq0 : hm' = Mem.le_refl _ := rfl; clear hq0 hm'))) | ((with_reducible apply At.box (d := 4)); exact rfl; exact rfl; exact rfl; intro b4) | ((with_reducible apply At.box (d := 5)); exact rfl; exact rfl; exact rfl; intro b5) | ((with_reducible apply At.box (d := 6)); exact rfl; exact rfl; exact rfl; intro b6) | ((with_reducible apply At.alloc (d := 8)); exact rfl; exact rfl; intro b8) | (refine zsp ?_ ?_ <;> (intro hc; (try simp only [zhcs, reduceCtorEq] at hc); (try (exfalso; first | (first | omega | exact absurd hc h3) | contradiction | omega | exact absurd rfl hc | exact absurd (by decide) hc))))))
  all_goals ((with_reducible apply At.retV (B := [])); exact rfl; (repeat' (first | exact RVs.nil | (with_reducible apply RVs.cons) | exact rv_tmp (by rfl) | exact rv_cellN (by rfl) (by repeat constructor) (by rfl) (by rfl) (by rfl) | exact rv_cell1 (by rfl) (by repeat constructor) (by rfl) (by rfl))); exact zml; exact zkp; exact ⟨rfl, t', rfl, ht1, by rw [ht2, ← hn1]; rfl⟩)
def sml (t : L3) : Prop := t.a.length ≤ 40 ∧ t.b.length ≤ 40 ∧ t.c.length ≤ 40
instance (t : L3) : Decidable (sml t) := by unfold sml; infer_instance
theorem small (y : TT) : Pu Try.prog 8 #[y.v] (.int .i64 (if sml y.ls then 1 else 0)) := Pu.intro fun m => by
  have e : sml y.ls ↔ y.a.l.length ≤ 40 ∧ y.b.l.length ≤ 40 ∧ y.c.l.length ≤ 40 := Iff.rfl
  by_cases h : sml y.ls
  · rw [if_pos h]
    obtain ⟨h1, h2, h3⟩ := e.1 h
    clear e
    refine Ct.enterV (by rfl) Try.func8 rfl Try.ntmps8 rfl (fun w0 Rest => ?_)
    (repeat' (first | refine zss ?_ | refine zs0 ?_ | ((with_reducible apply At.box (d := 1)); exact rfl; exact rfl; exact rfl; intro b1) | (refine zsp ?_ ?_ <;> (intro hc; (try simp only [zhcs, reduceCtorEq] at hc); (try (exfalso; first | contradiction | omega | exact absurd rfl hc | exact absurd (by decide) hc))))))
    (refine At.loopk (σ := Nat) [1] (fun s F0 => (4, .int .i64 (s : Int)) :: F0) (fun s => m) (fun s => .blk b1 29 y.cells :: Rest) (fun s => s ≤ 3) (fun s => 3 - s) 0 (by rfl) ?_ zsubs zml zente ?_)
    · exact Nat.zero_le _
    rintro s hs
    rcases (show s = 0 ∨ s = 1 ∨ s = 2 ∨ s = 3 by omega) with rfl | rfl | rfl | rfl
    · (repeat' (first | refine zss ?_ | ((first | (with_reducible first | apply At.val | apply AtQ.val)); (exact pr_indexArr (k := 0) (by rfl) (by rfl) (by rfl) (by rfl) (by decide)); exact rfl) | refine zs0 ?_ | ((with_reducible apply At.box (d := 1)); exact rfl; exact rfl; exact rfl; intro b1) | (refine zsp ?_ ?_ <;> (intro hc; (try simp only [zhcs, reduceCtorEq] at hc); (try (exfalso; first | omega | contradiction | omega | exact absurd rfl hc | exact absurd (by decide) hc))))))
      all_goals ((with_reducible refine At.reachk (1) ?_ ?_ ?_ ?_); exact zsubs; exact zml; exact zente; exact ⟨by decide, by decide⟩)
    · (repeat' (first | refine zss ?_ | ((first | (with_reducible first | apply At.val | apply AtQ.val)); (exact pr_indexArr (k := 1) (by rfl) (by rfl) (by rfl) (by rfl) (by decide)); exact rfl) | refine zs0 ?_ | ((with_reducible apply At.box (d := 1)); exact rfl; exact rfl; exact rfl; intro b1) | (refine zsp ?_ ?_ <;> (intro hc; (try simp only [zhcs, reduceCtorEq] at hc); (try (exfalso; first | omega | contradiction | omega | exact absurd rfl hc | exact absurd (by decide) hc))))))
      all_goals ((with_reducible refine At.reachk (2) ?_ ?_ ?_ ?_); exact zsubs; exact zml; exact zente; exact ⟨by decide, by decide⟩)
    · (repeat' (first | refine zss ?_ | ((first | (with_reducible first | apply At.val | apply AtQ.val)); (exact pr_indexArr (k := 2) (by rfl) (by rfl) (by rfl) (by rfl) (by decide)); exact rfl) | refine zs0 ?_ | ((with_reducible apply At.box (d := 1)); exact rfl; exact rfl; exact rfl; intro b1) | (refine zsp ?_ ?_ <;> (intro hc; (try simp only [zhcs, reduceCtorEq] at hc); (try (exfalso; first | omega | contradiction | omega | exact absurd rfl hc | exact absurd (by decide) hc))))))
      all_goals ((with_reducible refine At.reachk (3) ?_ ?_ ?_ ?_); exact zsubs; exact zml; exact zente; exact ⟨by decide, by decide⟩)
    · (repeat' (first | refine zss ?_ | refine zs0 ?_ | ((with_reducible apply At.box (d := 1)); exact rfl; exact rfl; exact rfl; intro b1) | (refine zsp ?_ ?_ <;> (intro hc; (try simp only [zhcs, reduceCtorEq] at hc); (try (exfalso; first | omega | contradiction | omega | exact absurd rfl hc | exact absurd (by decide) hc))))))
      all_goals ((with_reducible apply At.retB1 (B := [])); exact rfl; exact rfl; exact zml; exact zkp; exact ⟨rfl, rfl, rfl⟩)
  · rw [if_neg h]
    replace h : ¬ (y.a.l.length ≤ 40 ∧ y.b.l.length ≤ 40 ∧ y.c.l.length ≤ 40) := h
    clear e
    refine Ct.enterV (by rfl) Try.func8 rfl Try.ntmps8 rfl (fun w0 Rest => ?_)
    (repeat' (first | refine zss ?_ | refine zs0 ?_ | ((with_reducible apply At.box (d := 1)); exact rfl; exact rfl; exact rfl; intro b1) | (refine zsp ?_ ?_ <;> (intro hc; (try simp only [zhcs, reduceCtorEq] at hc); (try (exfalso; first | contradiction | omega | exact absurd rfl hc | exact absurd (by decide) hc))))))
    (refine At.loopk (σ := Nat) [1] (fun s F0 => (4, .int .i64 (s : Int)) :: F0) (fun s => m) (fun s => .blk b1 29 y.cells :: Rest) (fun s => s ≤ 3 ∧ (0 < s → y.a.l.length ≤ 40) ∧ (1 < s → y.b.l.length ≤ 40) ∧ (2 < s → y.c.l.length ≤ 40)) (fun s => 3 - s) 0 (by rfl) ?_ zsubs zml zente ?_)
    · exact ⟨Nat.zero_le _, fun h => absurd h (by decide), fun h => absurd h (by decide), fun h => absurd h (by decide)⟩
    rintro s ⟨hs, g0, g1, g2⟩
    rcases (show s = 0 ∨ s = 1 ∨ s = 2 ∨ s = 3 by omega) with rfl | rfl | rfl | rfl
    · by_cases g : y.a.l.length ≤ 40
      · (repeat' (first | refine zss ?_ | ((first | (with_reducible first | apply At.val | apply AtQ.val)); (exact pr_indexArr (k := 0) (by rfl) (by rfl) (by rfl) (by rfl) (by decide)); exact rfl) | refine zs0 ?_ | ((with_reducible apply At.box (d := 1)); exact rfl; exact rfl; exact rfl; intro b1) | (refine zsp ?_ ?_ <;> (intro hc; (try simp only [zhcs, reduceCtorEq] at hc); (try (exfalso; first | omega | contradiction | omega | exact absurd rfl hc | exact absurd (by decide) hc))))))
        all_goals ((with_reducible refine At.reachk (1) ?_ ?_ ?_ ?_); exact zsubs; exact zml; exact zente; exact ⟨⟨by decide, fun _ => g, fun h => absurd h (by decide), fun h => absurd h (by decide)⟩, by decide⟩)
      · (repeat' (first | refine zss ?_ | ((first | (with_reducible first | apply At.val | apply AtQ.val)); (exact pr_indexArr (k := 0) (by rfl) (by rfl) (by rfl) (by rfl) (by decide)); exact rfl) | refine zs0 ?_ | ((with_reducible apply At.box (d := 1)); exact rfl; exact rfl; exact rfl; intro b1) | (refine zsp ?_ ?_ <;> (intro hc; (try simp only [zhcs, reduceCtorEq] at hc); (try (exfalso; first | omega | contradiction | omega | exact absurd rfl hc | exact absurd (by decide) hc))))))
        all_goals ((with_reducible apply At.retB1 (B := [])); exact rfl; exact rfl; exact zml; exact zkp; exact ⟨rfl, rfl, rfl⟩)
    · by_cases g : y.b.l.length ≤ 40
      · (repeat' (first | refine zss ?_ | ((first | (with_reducible first | apply At.val | apply AtQ.val)); (exact pr_indexArr (k := 1) (by rfl) (by rfl) (by rfl) (by rfl) (by decide)); exact rfl) | refine zs0 ?_ | ((with_reducible apply At.box (d := 1)); exact rfl; exact rfl; exact rfl; intro b1) | (refine zsp ?_ ?_ <;> (intro hc; (try simp only [zhcs, reduceCtorEq] at hc); (try (exfalso; first | omega | contradiction | omega | exact absurd rfl hc | exact absurd (by decide) hc))))))
        all_goals ((with_reducible refine At.reachk (2) ?_ ?_ ?_ ?_); exact zsubs; exact zml; exact zente; exact ⟨⟨by decide, fun _ => g0 (by decide), fun _ => g, fun h => absurd h (by decide)⟩, by decide⟩)
      · (repeat' (first | refine zss ?_ | ((first | (with_reducible first | apply At.val | apply AtQ.val)); (exact pr_indexArr (k := 1) (by rfl) (by rfl) (by rfl) (by rfl) (by decide)); exact rfl) | refine zs0 ?_ | ((with_reducible apply At.box (d := 1)); exact rfl; exact rfl; exact rfl; intro b1) | (refine zsp ?_ ?_ <;> (intro hc; (try simp only [zhcs, reduceCtorEq] at hc); (try (exfalso; first | omega | contradiction | omega | exact absurd rfl hc | exact absurd (by decide) hc))))))
        all_goals ((with_reducible apply At.retB1 (B := [])); exact rfl; exact rfl; exact zml; exact zkp; exact ⟨rfl, rfl, rfl⟩)
    · by_cases g : y.c.l.length ≤ 40
      · exact absurd ⟨g0 (by decide), g1 (by decide), g⟩ h
      · (repeat' (first | refine zss ?_ | ((first | (with_reducible first | apply At.val | apply AtQ.val)); (exact pr_indexArr (k := 2) (by rfl) (by rfl) (by rfl) (by rfl) (by decide)); exact rfl) | refine zs0 ?_ | ((with_reducible apply At.box (d := 1)); exact rfl; exact rfl; exact rfl; intro b1) | (refine zsp ?_ ?_ <;> (intro hc; (try simp only [zhcs, reduceCtorEq] at hc); (try (exfalso; first | omega | contradiction | omega | exact absurd rfl hc | exact absurd (by decide) hc))))))
        all_goals ((with_reducible apply At.retB1 (B := [])); exact rfl; exact rfl; exact zml; exact zkp; exact ⟨rfl, rfl, rfl⟩)
    · exact absurd ⟨g0 (by decide), g1 (by decide), g2 (by decide)⟩ h
end Fo
end Go.Proofs.Ytojchlcbbjpkpaa
/- A stack of tiers and the window that is open, in plain words: what they have of events that were put, one behind the other. -/
set_option linter.unusedSimpArgs false
set_option linter.unusedVariables false
set_option linter.unusedSectionVars false
set_option maxRecDepth 20000
set_option maxHeartbeats 4000000
namespace Go.Proofs.Ytojchlcbbjpkpaa
open Go Go.J
namespace Gr
open Cell Ti Fo
def lastT (es : List Ev) : Int := (es.getLast?.map Ev.T).getD 0
theorem lastT_snoc (es : List Ev) (e : Ev) : lastT (es ++ [e]) = e.T := by
  unfold lastT
  rw [List.getLast?_append, List.getLast?_singleton]
  rfl
theorem lastT_get {es : List Ev} (h : es ≠ []) : lastT es = (es.getLast h).T := by
  unfold lastT
  rw [List.getLast?_eq_some_getLast h]
  rfl
theorem le_last {es : List Ev} (hG : Good es) {e : Ev} (he : e ∈ es) : e.T ≤ lastT es := by
  have hn : es ≠ [] := List.ne_nil_of_mem he
  rw [lastT_get hn]
  obtain ⟨i, hi, rfl⟩ := List.mem_iff_getElem.1 he
  rw [List.getLast_eq_getElem hn]
  rcases Nat.lt_or_ge i (es.length - 1) with h | h
  · exact Int.le_of_lt (List.pairwise_iff_getElem.1 hG.2 i _ hi (by omega) h)
  · have : i = es.length - 1 := by omega
    subst this
    exact Int.le_refl _
theorem le_win {es : List Ev} (hG : Good es) {w : Int} (hw : 1 ≤ w) {e : Ev} (he : e ∈ es) : e.T / w ≤ lastT es / w := Int.ediv_le_ediv (by omega) (le_last hG he)
theorem win_last {es : List Ev} (h : es ≠ []) (w : Int) : win w (lastT es / w) es ≠ [] := by
  refine List.ne_nil_of_mem (a := es.getLast h) (win_mem.2 ⟨List.getLast_mem h, ?_⟩)
  rw [lastT_get h]
theorem last_bd {es : List Ev} (hG : Good es) (h : es ≠ []) : 0 ≤ lastT es ∧ lastT es ≤ 35184372088831 := by
  have := (hG.1 _ (List.getLast_mem h)).1
  rw [lastT_get h]
  unfold Ev.ok at this
  omega
theorem div_lvl {x a f : Int} (ha : 0 < a) : x / a * a / (a * f) = x / (a * f) := by
  rw [Int.mul_comm (x / a) a, Int.mul_ediv_mul_of_pos _ _ ha, ← div_div ha]
/-- the window that is over is made of the tier below -/
theorem made_win {wl nl f v : Int} {es : List Ev} {lo : List Slot} (hG : Good es) (hn : es ≠ []) (hw : 1 ≤ wl) (hf : 1 ≤ f) (hfn : f ≤ nl) (h : Lv wl nl es (lastT es / wl + 1) lo) :
    foldC lo (lastT es / (wl * f) * f) ((lastT es / (wl * f) + 1) * f) = (G (wl * f) es (lastT es / (wl * f)), 0) := by
  have hb := last_bd hG hn
  have hov : 0 ≤ lastT es / (wl * f) := Int.ediv_nonneg hb.1 (Int.mul_nonneg (by omega) (by omega))
  refine foldC_win (by omega) (by omega) hov hG h.ok (fun s hs ks => (h.snd s hs ks).2) fun e he heq => ?_
  rw [div_div (by omega), div_range (by omega)] at heq
  have hl : lastT es / wl < (lastT es / (wl * f) + 1) * f := ((div_range (by omega)).1 (div_div (t := lastT es) (by omega)).symm).2
  rw [Int.add_mul, Int.one_mul] at hl
  have hle := le_win hG hw he
  have hm := h.cmp e he (by omega) (by omega)
  have hfe : Full (G wl es (e.T / wl)) := (cel_full (hG.sub (win_sub wl _ es)) (List.ne_nil_of_mem (win_mem.2 ⟨he, rfl⟩))).1
  exact ⟨_, hm, keep_full hfe, rfl⟩
def opn (K : Cfg) (es : List Ev) : Slot := if es = [] then Slot.z else ⟨lastT es / K.a, G K.a es (lastT es / K.a)⟩
/-- what a stack has, and which window is open -/
structure Inv (K : Cfg) (es : List Ev) (T : L3) (o : Slot) : Prop where
  ok : K.ok
  g : Good es
  a : Lv K.a K.x es (lastT es / K.a) T.a
  b : Lv K.b K.y es (lastT es / K.b) T.b
  c : Lv K.d K.w es (lastT es / K.d) T.c
  op : o = opn K es
theorem Inv.new {K : Cfg} (h : K.ok) : Inv K [] (emp K) Slot.z := by
  have e : emp K = ⟨newL K.x, newL K.y, newL K.w⟩ := if_pos h
  rw [e]
  exact ⟨h, ⟨fun _ h => absurd h List.not_mem_nil, List.Pairwise.nil⟩, Lv.new h.hx h.ha, Lv.new h.hy h.hb, Lv.new h.hw h.hd, rfl⟩
/-- a greater tier's width is so many times that of the one below -/
theorem cfg_f {K : Cfg} (h : K.ok) : (∃ f, K.b / K.a = f ∧ K.b = K.a * f ∧ 1 ≤ f ∧ f ≤ K.x) ∧ (∃ f, K.d / K.b = f ∧ K.d = K.b * f ∧ 1 ≤ f ∧ f ≤ K.y) := by
  have ha := h.ha
  have hb := h.hb
  have hd := h.hd
  have h1 := Int.ediv_mul_cancel_of_emod_eq_zero h.hba.1
  have h2 := Int.ediv_mul_cancel_of_emod_eq_zero h.hdb.1
  refine ⟨⟨K.b / K.a, rfl, by rw [Int.mul_comm]; exact h1.symm, ?_, h.hba.2⟩, ⟨K.d / K.b, rfl, by rw [Int.mul_comm]; exact h2.symm, ?_, h.hdb.2⟩⟩
  · refine Int.not_lt.1 fun hlt => ?_
    have : K.b / K.a * K.a ≤ 0 := Int.mul_nonpos_of_nonpos_of_nonneg (by omega) (by omega)
    omega
  · refine Int.not_lt.1 fun hlt => ?_
    have : K.d / K.b * K.b ≤ 0 := Int.mul_nonpos_of_nonpos_of_nonneg (by omega) (by omega)
    omega
theorem Inv.fk {K : Cfg} {es : List Ev} {T : L3} {o : Slot} (h : Inv K es T o) : fk K T := ⟨h.ok, ⟨h.a.len, h.a.ok⟩, ⟨h.b.len, h.b.ok⟩, ⟨h.c.len, h.c.ok⟩⟩
theorem Inv.open_ {K : Cfg} {es : List Ev} {T : L3} {o : Slot} (h : Inv K es T o) (hn : es ≠ []) : o = ⟨lastT es / K.a, G K.a es (lastT es / K.a)⟩ ∧ Full o.c ∧ fits o.c K.a o.w ∧ o ≠ Slot.z := by
  have e : o = ⟨lastT es / K.a, G K.a es (lastT es / K.a)⟩ := h.op.trans (if_neg hn)
  have hf : Full (G K.a es (lastT es / K.a)) := (cel_full (h.g.sub (win_sub K.a _ es)) (win_last hn K.a)).1
  have hk := keep_full (i := lastT es / K.a) hf
  subst e
  exact ⟨rfl, hf, G_fits h.g h.ok.ha (win_last hn K.a), keep_ne.1 hk⟩
/-- the window that is open is closed: a later one is open -/
theorem Inv.close {K : Cfg} {es : List Ev} {T : L3} {o : Slot} (h : Inv K es T o) (hn : es ≠ []) {j : Int} (hj : lastT es / K.a < j) (hb : bgn K.a j = true) :
    closeE K T o j = 0 ∧ ∃ T', closeT K T o j = T' ∧ Lv K.a K.x es j T'.a ∧ Lv K.b K.y es (j * K.a / K.b) T'.b ∧ Lv K.d K.w es (j * K.a / K.d) T'.c := by
  obtain ⟨ho, hfu, hfi, hz⟩ := h.open_ hn
  have ha := h.ok.ha
  have hbb := h.ok.hb
  have hd := h.ok.hd
  obtain ⟨⟨f1, ef1, eb, g1, g2⟩, ⟨f2, ef2, ed, g3, g4⟩⟩ := cfg_f h.ok
  have how : o.w = lastT es / K.a := by rw [ho]
  have hoc : o.c = G K.a es (lastT es / K.a) := by rw [ho]
  have hE : closeE K T o j = 0 := (if_neg (fun k => k h.fk)).trans ((if_neg (fun k => k.2 hfi)).trans ((if_neg (fun k => k.elim hz (fun k => by omega))).trans (if_neg (fun k => k.elim (fun k => by omega) (fun k => by rw [hb] at k; cases k)))))
  have hT : closeT K T o j = up K ⟨putO T.a K.a o.w o.c, T.b, T.c⟩ o.w j := (if_neg (by rw [hE]; exact fun k => k rfl)).trans (if_neg (fun k => k.elim hz (fun k => by omega)))
  refine ⟨hE, _, hT, ?_⟩
  rw [how, hoc]
  obtain ⟨p1, p2⟩ := h.a.put h.g (win_last hn K.a) (fun e he => le_win h.g ha.1 he)
  have o1 : lastT es / K.a * K.a / K.b = lastT es / K.b := by rw [eb]; exact div_lvl (by omega)
  have o2 : lastT es / K.a * K.a / K.d = lastT es / K.d := by rw [ed, eb, Int.mul_assoc]; exact div_lvl (by omega)
  have q1 : lastT es / K.b ≤ j * K.a / K.b := by rw [← o1]; exact Int.ediv_le_ediv (by omega) (Int.mul_le_mul_of_nonneg_right (by omega) (by omega))
  have lvl1 : (lastT es / K.b = j * K.a / K.b → upL K 1 (putO T.a K.a (lastT es / K.a) (G K.a es (lastT es / K.a))) T.b (lastT es / K.a) j = T.b) ∧
      (lastT es / K.b < j * K.a / K.b → ∀ c', lastT es / K.b < c' → Lv K.b K.y es c' (upL K 1 (putO T.a K.a (lastT es / K.a) (G K.a es (lastT es / K.a))) T.b (lastT es / K.a) j)) := by
    refine ⟨fun he => upL_same (k := 1) (by show lastT es / K.a * K.a / K.b = _; rw [o1]; exact he), fun hlt => ?_⟩
    have hm := made_win (v := K.a) h.g hn ha.1 g1 g2 (p2 _ (Int.lt_succ _))
    rw [← eb] at hm
    have hr : foldC (putO T.a K.a (lastT es / K.a) (G K.a es (lastT es / K.a))) (lastT es / K.a * K.a / Kw K 1 * (Kw K 1 / Kw K (1 - 1))) ((lastT es / K.a * K.a / Kw K 1 + 1) * (Kw K 1 / Kw K (1 - 1))) = (G K.b es (lastT es / K.b), 0) := by
      show foldC _ (lastT es / K.a * K.a / K.b * (K.b / K.a)) ((lastT es / K.a * K.a / K.b + 1) * (K.b / K.a)) = _
      rw [o1, ef1]; exact hm
    obtain ⟨s1, s2⟩ := h.b.put h.g (win_last hn K.b) (fun e he => le_win h.g hbb.1 he)
    have hgn : 0 < (G K.b es (lastT es / K.b)).n := by rw [G_n]; have := List.length_pos_iff.2 (win_last hn K.b); omega
    have he := upL_yes (k := 1) (l := T.b) (j := j) (by show ¬ lastT es / K.a * K.a / K.b = j * K.a / K.b; rw [o1]; omega) hr ⟨rfl, hgn⟩ (by show putE T.b K.b (lastT es / K.a * K.a / K.b) _ = 0; rw [o1]; exact s1)
    intro c' hc
    rw [he]
    show Lv K.b K.y es c' (putO T.b K.b (lastT es / K.a * K.a / K.b) _)
    rw [o1]
    exact s2 c' hc
  refine ⟨p2 j hj, ?_, ?_⟩
  · show Lv K.b K.y es (j * K.a / K.b) (upL K 1 _ T.b _ j)
    rcases Int.lt_or_eq_of_le q1 with hlt | heq
    · exact lvl1.2 hlt _ hlt
    · rw [lvl1.1 heq, ← heq]; exact h.b
  · show Lv K.d K.w es (j * K.a / K.d) (upL K 2 (upL K 1 _ T.b _ j) T.c _ j)
    have q2 : lastT es / K.d ≤ j * K.a / K.d := by rw [← o2]; exact Int.ediv_le_ediv (by omega) (Int.mul_le_mul_of_nonneg_right (by omega) (by omega))
    rcases Int.lt_or_eq_of_le q2 with hlt | heq
    · have hlt1 : lastT es / K.b < j * K.a / K.b := by
        refine Int.not_le.1 fun hle => ?_
        have := Int.ediv_le_ediv (show 0 < f2 by omega) hle
        rw [← div_div (by omega), ← div_div (by omega), ← ed] at this
        omega
      have hm := made_win (v := K.b) h.g hn hbb.1 g3 g4 (lvl1.2 hlt1 _ (Int.lt_succ _))
      rw [← ed] at hm
      generalize upL K 1 (putO T.a K.a (lastT es / K.a) (G K.a es (lastT es / K.a))) T.b (lastT es / K.a) j = B at hm ⊢
      have hr : foldC B (lastT es / K.a * K.a / Kw K 2 * (Kw K 2 / Kw K (2 - 1))) ((lastT es / K.a * K.a / Kw K 2 + 1) * (Kw K 2 / Kw K (2 - 1))) = (G K.d es (lastT es / K.d), 0) := by
        show foldC _ (lastT es / K.a * K.a / K.d * (K.d / K.b)) ((lastT es / K.a * K.a / K.d + 1) * (K.d / K.b)) = _
        rw [o2, ef2]; exact hm
      obtain ⟨s1, s2⟩ := h.c.put h.g (win_last hn K.d) (fun e he => le_win h.g hd.1 he)
      have hgn : 0 < (G K.d es (lastT es / K.d)).n := by rw [G_n]; have := List.length_pos_iff.2 (win_last hn K.d); omega
      have he := upL_yes (k := 2) (l := T.c) (j := j) (by show ¬ lastT es / K.a * K.a / K.d = j * K.a / K.d; rw [o2]; omega) hr ⟨rfl, hgn⟩ (by show putE T.c K.d (lastT es / K.a * K.a / K.d) _ = 0; rw [o2]; exact s1)
      rw [he]
      show Lv K.d K.w es _ (putO T.c K.d (lastT es / K.a * K.a / K.d) _)
      rw [o2]
      exact s2 _ hlt
    · rw [upL_same (k := 2) (by show lastT es / K.a * K.a / K.d = _; rw [o2]; exact heq), ← heq]; exact h.c
theorem good_last {es : List Ev} {e : Ev} (h : Good (es ++ [e])) : Good es ∧ (e.ok ∧ e.V < 18446744073709551616) ∧ ∀ x ∈ es, x.T < e.T :=
  ⟨h.sub (List.sublist_append_left _ _), h.1 e (List.mem_append_right _ (List.mem_singleton.2 rfl)), fun x hx => (List.pairwise_append.1 h.2).2.2 x hx e (List.mem_singleton.2 rfl)⟩
theorem bgn_ev {e : Ev} (h : e.ok) {w : Int} (hw : 1 ≤ w) : bgn w (e.T / w) = true := by
  unfold Ev.ok at h
  exact decide_eq_true ⟨Int.ediv_nonneg (by omega) (by omega), Int.ediv_le_ediv (by omega) (by omega)⟩
/-- one more event -/
theorem Inv.step {K : Cfg} {es : List Ev} {T : L3} {o : Slot} {e : Ev} (h : Inv K es T o) (hG : Good (es ++ [e])) :
    ∃ T' o', ((0 < o.c.n ∧ o.w ≠ e.T / K.a) → closeE K T o (e.T / K.a) = 0 ∧ closeT K T o (e.T / K.a) = T' ∧ o' = Slot.z) ∧ (¬ (0 < o.c.n ∧ o.w ≠ e.T / K.a) → T' = T ∧ o' = o) ∧
      addE o'.c e = (add o'.c e, 0) ∧ Inv K (es ++ [e]) T' ⟨e.T / K.a, add o'.c e⟩ := by
  obtain ⟨hg, ⟨heo, hev⟩, hlt⟩ := good_last hG
  have ha := h.ok.ha
  have hbb := h.ok.hb
  have hd := h.ok.hd
  obtain ⟨⟨f1, ef1, eb, g1, g2⟩, ⟨f2, ef2, ed, g3, g4⟩⟩ := cfg_f h.ok
  have hTp : 0 ≤ e.T := by unfold Ev.ok at heo; omega
  have haddE : ∀ c : Cell, (c = z ∨ (Full c ∧ c.L.T < e.T)) → addE c e = (add c e, 0) := fun c hc => (if_pos heo).trans (add_full hc heo hev).2.2
  have hop : opn K (es ++ [e]) = ⟨e.T / K.a, G K.a (es ++ [e]) (e.T / K.a)⟩ := by
    unfold opn
    rw [if_neg (by simp), lastT_snoc]
  have hGw : G K.a (es ++ [e]) (e.T / K.a) = add (G K.a es (e.T / K.a)) e := by
    unfold G
    rw [win_snoc' rfl]
    unfold cel
    rw [List.foldl_append]; rfl
  by_cases hn : es = []
  · subst hn
    have ho : o = Slot.z := h.op
    subst ho
    have hz0 : ∀ w : Int, 1 ≤ w → lastT [] / w ≤ e.T / w := fun w hw => by
      rw [show lastT [] = 0 from rfl, Int.zero_ediv]
      exact Int.ediv_nonneg hTp (by omega)
    refine ⟨T, Slot.z, fun k => absurd k.1 (by decide), fun _ => ⟨rfl, rfl⟩, haddE _ (.inl rfl), h.ok, hG, ?_, ?_, ?_, ?_⟩
    · rw [lastT_snoc]
      exact (h.a.later (hz0 K.a ha.1) (fun _ h => absurd h List.not_mem_nil)).add (Int.le_refl _)
    · rw [lastT_snoc]
      exact (h.b.later (hz0 K.b hbb.1) (fun _ h => absurd h List.not_mem_nil)).add (Int.le_refl _)
    · rw [lastT_snoc]
      exact (h.c.later (hz0 K.d hd.1) (fun _ h => absurd h List.not_mem_nil)).add (Int.le_refl _)
    · rw [hop, hGw]; rfl
  obtain ⟨ho, hfu, hfi, hz⟩ := h.open_ hn
  have hll : lastT es < e.T := by rw [lastT_get hn]; exact hlt _ (List.getLast_mem hn)
  have how : o.w = lastT es / K.a := by rw [ho]
  have hoc : o.c = G K.a es (lastT es / K.a) := by rw [ho]
  have hon : 0 < o.c.n := by have := hfu.n; omega
  by_cases hw : lastT es / K.a = e.T / K.a
  · refine ⟨T, o, fun k => absurd hw (by rw [← how]; exact k.2), fun _ => ⟨rfl, rfl⟩, haddE _ (.inr ⟨hfu, ?_⟩), h.ok, hG, ?_, ?_, ?_, ?_⟩
    · rw [hoc]
      obtain ⟨_, _, k3, _⟩ := cel_full (h.g.sub (win_sub K.a _ es)) (win_last hn K.a)
      exact hlt _ (win_mem.1 k3).1
    · rw [lastT_snoc, ← hw]
      exact h.a.add (by omega)
    · have e1 : lastT es / K.b = e.T / K.b := by rw [eb, div_div (by omega), div_div (by omega), hw]
      rw [lastT_snoc, ← e1]
      exact h.b.add (by omega)
    · have e0 : lastT es / K.b = e.T / K.b := by rw [eb, div_div (by omega), div_div (by omega), hw]
      have e1 : lastT es / K.d = e.T / K.d := by rw [ed, div_div (by omega), div_div (by omega), e0]
      rw [lastT_snoc, ← e1]
      exact h.c.add (by omega)
    · rw [hop, hGw, hoc, hw]
  · have hwlt : lastT es / K.a < e.T / K.a := by
      have := Int.ediv_le_ediv (show 0 < K.a by omega) (Int.le_of_lt hll)
      omega
    obtain ⟨hE, T', hT, l0, l1, l2⟩ := h.close hn hwlt (bgn_ev heo ha.1)
    have o1 : e.T / K.a * K.a / K.b = e.T / K.b := by rw [eb]; exact div_lvl (by omega)
    have o2 : e.T / K.a * K.a / K.d = e.T / K.d := by rw [ed, eb, Int.mul_assoc]; exact div_lvl (by omega)
    rw [o1] at l1
    rw [o2] at l2
    refine ⟨T', Slot.z, fun _ => ⟨hE, hT, rfl⟩, fun k => absurd ⟨hon, by rw [how]; exact hw⟩ k, haddE _ (.inl rfl), h.ok, hG, ?_, ?_, ?_, ?_⟩
    · rw [lastT_snoc]; exact l0.add (Int.le_refl _)
    · rw [lastT_snoc]; exact l1.add (Int.le_refl _)
    · rw [lastT_snoc]; exact l2.add (Int.le_refl _)
    · have hnone : win K.a (e.T / K.a) es = [] := by
        refine List.eq_nil_iff_forall_not_mem.2 fun x hx => ?_
        obtain ⟨h1, h2⟩ := win_mem.1 hx
        have := le_win h.g ha.1 h1
        omega
      rw [hop, hGw]
      show _ = (⟨_, add (G K.a es (e.T / K.a)) e⟩ : Slot)
      unfold G
      rw [hnone]
      rfl
end Gr
end Go.Proofs.Ytojchlcbbjpkpaa
/- Stacks of tiers in plain words: going on in two steps comes to the same as in one. -/
set_option linter.unusedSimpArgs false
set_option linter.unusedVariables false
set_option linter.unusedSectionVars false
set_option maxRecDepth 20000
set_option maxHeartbeats 4000000
namespace Go.Proofs.Ytojchlcbbjpkpaa
open Go Go.J
namespace Gr
open Cell Ti Fo
/-- all windows lie below -/
def Bel (l : List Slot) (x : Int) : Prop := ∀ s ∈ l, keep s = true → s.w < x
theorem foldC_none {l : List Slot} {o f : Int} (ho : 0 ≤ o) (hf : 0 ≤ f) (h : Bel l (o * f)) : foldC l (o * f) ((o + 1) * f) = (z, 0) := by
  have h1 : ¬ (o * f < 0 ∨ (o + 1) * f < o * f) := by
    have := Int.mul_nonneg ho hf
    rw [Int.add_mul, Int.one_mul]
    omega
  unfold foldC
  rw [if_neg h1]
  have e : (alls l).filter (fun s => decide (o * f ≤ s.w ∧ s.w < (o + 1) * f)) = [] := by
    rw [List.filter_eq_nil_iff]
    intro s hs
    obtain ⟨h2, h3⟩ := alls_mem.1 hs
    have := h s h2 h3
    rw [decide_eq_true_eq]
    omega
  rw [e]
  rfl
theorem upL_skip {K : Cfg} {k : Nat} {b l : List Slot} {i j : Int} (ho : 0 ≤ i * K.a / Kw K k) (hf : 0 ≤ Kw K k / Kw K (k - 1)) (h : Bel b (i * K.a / Kw K k * (Kw K k / Kw K (k - 1)))) : upL K k b l i j = l := by
  by_cases e : i * K.a / Kw K k = j * K.a / Kw K k
  · exact upL_same e
  · exact upL_no e (foldC_none ho hf h) (fun hh => absurd hh.2 (by show ¬ (0 : Int) < 0; decide))
theorem upL_from {K : Cfg} {k : Nat} {b l : List Slot} {w i j : Int} (h : w * K.a / Kw K k = i * K.a / Kw K k) : upL K k b l i j = upL K k b l w j := by
  unfold upL
  rw [h]
theorem upL_to {K : Cfg} {k : Nat} {b l : List Slot} {w i j : Int} (h1 : w * K.a / Kw K k ≠ i * K.a / Kw K k) (h2 : w * K.a / Kw K k ≠ j * K.a / Kw K k) : upL K k b l w i = upL K k b l w j := by
  unfold upL
  rw [if_neg h1, if_neg h2]
theorem putO_bel {l : List Slot} {w i x : Int} {c : Cell} (h : Bel l x) (hi : i < x) : Bel (putO l w i c) x := fun s hs ks => by
  unfold putO at hs
  split at hs
  · rcases List.mem_or_eq_of_mem_set hs with hs | rfl
    · exact h s hs ks
    · exact hi
  · exact absurd hs List.not_mem_nil
theorem upL_bel {K : Cfg} {k : Nat} {b l : List Slot} {i j x : Int} (h : Bel l x) (hx : i * K.a / Kw K k < x) : Bel (upL K k b l i j) x := by
  unfold upL
  split
  · exact h
  · split
    · split
      · exact putO_bel h hx
      · exact h
    · exact h
theorem Bel.le {l : List Slot} {x y : Int} (h : Bel l x) (hxy : x ≤ y) : Bel l y := fun s hs ks => by have := h s hs ks; omega
theorem lvl_div {w a f : Int} (ha : 0 < a) : w * a / (a * f) = w / f := by
  rw [Int.mul_comm w a, Int.mul_ediv_mul_of_pos _ _ ha]
theorem up_up {K : Cfg} {A B C : List Slot} {w i j : Int} (hK : K.ok) (hw : 0 ≤ w) (hwi : w < i) (hij : i ≤ j) (hA : Bel A (w + 1)) (hB : Bel B (w * K.a / K.b + 1)) :
    up K (up K ⟨A, B, C⟩ w i) i j = up K ⟨A, B, C⟩ w j := by
  have ha := hK.ha
  have hb := hK.hb
  obtain ⟨⟨f1, ef1, eb, g1, g2⟩, ⟨f2, ef2, ed, g3, g4⟩⟩ := cfg_f hK
  have d1 : ∀ x : Int, x * K.a / K.b = x / f1 := fun x => by rw [eb]; exact lvl_div (by omega)
  have d2 : ∀ x : Int, x * K.a / K.d = x * K.a / K.b / f2 := fun x => by rw [ed, div_div (by omega)]
  have mono : ∀ {x y f : Int}, x ≤ y → 1 ≤ f → x / f ≤ y / f := fun h hf => Int.ediv_le_ediv (by omega) h
  have hlt1 : w * K.a / K.b < i * K.a / K.b → Bel A (i * K.a / Kw K 1 * (Kw K 1 / Kw K (1 - 1))) := fun h => hA.le (by
    show w + 1 ≤ i * K.a / K.b * (K.b / K.a)
    rw [ef1]
    have h1 := Int.lt_ediv_add_one_mul_self w (show 0 < f1 by omega)
    rw [← d1] at h1
    have h2 : (w * K.a / K.b + 1) * f1 ≤ i * K.a / K.b * f1 := Int.mul_le_mul_of_nonneg_right (by omega) (by omega)
    omega)
  have p1 : 0 ≤ i * K.a / K.b := by rw [d1]; exact Int.ediv_nonneg (by omega) (by omega)
  have p2 : 0 ≤ i * K.a / K.d := by rw [d2]; exact Int.ediv_nonneg p1 (by omega)
  have m1 : w * K.a / K.b ≤ i * K.a / K.b := by rw [d1, d1]; exact mono (by omega) g1
  have m1' : i * K.a / K.b ≤ j * K.a / K.b := by rw [d1, d1]; exact mono (by omega) g1
  have m2 : w * K.a / K.d ≤ i * K.a / K.d := by rw [d2, d2]; exact mono m1 g3
  have m2' : i * K.a / K.d ≤ j * K.a / K.d := by rw [d2, d2]; exact mono m1' g3
  have claim1 : upL K 1 A (upL K 1 A B w i) i j = upL K 1 A B w j := by
    by_cases e : w * K.a / K.b = i * K.a / K.b
    · rw [upL_same (k := 1) (j := i) (i := w) (by exact e)]
      exact upL_from (k := 1) (by exact e)
    · rw [upL_to (k := 1) (w := w) (i := i) (j := j) (by exact e) (by show w * K.a / K.b ≠ j * K.a / K.b; omega)]
      exact upL_skip (k := 1) (by exact p1) (by show 0 ≤ K.b / K.a; omega) (hlt1 (by omega))
  have bji : w * K.a / K.b ≠ i * K.a / K.b → upL K 1 A B w i = upL K 1 A B w j := fun e => upL_to (k := 1) (by exact e) (by show w * K.a / K.b ≠ j * K.a / K.b; omega)
  have hBj : Bel (upL K 1 A B w j) (w * K.a / K.b + 1) := upL_bel (k := 1) hB (by show w * K.a / K.b < _; omega)
  unfold up
  dsimp only
  rw [claim1]
  have claim2 : upL K 2 (upL K 1 A B w j) (upL K 2 (upL K 1 A B w i) C w i) i j = upL K 2 (upL K 1 A B w j) C w j := by
    by_cases e : w * K.a / K.d = i * K.a / K.d
    · rw [upL_same (k := 2) (j := i) (i := w) (by exact e)]
      exact upL_from (k := 2) (by exact e)
    · have e1 : w * K.a / K.b ≠ i * K.a / K.b := fun h => e (by rw [d2, d2, h])
      rw [bji e1, upL_to (k := 2) (w := w) (i := i) (j := j) (by exact e) (by show w * K.a / K.d ≠ j * K.a / K.d; omega)]
      refine upL_skip (k := 2) (by exact p2) (by show 0 ≤ K.d / K.b; omega) (hBj.le ?_)
      show w * K.a / K.b + 1 ≤ i * K.a / K.d * (K.d / K.b)
      rw [ef2]
      have h1 := Int.lt_ediv_add_one_mul_self (w * K.a / K.b) (show 0 < f2 by omega)
      rw [← d2] at h1
      have h2 : (w * K.a / K.d + 1) * f2 ≤ i * K.a / K.d * f2 := Int.mul_le_mul_of_nonneg_right (by omega) (by omega)
      omega
  rw [claim2]
theorem fk_up {K : Cfg} {A B C : List Slot} {i j : Int} (h : fk K ⟨A, B, C⟩) : fk K (up K ⟨A, B, C⟩ i j) :=
  ⟨h.1, h.2.1, ⟨(by show ((upL K 1 A B i j).length : Int) = _; rw [upL_len]; exact h.2.2.1.1), upL_ok (k := 1) h.2.2.1.2⟩, ⟨(by show ((upL K 2 (upL K 1 A B i j) C i j).length : Int) = _; rw [upL_len]; exact h.2.2.2.1), upL_ok (k := 2) h.2.2.2.2⟩⟩
theorem fk_put {K : Cfg} {A B C : List Slot} {i : Int} {c : Cell} (h : fk K ⟨A, B, C⟩) (hf : fits c K.a i) : fk K ⟨putO A K.a i c, B, C⟩ := by
  have hp : putE A K.a i c = 0 := if_pos ⟨h.2.1.2, hf⟩
  exact ⟨h.1, ⟨by show ((putO A K.a i c).length : Int) = _; rw [putO_len hp]; exact h.2.1.1, putO_ok hp⟩, h.2.2⟩
theorem bgn_no {K : Cfg} {t : L3} {i j : Int} (h : bgn K.a j = false) : upE K t i j ≠ 0 := by
  unfold upE
  split
  · decide
  · rw [if_pos (.inr (.inr h))]; decide
/-- in two steps as in one -/
theorem Inv.skip {K : Cfg} {es : List Ev} {T : L3} {o : Slot} (h : Inv K es T o) {i j : Int} (hi : 0 ≤ i) (hij : i ≤ j) (hb : bgn K.a j = true) (ho : ¬ (0 < o.c.n ∧ i ≤ o.w)) :
    closeE K T o j = 0 ∧ closeE K T o i = 0 ∧ upE K (closeT K T o i) i j = 0 ∧ upT K (closeT K T o i) i j = closeT K T o j ∧ Fo.fk K (closeT K T o j) := by
  have ha := h.ok.ha
  have hupE : ∀ t, Fo.fk K t → upE K t i j = 0 := fun t ht => (if_neg (fun k => k ht)).trans (if_neg (fun k => by rcases k with k | k | k; omega; omega; rw [hb] at k; cases k))
  by_cases hn : es = []
  · have hz : o = Slot.z := h.op.trans (if_pos hn)
    have eE : ∀ x, closeE K T o x = 0 := fun x => (if_neg (fun k => k h.fk)).trans ((if_neg (fun k => k.1 hz)).trans (if_pos (.inl hz)))
    have eT : ∀ x, closeT K T o x = T := fun x => (if_neg (by rw [eE]; exact fun k => k rfl)).trans (if_pos (.inl hz))
    rw [eE, eE, eT, eT]
    refine ⟨rfl, rfl, hupE T h.fk, ?_, h.fk⟩
    have e0 : upT K T i j = up K T i j := if_neg (by rw [hupE T h.fk]; exact fun k => k rfl)
    rw [e0]
    obtain ⟨⟨f1, ef1, eb, g1, g2⟩, ⟨f2, ef2, ed, g3, g4⟩⟩ := cfg_f h.ok
    have none : ∀ {w n c : Int} {l : List Slot}, Lv w n es c l → ∀ x, Bel l x := fun {w n c l} hl x s hs ks => by
      have h1 := hl.snd s hs ks
      have h2 := hl.ok.2.2
      rw [hn] at h1
      have hG0 : s.c = z := h1.2
      have oks : s = Slot.z ∨ fits s.c w s.w := by
        obtain ⟨k, hk, ek⟩ := List.mem_iff_getElem.1 hs
        have := h2 k hk
        unfold okS at this
        rw [getElem!_pos _ k hk, ek] at this
        exact this.imp id And.right
      rcases oks with oks | oks
      · exact absurd oks (keep_ne.1 ks)
      · rw [hG0] at oks
        exact absurd rfl oks.1
    have pa : 0 ≤ i * K.a := Int.mul_nonneg hi (by omega)
    have hbb := h.ok.hb
    have hd := h.ok.hd
    have u1 : upL K 1 T.a T.b i j = T.b := upL_skip (k := 1) (Int.ediv_nonneg pa (by show 0 ≤ K.b; omega)) (by show 0 ≤ K.b / K.a; omega) (none h.a _)
    have u2 : upL K 2 T.b T.c i j = T.c := upL_skip (k := 2) (Int.ediv_nonneg pa (by show 0 ≤ K.d; omega)) (by show 0 ≤ K.d / K.b; omega) (none h.b _)
    unfold up
    rw [u1, u2]
  obtain ⟨eo, hfu, hfi, hz⟩ := h.open_ hn
  have hon : 0 < o.c.n := by have := hfu.n; omega
  have hwi : o.w < i := Int.not_le.1 fun k => ho ⟨hon, k⟩
  have how : o.w = lastT es / K.a := by rw [eo]
  have hbi : bgn K.a i = true := by
    have := of_decide_eq_true hb
    exact decide_eq_true ⟨hi, by omega⟩
  have eE : ∀ x, o.w < x → bgn K.a x = true → closeE K T o x = 0 ∧ closeT K T o x = up K ⟨putO T.a K.a o.w o.c, T.b, T.c⟩ o.w x := fun x hx hbx => by
    have e : closeE K T o x = 0 := (if_neg (fun k => k h.fk)).trans ((if_neg (fun k => k.2 hfi)).trans ((if_neg (fun k => k.elim hz (fun k => by omega))).trans (if_neg (fun k => k.elim (fun k => by omega) (fun k => by rw [hbx] at k; cases k)))))
    exact ⟨e, (if_neg (by rw [e]; exact fun k => k rfl)).trans (if_neg (fun k => k.elim hz (fun k => by omega)))⟩
  obtain ⟨ei, ti⟩ := eE i hwi hbi
  obtain ⟨ej, tj⟩ := eE j (by omega) hb
  have hfp : Fo.fk K ⟨putO T.a K.a o.w o.c, T.b, T.c⟩ := fk_put (A := T.a) (B := T.b) (C := T.c) h.fk hfi
  have hfi2 := fk_up (i := o.w) (j := i) hfp
  have hfj2 := fk_up (i := o.w) (j := j) hfp
  rw [ei, ej, ti, tj]
  refine ⟨rfl, rfl, hupE _ hfi2, ?_, hfj2⟩
  have e0 : ∀ t, Fo.fk K t → upT K t i j = up K t i j := fun t ht => if_neg (by rw [hupE t ht]; exact fun k => k rfl)
  rw [e0 _ hfi2]
  refine up_up h.ok (by rw [how]; exact Int.ediv_nonneg (last_bd h.g hn).1 (by omega)) hwi hij (putO_bel (fun s hs ks => ?_) (by omega)) (fun s hs ks => ?_)
  · have := (h.a.snd s hs ks).1
    omega
  · have := (h.b.snd s hs ks).1
    obtain ⟨⟨f1, ef1, eb, g1, g2⟩, -⟩ := cfg_f h.ok
    have e1 : o.w * K.a / K.b = lastT es / K.b := by rw [how, eb]; exact div_lvl (by omega)
    omega
theorem getC_mem {l : List Slot} {w i : Int} {c : Cell} (h : okT l w) (hm : (⟨i, c⟩ : Slot) ∈ l) (hi : 0 ≤ i) (hk : keep ⟨i, c⟩ = true) : getC l i = c := by
  obtain ⟨k, hkl, ek⟩ := List.mem_iff_getElem.1 hm
  have ek' : l[k]! = ⟨i, c⟩ := by rw [getElem!_pos l k hkl]; exact ek
  have oks := h.2.2 k hkl
  unfold okS at oks
  rw [ek'] at oks
  have e1 : Win.slotV i l.length = (k : Int) := (oks.resolve_left (keep_ne.1 hk)).1
  unfold getC
  rw [if_neg (by omega), e1, Int.toNat_natCast, ek', if_pos rfl]
end Gr
end Go.Proofs.Ytojchlcbbjpkpaa
/- The laws of stacks of tiers: events put into a stack; what the laws ask first; whether two stacks are one. -/
set_option linter.unusedSimpArgs false
set_option linter.unusedVariables false
set_option linter.unusedSectionVars false
set_option maxRecDepth 20000
set_option maxHeartbeats 4000000
namespace Go.Proofs.Ytojchlcbbjpkpaa
open Go Go.J
attribute [local irreducible] At AtQ AtM AtM1 PR Ct Pu Rd Res.blk Res.own Res.ex RVs RV
namespace T7
open Slot Win Ti Fo Gr
theorem Inv.inn {K : Cfg} {es : List Ev} {T : L3} {o : Slot} (h : Inv K es T o) : Slot.In o := by
  by_cases hn : es = []
  · have : o = Slot.z := h.op.trans (if_pos hn)
    rw [this]; exact z_in
  · obtain ⟨e, _, _, _⟩ := h.open_ hn
    have hb := last_bd h.g hn
    have h1 := Int.ediv_nonneg hb.1 (show 0 ≤ K.a by have := h.ok.ha; omega)
    have h2 := Int.ediv_le_self K.a hb.1
    have hc : Cell.In (G K.a es (lastT es / K.a)) := cel_in (h.g.sub (win_sub _ _ _))
    rw [e]
    exact ⟨by dsimp only; omega, hc.1, hc.2.1, hc.2.2.1, hc.2.2.2⟩
structure SS where
  (k : Nat) (m : Mem) (t : TT) (o : Slot)
set_option maxRecDepth 100000 in
theorem stacked {m : Mem} (K : Cfg) (p : Option Addr) (c : Nat) (l : List Ev) (hK : K.ok) (hG : Gr.Good l) (hl : l.length ≤ 1000000) (sl0 : Sl m Ev.cells 4 p c l) :
    Ct Try.prog 10 #[K.v, .slice p l.length c] m [] (fun v m' B => B = [] ∧ ∃ (t : TT) (o : Slot), v = .tuple #[t.v, o.v, .bool true] ∧ t.Ok m' ∧ Inv K l t.ls o) := by
  have k0 := fun (m : Mem) => empty (m := m) K
  have hw : 1 ≤ K.a ∧ K.a ≤ 1099511627776 := hK.ha
  refine Ct.enterV (by rfl) Try.func10 rfl Try.ntmps10 rfl (fun w0 Rest => ?_)
  (repeat' (first | refine zss ?_ | refine zsM ?_ | ((with_reducible first | apply At.c1 | apply At.c0); exact rfl; exact rfl; exact k0 _; exact ztk; kernel_rfl; rintro v' m' B' hm' ⟨rfl, t0, rfl, ht0, ht1⟩; (try replace sl0 := sl0.mono hm'); (try (have hq0 : hm' = Mem.le_refl _ := rfl; clear hq0 hm'))) | ((with_reducible apply At.box (d := 2)); exact rfl; exact rfl; exact rfl; intro b2) | ((with_reducible apply At.alloc (d := 4)); exact rfl; exact rfl; intro b4) | ((with_reducible apply At.alloc (d := 5)); exact rfl; exact rfl; intro b5) | ((with_reducible apply At.alloc (d := 7)); exact rfl; exact rfl; intro b7) | ((with_reducible apply At.alloc (d := 8)); exact rfl; exact rfl; intro b8) | ((with_reducible apply At.alloc (d := 10)); exact rfl; exact rfl; intro b10) | ((with_reducible apply At.alloc (d := 12)); exact rfl; exact rfl; intro b12) | ((with_reducible apply At.alloc (d := 14)); exact rfl; exact rfl; intro b14) | (refine zsp ?_ ?_ <;> (intro hc; (try simp only [zhcs, reduceCtorEq] at hc); (try (exfalso; first | contradiction | omega | exact absurd rfl hc | exact absurd (by decide) hc))))))
  have hI0 : Inv K (l.take 0) t0.ls Slot.z := by rw [ht1]; exact Inv.new hK
  change At _ w0 _ m' (Res.blk b8 44 (cells Slot.z) :: Res.blk b7 29 t0.cells :: Res.blk b5 44 (cells Slot.z) :: Res.blk b4 29 TT.z.cells :: Res.blk b2 25 K.cells :: Rest) _
  (refine At.loopk (σ := SS) [2, 4, 5, 7, 8, 18, 19] (fun s F0 => (20, .int .i64 (s.k : Int)) :: F0) (fun s => s.m) (fun s => .blk b8 44 (cells s.o) :: .blk b7 29 s.t.cells :: .blk b5 44 (cells Slot.z) :: .blk b4 29 TT.z.cells :: .blk b2 25 K.cells :: Rest) (fun s => m'.le s.m ∧ s.t.Ok s.m ∧ s.k ≤ l.length ∧ Inv K (l.take s.k) s.t.ls s.o) (fun s => l.length - s.k) ⟨0, m', t0, Slot.z⟩ (by rfl) ?_ zsubs zml zente ?_)
  · exact ⟨zml, ht0, Nat.zero_le _, hI0⟩
  clear hI0 ht0 ht1
  rintro ⟨k, m1, t, o⟩ ⟨hm1, ht, hk, hI⟩
  dsimp only at hm1 ht hk hI ⊢
  have sl0 := sl0.mono hm1
  by_cases hkl : k < l.length
  rotate_left
  · rw [List.take_of_length_le (by omega)] at hI
    (repeat' (first | ((with_reducible apply At.mixedB (id := 10) 4 5 (.q 0 (.q 1 (.l 2 (.x 3 (.q 4 .done)))))); exact rfl; exact (by repeat constructor); exact rfl; kernel_rfl; kernel_rfl; kernel_rfl) | ((with_reducible apply At.mixedB (id := 14) 4 5 (.q 0 (.q 1 (.l 2 (.x 3 (.q 4 .done)))))); exact rfl; exact (by repeat constructor); exact rfl; kernel_rfl; kernel_rfl; kernel_rfl) | ((with_reducible apply At.mixedB (id := 17) 4 5 (.q 0 (.q 1 (.l 2 (.x 3 (.q 4 .done)))))); exact rfl; exact (by repeat constructor); exact rfl; kernel_rfl; kernel_rfl; kernel_rfl) | refine zsx ?_ | refine zss ?_ | ((with_reducible apply AtM.bo); exact rfl; exact rfl; exact rfl) | refine zsM ?_ | refine zxM ?_ | ((with_reducible apply At.box (d := 2)); exact rfl; exact rfl; exact rfl; intro b2) | ((with_reducible apply At.alloc (d := 4)); exact rfl; exact rfl; intro b4) | ((with_reducible apply At.alloc (d := 5)); exact rfl; exact rfl; intro b5) | ((with_reducible apply At.alloc (d := 7)); exact rfl; exact rfl; intro b7) | ((with_reducible apply At.alloc (d := 8)); exact rfl; exact rfl; intro b8) | ((with_reducible apply At.alloc (d := 10)); exact rfl; exact rfl; intro b10) | ((with_reducible apply At.alloc (d := 12)); exact rfl; exact rfl; intro b12) | ((with_reducible apply At.alloc (d := 14)); exact rfl; exact rfl; intro b14) | (refine zsp ?_ ?_ <;> (intro hc; (try simp only [zhcs, reduceCtorEq] at hc); (try (exfalso; first | omega | contradiction | omega | exact absurd rfl hc | exact absurd (by decide) hc))))))
    all_goals ((with_reducible apply At.retV (B := [])); exact rfl; (repeat' (first | exact RVs.nil | (with_reducible apply RVs.cons) | exact rv_tmp (by rfl) | exact rv_cellN (by rfl) (by repeat constructor) (by rfl) (by rfl) (by rfl) | exact rv_cell1 (by rfl) (by repeat constructor) (by rfl) (by rfl))); exact zml; exact zkp; exact ⟨rfl, t, o, rfl, ht.mono zml, hI⟩)
  have hsn := Ls.take_snoc hkl
  have hGe : Gr.Good (l.take k ++ [l[k]!]) := by rw [← hsn]; exact hG.sub (List.take_sublist _ _)
  obtain ⟨T', o', c1, c2, ca, hN⟩ := hI.step hGe
  rw [← hsn] at hN
  have hio := Inv.inn hI
  have hev := (good_last hGe).2.1
  have hq : IntKind.wrap .i64 ((l[k]!).T.tdiv K.a) = (l[k]!).T / K.a := by
    have h1 := hev.1
    unfold Ev.ok at h1
    have h2 := Int.ediv_nonneg (show 0 ≤ (l[k]!).T by omega) (show 0 ≤ K.a by omega)
    have h3 := Int.ediv_le_self K.a (show 0 ≤ (l[k]!).T by omega)
    rw [Int.tdiv_eq_ediv_of_nonneg (by omega)]
    exact IntWalk.i64_in _ (by omega)
  by_cases hcond : 0 < o.c.n ∧ o.w ≠ (l[k]!).T / K.a
  · obtain ⟨d1, d2, rfl⟩ := c1 hcond
    have kc := fun (m' : Mem) (h : m1.le m') => close_ (m := m') K t o ((l[k]!).T / K.a) (ht.mono h) hio
    rw [d1, d2] at kc
    have ka := Cell.add_ Cell.z l[k]! Cell.z_in hev.2
    rw [ca] at ka
    clear c1 c2 d1 d2 ca hGe hsn hI hio hev
    generalize (l[k]!).T / K.a = i at *
    generalize Cell.add Slot.z.c l[k]! = x at *
    (repeat' (first | ((with_reducible apply At.mixedB (id := 10) 4 5 (.q 0 (.q 1 (.l 2 (.x 3 (.q 4 .done)))))); exact rfl; exact (by repeat constructor); exact rfl; kernel_rfl; kernel_rfl; kernel_rfl) | ((with_reducible apply At.mixedB (id := 14) 4 5 (.q 0 (.q 1 (.l 2 (.x 3 (.q 4 .done)))))); exact rfl; exact (by repeat constructor); exact rfl; kernel_rfl; kernel_rfl; kernel_rfl) | ((with_reducible apply At.mixedB (id := 17) 4 5 (.q 0 (.q 1 (.l 2 (.x 3 (.q 4 .done)))))); exact rfl; exact (by repeat constructor); exact rfl; kernel_rfl; kernel_rfl; kernel_rfl) | refine zsx ?_ | refine zss ?_ | ((with_reducible apply AtM.bo); exact rfl; exact rfl; exact rfl) | ((first | (with_reducible first | apply At.val | apply AtQ.val) | ((with_reducible first | apply AtM1.valz | apply AtM1.val); exact rfl) | ((with_reducible apply AtM1.val); exact rfl)); (first | exact pr_indexArr (k := 0) (by rfl) (by rfl) (by rfl) (by rfl) (by decide) | exact pr_quo (by rfl) (by rfl) (by omega) hq); exact rfl) | refine zsM ?_ | refine zxM ?_ | ((with_reducible first | apply At.c1 | apply At.c0); exact rfl; exact rfl; exact kc _ zml; exact ztk; kernel_rfl; rintro v' m' B' hm' ⟨rfl, t', rfl, ht1, ht2⟩; (try replace sl0 := sl0.mono hm'); (try (have hq0 : hm' = Mem.le_refl _ := rfl; clear hq0 hm'))) | ((with_reducible first | apply AtM1.callp | apply AtQ.callp | apply At.callp); kernel_rfl; exact rfl; exact rfl; exact ka) | ((with_reducible apply At.box (d := 2)); exact rfl; exact rfl; exact rfl; intro b2) | ((with_reducible apply At.alloc (d := 4)); exact rfl; exact rfl; intro b4) | ((with_reducible apply At.alloc (d := 5)); exact rfl; exact rfl; intro b5) | ((with_reducible apply At.alloc (d := 7)); exact rfl; exact rfl; intro b7) | ((with_reducible apply At.alloc (d := 8)); exact rfl; exact rfl; intro b8) | ((with_reducible apply At.alloc (d := 10)); exact rfl; exact rfl; intro b10) | ((with_reducible apply At.alloc (d := 12)); exact rfl; exact rfl; intro b12) | ((with_reducible apply At.alloc (d := 14)); exact rfl; exact rfl; intro b14) | (refine zsp ?_ ?_ <;> (intro hc; (try simp only [zhcs, reduceCtorEq] at hc); (try (exfalso; first | omega | contradiction | omega | exact absurd rfl hc | exact absurd (by decide) hc))))))
    all_goals ((with_reducible refine At.reachk ((⟨k + 1, m', t', ⟨i, x⟩⟩ : SS)) ?_ ?_ ?_ ?_); exact zsubs; exact zml; exact zente; exact ⟨⟨zml, ht1, hkl, by show Inv K (l.take (k + 1)) t'.ls _; rw [ht2]; exact hN⟩, by show l.length - (k + 1) < l.length - k; omega⟩)
  · obtain ⟨rfl, rfl⟩ := c2 hcond
    have ka := Cell.add_ o'.c l[k]! (slot_cell hio) hev.2
    rw [ca] at ka
    clear c1 c2 ca hGe hsn hI hio hev
    generalize (l[k]!).T / K.a = i at *
    generalize Cell.add o'.c l[k]! = x at *
    (repeat' (first | ((with_reducible apply At.mixedB (id := 10) 4 5 (.q 0 (.q 1 (.l 2 (.x 3 (.q 4 .done)))))); exact rfl; exact (by repeat constructor); exact rfl; kernel_rfl; kernel_rfl; kernel_rfl) | ((with_reducible apply At.mixedB (id := 14) 4 5 (.q 0 (.q 1 (.l 2 (.x 3 (.q 4 .done)))))); exact rfl; exact (by repeat constructor); exact rfl; kernel_rfl; kernel_rfl; kernel_rfl) | ((with_reducible apply At.mixedB (id := 17) 4 5 (.q 0 (.q 1 (.l 2 (.x 3 (.q 4 .done)))))); exact rfl; exact (by repeat constructor); exact rfl; kernel_rfl; kernel_rfl; kernel_rfl) | refine zsx ?_ | refine zss ?_ | ((with_reducible apply AtM.bo); exact rfl; exact rfl; exact rfl) | ((first | (with_reducible first | apply At.val | apply AtQ.val) | ((with_reducible first | apply AtM1.valz | apply AtM1.val); exact rfl) | ((with_reducible apply AtM1.val); exact rfl)); (first | exact pr_indexArr (k := 0) (by rfl) (by rfl) (by rfl) (by rfl) (by decide) | exact pr_quo (by rfl) (by rfl) (by omega) hq); exact rfl) | refine zsM ?_ | refine zxM ?_ | ((with_reducible first | apply AtM1.callp | apply AtQ.callp | apply At.callp); kernel_rfl; exact rfl; exact rfl; exact ka) | ((with_reducible apply At.box (d := 2)); exact rfl; exact rfl; exact rfl; intro b2) | ((with_reducible apply At.alloc (d := 4)); exact rfl; exact rfl; intro b4) | ((with_reducible apply At.alloc (d := 5)); exact rfl; exact rfl; intro b5) | ((with_reducible apply At.alloc (d := 7)); exact rfl; exact rfl; intro b7) | ((with_reducible apply At.alloc (d := 8)); exact rfl; exact rfl; intro b8) | ((with_reducible apply At.alloc (d := 10)); exact rfl; exact rfl; intro b10) | ((with_reducible apply At.alloc (d := 12)); exact rfl; exact rfl; intro b12) | ((with_reducible apply At.alloc (d := 14)); exact rfl; exact rfl; intro b14) | (refine zsp ?_ ?_ <;> (intro hc; (try simp only [zhcs, reduceCtorEq] at hc); (try (exfalso; first | omega | contradiction | omega | exact absurd rfl hc | exact absurd (by decide) hc))))))
    all_goals ((with_reducible refine At.reachk ((⟨k + 1, m1, t, ⟨i, x⟩⟩ : SS)) ?_ ?_ ?_ ?_); exact zsubs; exact zml; exact zente; exact ⟨⟨zml, ht, hkl, hN⟩, by show l.length - (k + 1) < l.length - k; omega⟩)
theorem same1 {m : Mem} (p : Option Addr) (c : Nat) (a : List Slot) (q : Option Addr) (d : Nat) (b : List Slot) (hl : a.length ≤ 1000000) (hlb : b.length ≤ 1000000) (sl0 : Sl m cells 15 p c a) (sl1 : Sl m cells 15 q d b) :
    Rd Try.prog 36 #[.slice p a.length c, .slice q b.length d] m [] (.bool (decide (a = b))) := by
  unfold Rd
  by_cases hlen : a.length = b.length
  · refine Ct.enterV (by rfl) Try.func36 rfl Try.ntmps36 rfl (fun w0 Rest => ?_)
    (repeat' (first | refine zss ?_ | refine zsM ?_ | (refine zsp ?_ ?_ <;> (intro hc; (try simp only [zhcs, reduceCtorEq] at hc); (try (exfalso; first | omega | contradiction | omega | exact absurd rfl hc | exact absurd (by decide) hc))))))
    (refine At.loopk (σ := Nat) [0, 1, 12] (fun s F0 => (13, .int .i64 (s : Int)) :: F0) (fun s => m) (fun s => Rest) (fun s => s ≤ a.length ∧ ∀ i, i < s → a[i]! = b[i]!) (fun s => a.length - s) 0 (by rfl) ?_ zsubs zml zente ?_)
    · exact ⟨Nat.zero_le _, fun i h => absurd h (Nat.not_lt_zero i)⟩
    rintro s ⟨hs, hn⟩
    by_cases h : s < a.length
    · by_cases e : a[s]! = b[s]!
      · have hnn : ∀ i, i < s + 1 → a[i]! = b[i]! := fun i hi => by
          by_cases e1 : i = s
          · subst e1; exact e
          · exact hn i (by omega)
        (repeat' (first | refine zss ?_ | ((first | (with_reducible first | apply At.val | apply AtQ.val)); (exact Ti.pr_slne (by rfl) (by rfl)); exact rfl) | refine zsM ?_ | (refine zsp ?_ ?_ <;> (intro hc; (try simp only [zhcs, reduceCtorEq] at hc); (try (exfalso; first | (first | omega | exact absurd e hc) | contradiction | omega | exact absurd rfl hc | exact absurd (by decide) hc))))))
        all_goals ((with_reducible refine At.reachk ((s + 1)) ?_ ?_ ?_ ?_); exact zsubs; exact zml; exact zente; exact ⟨⟨h, hnn⟩, by omega⟩)
      · rw [decide_eq_false (show ¬ a = b from fun h => e (by rw [h]))]
        (repeat' (first | refine zss ?_ | ((first | (with_reducible first | apply At.val | apply AtQ.val)); (exact Ti.pr_slne (by rfl) (by rfl)); exact rfl) | refine zsM ?_ | (refine zsp ?_ ?_ <;> (intro hc; (try simp only [zhcs, reduceCtorEq] at hc); (try (exfalso; first | (first | omega | exact absurd hc e) | contradiction | omega | exact absurd rfl hc | exact absurd (by decide) hc))))))
        all_goals ((with_reducible apply At.retB1 (B := [])); exact rfl; exact rfl; exact zml; exact zkp; exact ⟨rfl, rfl, rfl⟩)
    · rw [decide_eq_true (show a = b from Ls.ext! hlen fun i hi => hn i (by omega))]
      (repeat' (first | refine zss ?_ | refine zsM ?_ | (refine zsp ?_ ?_ <;> (intro hc; (try simp only [zhcs, reduceCtorEq] at hc); (try (exfalso; first | omega | contradiction | omega | exact absurd rfl hc | exact absurd (by decide) hc))))))
      all_goals ((with_reducible apply At.retB1 (B := [])); exact rfl; exact rfl; exact zml; exact zkp; exact ⟨rfl, rfl, rfl⟩)
  · rw [decide_eq_false (show ¬ a = b from fun h => hlen (by rw [h]))]
    refine Ct.enterV (by rfl) Try.func36 rfl Try.ntmps36 rfl (fun w0 Rest => ?_)
    (repeat' (first | refine zss ?_ | refine zsM ?_ | (refine zsp ?_ ?_ <;> (intro hc; (try simp only [zhcs, reduceCtorEq] at hc); (try (exfalso; first | omega | contradiction | omega | exact absurd rfl hc | exact absurd (by decide) hc))))))
    all_goals ((with_reducible apply At.retB1 (B := [])); exact rfl; exact rfl; exact zml; exact zkp; exact ⟨rfl, rfl, rfl⟩)
/-- two that are one -/
theorem same3 {m : Mem} (x y : TT) (hx : x.Ok m) (hy : y.Ok m) (h : x.ls = y.ls) : Rd Try.prog 15 #[x.v, y.v] m [] (.bool true) := by
  unfold Rd
  have ea : x.a.l = y.a.l := congrArg L3.a h
  have eb : x.b.l = y.b.l := congrArg L3.b h
  have ec : x.c.l = y.c.l := congrArg L3.c h
  have k1 := fun (m' : Mem) (h : m.le m') => same1 (m := m') x.a.p x.a.c x.a.l y.a.p y.a.c y.a.l hx.a.n hy.a.n (hx.a.sl.mono h) (hy.a.sl.mono h)
  have k2 := fun (m' : Mem) (h : m.le m') => same1 (m := m') x.b.p x.b.c x.b.l y.b.p y.b.c y.b.l hx.b.n hy.b.n (hx.b.sl.mono h) (hy.b.sl.mono h)
  have k3 := fun (m' : Mem) (h : m.le m') => same1 (m := m') x.c.p x.c.c x.c.l y.c.p y.c.c y.c.l hx.c.n hy.c.n (hx.c.sl.mono h) (hy.c.sl.mono h)
  rw [decide_eq_true ea] at k1
  rw [decide_eq_true eb] at k2
  rw [decide_eq_true ec] at k3
  clear ea eb ec h hx hy
  refine Ct.enterV (by rfl) Try.func15 rfl Try.ntmps15 rfl (fun w0 Rest => ?_)
  (repeat' (first | refine zss ?_ | refine zs0 ?_ | ((with_reducible apply At.box (d := 2)); exact rfl; exact rfl; exact rfl; intro b2) | ((with_reducible apply At.box (d := 3)); exact rfl; exact rfl; exact rfl; intro b3) | (refine zsp ?_ ?_ <;> (intro hc; (try simp only [zhcs, reduceCtorEq] at hc); (try (exfalso; first | contradiction | omega | exact absurd rfl hc | exact absurd (by decide) hc))))))
  (refine At.loopk (σ := Nat) [2, 3] (fun s F0 => (5, .int .i64 (s : Int)) :: F0) (fun s => m) (fun s => .blk b3 29 y.cells :: .blk b2 29 x.cells :: Rest) (fun s => s ≤ 3) (fun s => 3 - s) 0 (by rfl) ?_ zsubs zml zente ?_)
  · exact Nat.zero_le _
  rintro s hs
  rcases (show s = 0 ∨ s = 1 ∨ s = 2 ∨ s = 3 by omega) with rfl | rfl | rfl | rfl
  · (repeat' (first | refine zss ?_ | ((first | (with_reducible first | apply At.val | apply AtQ.val)); (exact pr_indexArr (k := 0) (by rfl) (by rfl) (by rfl) (by rfl) (by decide)); exact rfl) | refine zs0 ?_ | ((with_reducible first | apply AtM1.cr | apply AtQ.cr | apply At.cr); exact rfl; exact rfl; exact fun _ hmm => k1 _ hmm; exact ztk; kernel_rfl) | ((with_reducible apply At.box (d := 2)); exact rfl; exact rfl; exact rfl; intro b2) | ((with_reducible apply At.box (d := 3)); exact rfl; exact rfl; exact rfl; intro b3) | (refine zsp ?_ ?_ <;> (intro hc; (try simp only [zhcs, reduceCtorEq] at hc); (try (exfalso; first | omega | contradiction | omega | exact absurd rfl hc | exact absurd (by decide) hc))))))
    all_goals ((with_reducible refine At.reachk (1) ?_ ?_ ?_ ?_); exact zsubs; exact zml; exact zente; exact ⟨by decide, by decide⟩)
  · (repeat' (first | refine zss ?_ | ((first | (with_reducible first | apply At.val | apply AtQ.val)); (exact pr_indexArr (k := 1) (by rfl) (by rfl) (by rfl) (by rfl) (by decide)); exact rfl) | refine zs0 ?_ | ((with_reducible first | apply AtM1.cr | apply AtQ.cr | apply At.cr); exact rfl; exact rfl; exact fun _ hmm => k2 _ hmm; exact ztk; kernel_rfl) | ((with_reducible apply At.box (d := 2)); exact rfl; exact rfl; exact rfl; intro b2) | ((with_reducible apply At.box (d := 3)); exact rfl; exact rfl; exact rfl; intro b3) | (refine zsp ?_ ?_ <;> (intro hc; (try simp only [zhcs, reduceCtorEq] at hc); (try (exfalso; first | omega | contradiction | omega | exact absurd rfl hc | exact absurd (by decide) hc))))))
    all_goals ((with_reducible refine At.reachk (2) ?_ ?_ ?_ ?_); exact zsubs; exact zml; exact zente; exact ⟨by decide, by decide⟩)
  · (repeat' (first | refine zss ?_ | ((first | (with_reducible first | apply At.val | apply AtQ.val)); (exact pr_indexArr (k := 2) (by rfl) (by rfl) (by rfl) (by rfl) (by decide)); exact rfl) | refine zs0 ?_ | ((with_reducible first | apply AtM1.cr | apply AtQ.cr | apply At.cr); exact rfl; exact rfl; exact fun _ hmm => k3 _ hmm; exact ztk; kernel_rfl) | ((with_reducible apply At.box (d := 2)); exact rfl; exact rfl; exact rfl; intro b2) | ((with_reducible apply At.box (d := 3)); exact rfl; exact rfl; exact rfl; intro b3) | (refine zsp ?_ ?_ <;> (intro hc; (try simp only [zhcs, reduceCtorEq] at hc); (try (exfalso; first | omega | contradiction | omega | exact absurd rfl hc | exact absurd (by decide) hc))))))
    all_goals ((with_reducible refine At.reachk (3) ?_ ?_ ?_ ?_); exact zsubs; exact zml; exact zente; exact ⟨by decide, by decide⟩)
  · (repeat' (first | refine zss ?_ | refine zs0 ?_ | ((with_reducible apply At.box (d := 2)); exact rfl; exact rfl; exact rfl; intro b2) | ((with_reducible apply At.box (d := 3)); exact rfl; exact rfl; exact rfl; intro b3) | (refine zsp ?_ ?_ <;> (intro hc; (try simp only [zhcs, reduceCtorEq] at hc); (try (exfalso; first | omega | contradiction | omega | exact absurd rfl hc | exact absurd (by decide) hc))))))
    all_goals ((with_reducible apply At.retB1 (B := [])); exact rfl; exact rfl; exact zml; exact zkp; exact ⟨rfl, rfl, rfl⟩)
end T7
end Go.Proofs.Ytojchlcbbjpkpaa
/- From a contract to a law's row: what a law's call leaves of memory. -/
set_option linter.unusedSimpArgs false
set_option linter.unusedVariables false
set_option linter.unusedSectionVars false
set_option maxRecDepth 20000
namespace Go.J
open Go Go.ChangeShapes Go.WideShapes Go.ChangeAt Go.RowKit

def memOf (W : World) : Mem := fun k => W.heap[k]?

theorem HW.init (W : World) : HW W (memOf W) [] W :=
  ⟨rfl, rfl, rfl, Nat.le_refl _, Nat.le_refl _, fun _ _ h => h, fun _ => False, fun _ h => h, fun _ h => h.elim⟩

theorem HW.below {W w' : World} {m' : Mem} {Rs : List Res} (h : HW W m' Rs w') (hm : (memOf W).le m') : Below W.heap.size W w' :=
  ⟨h.os, h.tape, h.output, h.size, fun k hk => by
    have hk' : W.heap[k]? = some W.heap[k] := Array.getElem?_eq_getElem hk
    rw [hk']
    exact h.mem k _ (hm k _ hk')⟩

theorem law_calls {P : Program} {f : FuncId} {args : Array Value} {W : World} (h : Ct P f args (memOf W) [] (fun v _ _ => v = .bool true)) :
    Calls P f args W fun e W' => e = .returned (.bool true) ∧ Below W.heap.size W W' :=
  (h W [] W (HW.init W)).mono fun _ _ ⟨_, _, _, he, hm, hv, hw⟩ => ⟨by rw [he, hv], hw.below hm⟩

theorem law_calls_pu {P : Program} {f : FuncId} {args : Array Value} {W : World} (h : Pu P f args (.bool true)) :
    Calls P f args W fun e W' => e = .returned (.bool true) ∧ Below W.heap.size W W' :=
  law_calls ((h (memOf W)).mono fun _ _ _ _ ⟨hv, _, _⟩ => hv)

/-- the arguments read as they did -/
theorem trodAll_below {H : Type} {enc : TypeId × Value → H} {P : Program} (hl : laidOutB P = true) {W W' : World} (hb : Below W.heap.size W W') :
    ∀ (ts : List TypeId) (vs : List Value) (ds : List (DataW H)) (ps : List MemPlace), (ts.all fun t => P.readableRec t && decide (t < P.types.size)) = true →
      DataW.TrodAll enc P W 0 (fun _ => true) true ts vs ds ps → (∀ x ∈ ps, x.block < W.heap.size) → DataW.TrodAll enc P W' 0 (fun b => decide (b < W.heap.size)) true ts vs ds ps
  | [], vs, ds, ps, _, h, _ => by
    obtain ⟨rfl, rfl, rfl⟩ := trodAll_nil h
    exact trodAll_mk0
  | t :: ts, vs, ds, ps, hr, h, hlt => by
    obtain ⟨v, vs', d, ds', p, q, rfl, rfl, rfl, h0, h1⟩ := trodAll_cons h
    simp only [List.all_cons, Bool.and_eq_true, decide_eq_true_eq] at hr
    exact trodAll_cons_mk (Below.trod hl hr.1.1 hr.1.2 h0 hb (fun x hx => hlt x (by simp [hx]))) (trodAll_below hl hb ts vs' ds' q hr.2 h1 (fun x hx => hlt x (by simp [hx])))

end Go.J
/- A law's slices: opened into lists. -/
set_option linter.unusedSimpArgs false
set_option linter.unusedVariables false
set_option linter.unusedSectionVars false
set_option maxRecDepth 20000
namespace Go.J
open Go Go.ChangeShapes Go.WideShapes Go.ChangeAt Go.RowKit

theorem cell_cells {w : World} {a : Addr} {v : Value} (h : w.cell? a = some v) : a.spot = none ∧ ∃ E cs fz, w.heap[a.block]? = some (.cells cs E fz) ∧ cs[a.off]? = some v := by
  unfold World.cell? at h
  cases hb : w.heap[a.block]? with
  | none => rw [hb] at h; cases h
  | some o =>
    rw [hb] at h
    cases o <;> simp at h
    rename_i cs E fz
    exact ⟨by
      cases hs : a.spot with
      | none => rfl
      | some x => rw [hs] at h; simp at h, E, cs, fz, rfl, h.2⟩

theorem open_sl {α : Type} [Inhabited α] {f : α → List Value} {sz : Nat} (hf : Fl f sz) (φ : α → Prop) {H : Type} {enc : TypeId × Value → H} {P : Program} {W : World} {t e : TypeId} {fuel : Nat} {cs : List Value} {x : DataW H × List MemPlace}
    (ht : P.underlying t = some (.slice e)) (hc : P.cellsOf e = sz)
    (hdec : ∀ n cs' y, cs'.length = sz → DataW.trod enc P W 0 (fun _ => true) true n e cs' = some y → ∃ a, cs' = f a ∧ φ a)
    (h : DataW.trod enc P W 0 (fun _ => true) true fuel t cs = some x) : ∃ p c l, cs = [.slice p l.length c] ∧ Sl (memOf W) f sz p c l ∧ ∀ a ∈ l, φ a := by
  rcases Go.Deep.open_slice ht h with ⟨rfl, _⟩ | ⟨a, len, cap, m, n, D, Pl, rfl, _, hl, hm, hmm, _, hx⟩
  · exact ⟨none, 0, [], rfl, Sl.empty _ hf, fun a ha => by cases ha⟩
  · simp only [if_true] at hmm
    subst hmm
    obtain ⟨A, hA⟩ := Go.Deep.choose_lt (α := α) (n := m) (p := fun i y => W.cells? 0 (a.add (i * sz)) sz = some (f y) ∧ φ y) (fun i hi => by
      obtain ⟨cs', h1, h2⟩ := hx i hi
      rw [hc] at h1
      obtain ⟨_, hlen, _⟩ := World.cells?_some h1
      obtain ⟨y, rfl, hy⟩ := hdec n cs' _ hlen h2
      exact ⟨y, h1, hy⟩)
    have hll : ((List.range len).map A).length = len := by simp
    refine ⟨some a, m, (List.range len).map A, by rw [hll], ⟨hf, by rw [hll]; exact hl, hm, (fun e => by cases e), fun a' ha' hpos => ?_⟩, fun y hy => ?_⟩
    · cases ha'
      have hsz := hf.pos
      have hcell : ∀ i j, i < m → j < sz → W.cell? ((a.add (i * sz)).add j) = (f (A i))[j]? := fun i j hi hj => (World.cells?_some (hA i hi).1).2.2 j hj
      have hlen : ∀ i j, j < sz → ∃ v, (f (A i))[j]? = some v := fun i j hj => ⟨(f (A i))[j]'(by rw [hf.len]; exact hj), List.getElem?_eq_getElem _⟩
      obtain ⟨v0, hv0⟩ := hlen 0 0 hsz
      have h00 := hcell 0 0 hpos hsz
      rw [hv0] at h00
      have e0 : (a.add (0 * sz)).add 0 = a := by simp [Addr.add]
      rw [e0] at h00
      obtain ⟨hspot, E, cs, fz, hb, _⟩ := cell_cells h00
      have ea : ∀ k, a.add k = ⟨a.block, a.off + k, none⟩ := fun k => by cases a; simp only at hspot; subst hspot; exact Addr.add_eq _ _ _
      have hcell' : ∀ i j, i < m → j < sz → cs[a.off + (i * sz + j)]? = (f (A i))[j]? := fun i j hi hj => by
        have := hcell i j hi hj
        rw [ea, Addr.add_eq, World.cell_of hb] at this
        rw [← this, Nat.add_assoc]
      refine ⟨hspot, E, cs, fz, hb, ?_, fun i j hi hj => ?_⟩
      · obtain ⟨v, hv⟩ := hlen (m - 1) (sz - 1) (by omega)
        have h1 := hcell' (m - 1) (sz - 1) (by omega) (by omega)
        rw [hv] at h1
        have h2 := (Array.getElem?_eq_some_iff.1 h1).1
        have h3 : (m - 1) * sz + sz = m * sz := by
          have := Nat.succ_mul (m - 1) sz
          rw [show (m - 1).succ = m by omega] at this; omega
        omega
      · rw [hll] at hi
        rw [hcell' i j (by omega) hj]
        congr 2
        rw [List.getElem!_eq_getElem?_getD]; simp [hi]
    · obtain ⟨i, hi, rfl⟩ := List.mem_map.1 hy
      exact (hA i (by have := List.mem_range.1 hi; omega)).2

/-- a law's argument that is a slice -/
theorem open_sl_arg {α : Type} [Inhabited α] {f : α → List Value} {sz : Nat} (hf : Fl f sz) (φ : α → Prop) {H : Type} {enc : TypeId × Value → H} {P : Program} {W : World} {t e : TypeId} {v : Value} {d : DataW H} {ps : List MemPlace}
    (ht : P.underlying t = some (.slice e)) (hc : P.cellsOf e = sz)
    (hdec : ∀ n cs' y, cs'.length = sz → DataW.trod enc P W 0 (fun _ => true) true n e cs' = some y → ∃ a, cs' = f a ∧ φ a)
    (hsl : ∃ p l c, v = .slice p l c) (h : DataW.Trod enc P W 0 (fun _ => true) true t v d ps) : ∃ p c l, v = .slice p l.length c ∧ Sl (memOf W) f sz p c l ∧ ∀ a ∈ l, φ a := by
  obtain ⟨fuel, hfl⟩ := h
  obtain ⟨p0, l0, c0, rfl⟩ := hsl
  obtain ⟨p, c, l, h1, h2⟩ := open_sl hf φ ht hc hdec hfl
  refine ⟨p, c, l, ?_, h2⟩
  simpa [Value.cells] using h1

theorem dec_int {H : Type} {enc : TypeId × Value → H} {P : Program} {W : World} {e : TypeId} {k : IntKind} (he : P.underlying e = some (.int k)) : ∀ n cs' y, cs'.length = 1 → DataW.trod enc P W 0 (fun _ => true) true n e cs' = some y → ∃ a : Int, cs' = [.int k a] ∧ (Lit.int k a).wf = true := fun n cs' y _ h => by
  obtain ⟨a, h1, _, h3⟩ := DataW.trod_int he h
  exact ⟨a, h1, h3⟩
end Go.J

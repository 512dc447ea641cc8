/- Part 10 of what the law's proof needs: rules of the walk, contracts of functions, plain laws. No condition. -/
import Derived.Test.YtjdlnckifhifbaaGreatT8SZ9
import Derived.Test.YtjdlnckifhifbaaGreatRows
/- The package fold: Empty, Up, Close; whether stacks are small, or one. -/
set_option linter.unusedSimpArgs false
set_option linter.unusedVariables false
set_option linter.unusedSectionVars false
set_option maxRecDepth 20000
set_option maxHeartbeats 4000000
namespace Go.Proofs.YtjdlnckifhifbaaGreat
open Go Go.J
attribute [local irreducible] At AtQ AtM AtM1 PR Ct Pu Rd Res.blk Res.own Res.ex RVs RV
namespace Fo
open Slot Win Ti
def emp (K : Cfg) : L3 := if K.ok then ⟨newL K.x, newL K.y, newL K.w⟩ else ⟨[], [], []⟩
theorem z_in : Slot.In Slot.z := by unfold Slot.In; decide
theorem newL_in (n : Int) : ∀ s ∈ newL n, Slot.In s := fun s hs => by
  unfold newL at hs
  split at hs
  · exact absurd hs List.not_mem_nil
  · rw [(List.mem_replicate.1 hs).2]; exact z_in
theorem newL_len (n : Int) : (newL n).length ≤ 1000000 := by
  unfold newL
  split
  · exact Nat.zero_le _
  · rw [List.length_replicate]; omega
theorem okL_new {m : Mem} {n : Int} {p : Option Addr} {c : Nat} (h : Sl m cells 15 p c (newL n)) : TT.OkL m ⟨p, c, newL n⟩ := ⟨h, newL_in n, newL_len n⟩
theorem okL_nil (m : Mem) : TT.OkL m Lst.nil := ⟨Sl.empty m inferInstance, fun _ h => absurd h List.not_mem_nil, Nat.zero_le _⟩
theorem ok_z (m : Mem) : TT.z.Ok m := ⟨okL_nil m, okL_nil m, okL_nil m⟩
theorem cfg_n {K : Cfg} (h : K.ok) : (1 ≤ K.x ∧ K.x ≤ 4096) ∧ (1 ≤ K.y ∧ K.y ≤ 4096) ∧ (1 ≤ K.w ∧ K.w ≤ 4096) := ⟨h.hx, h.hy, h.hw⟩
set_option maxRecDepth 100000 in
theorem empty {m : Mem} (K : Cfg) : Ct Tryz.prog 36 #[K.v] m [] (fun v m' B => B = [] ∧ ∃ t : TT, v = t.v ∧ t.Ok m' ∧ t.ls = emp K) := by
  have k0 := Cfg.check K
  unfold Cfg.chk at k0
  unfold emp
  by_cases h0 : K.ok
  rotate_left
  · rw [if_neg h0] at k0 ⊢
    refine Ct.enterV (by rfl) Tryz.func36 rfl Tryz.ntmps36 rfl (fun w0 Rest => ?_)
    (repeat' (first | refine zss ?_ | refine zs0 ?_ | ((with_reducible first | apply AtM1.callp | apply AtQ.callp | apply At.callp); kernel_rfl; exact rfl; exact rfl; exact k0) | ((with_reducible apply At.box (d := 1)); exact rfl; exact rfl; exact rfl; intro b1) | ((with_reducible apply At.alloc (d := 2)); exact rfl; exact rfl; intro b2) | ((with_reducible apply At.alloc (d := 3)); exact rfl; exact rfl; intro b3) | (refine zsp ?_ ?_ <;> (intro hc; (try simp only [zhcs, reduceCtorEq] at hc); (try (exfalso; first | omega | contradiction | omega | exact absurd rfl hc | exact absurd (by decide) hc))))))
    all_goals ((with_reducible apply At.retV (B := [])); exact rfl; (repeat' (first | exact RVs.nil | (with_reducible apply RVs.cons) | exact rv_tmp (by rfl) | exact rv_cellN (by rfl) (by repeat constructor) (by rfl) (by rfl) (by rfl) | exact rv_cell1 (by rfl) (by repeat constructor) (by rfl) (by rfl))); exact zml; exact zkp; exact ⟨rfl, TT.z, rfl, ok_z _, rfl⟩)
  rw [if_pos h0] at k0 ⊢
  have hn := cfg_n h0
  have n0 := fun (m : Mem) => newS (m := m) K.x (by omega)
  have n1 := fun (m : Mem) => newS (m := m) K.y (by omega)
  have n2 := fun (m : Mem) => newS (m := m) K.w (by omega)
  clear hn
  refine Ct.enterV (by rfl) Tryz.func36 rfl Tryz.ntmps36 rfl (fun w0 Rest => ?_)
  (repeat' (first | refine zss ?_ | refine zs0 ?_ | ((with_reducible first | apply AtM1.callp | apply AtQ.callp | apply At.callp); kernel_rfl; exact rfl; exact rfl; exact k0) | ((with_reducible apply At.box (d := 1)); exact rfl; exact rfl; exact rfl; intro b1) | ((with_reducible apply At.alloc (d := 2)); exact rfl; exact rfl; intro b2) | ((with_reducible apply At.alloc (d := 3)); exact rfl; exact rfl; intro b3) | (refine zsp ?_ ?_ <;> (intro hc; (try simp only [zhcs, reduceCtorEq] at hc); (try (exfalso; first | omega | contradiction | omega | exact absurd rfl hc | exact absurd (by decide) hc))))))
  (refine At.loopk (σ := US) [2, 3, 11] (fun s F0 => (12, .int .i64 (s.k : Int)) :: F0) (fun s => s.m) (fun s => .blk b3 36 s.t.cells :: .blk b2 36 TT.z.cells :: Rest) (fun s => m.le s.m ∧ s.t.Ok s.m ∧ ((s.k = 0 ∧ s.t = TT.z) ∨ (s.k = 1 ∧ s.t.a.l = newL K.x) ∨ (s.k = 2 ∧ s.t.a.l = newL K.x ∧ s.t.b.l = newL K.y) ∨ (s.k = 3 ∧ s.t.ls = ⟨newL K.x, newL K.y, newL K.w⟩))) (fun s => 3 - s.k) ⟨0, m, TT.z⟩ (by rfl) ?_ zsubs zml zente ?_)
  · exact ⟨Mem.le_refl _, ok_z _, .inl ⟨rfl, rfl⟩⟩
  rintro ⟨k, m1, T⟩ ⟨hm1, hT, hk⟩
  dsimp only at hm1 hT hk ⊢
  rcases hk with ⟨rfl, rfl⟩ | ⟨rfl, e1⟩ | ⟨rfl, e1, e2⟩ | ⟨rfl, e1⟩
  · (repeat' (first | refine zss ?_ | ((first | (with_reducible first | apply At.val | apply AtQ.val)); (first | exact pr_index_agg (k := 0) (by rfl) (by rfl) (by rfl) (by rfl) (by rfl) (by rfl) (by rfl) | exact pr_indexArr (k := 0) (by rfl) (by rfl) (by rfl) (by rfl) (by decide)); exact rfl) | refine zs0 ?_ | ((with_reducible first | apply At.c1 | apply At.c0); exact rfl; exact rfl; exact n0 _; exact ztk; kernel_rfl; rintro v' m' B' hm' ⟨rfl, p2, c2, rfl, sl9⟩; (try replace sl9 := sl9.mono hm'); (try (have hq0 : hm' = Mem.le_refl _ := rfl; clear hq0 hm'))) | ((with_reducible apply At.box (d := 1)); exact rfl; exact rfl; exact rfl; intro b1) | ((with_reducible apply At.alloc (d := 2)); exact rfl; exact rfl; intro b2) | ((with_reducible apply At.alloc (d := 3)); exact rfl; exact rfl; intro b3) | (refine zsp ?_ ?_ <;> (intro hc; (try simp only [zhcs, reduceCtorEq] at hc); (try (exfalso; first | omega | contradiction | omega | exact absurd rfl hc | exact absurd (by decide) hc))))))
    all_goals ((with_reducible refine At.reachk ((⟨1, m', ⟨⟨p2, c2, newL K.x⟩, Lst.nil, Lst.nil⟩⟩ : US)) ?_ ?_ ?_ ?_); exact zsubs; exact zml; exact zente; exact ⟨⟨zml, ⟨okL_new sl9, okL_nil _, okL_nil _⟩, .inr (.inl ⟨rfl, rfl⟩)⟩, (by decide : 3 - 1 < 3 - 0)⟩)
  · (repeat' (first | refine zss ?_ | ((first | (with_reducible first | apply At.val | apply AtQ.val)); (first | exact pr_index_agg (k := 1) (by rfl) (by rfl) (by rfl) (by rfl) (by rfl) (by rfl) (by rfl) | exact pr_indexArr (k := 1) (by rfl) (by rfl) (by rfl) (by rfl) (by decide)); exact rfl) | refine zs0 ?_ | ((with_reducible first | apply At.c1 | apply At.c0); exact rfl; exact rfl; exact n1 _; exact ztk; kernel_rfl; rintro v' m' B' hm' ⟨rfl, p2, c2, rfl, sl9⟩; (try replace sl9 := sl9.mono hm'); (try (have hq0 : hm' = Mem.le_refl _ := rfl; clear hq0 hm'))) | ((with_reducible apply At.box (d := 1)); exact rfl; exact rfl; exact rfl; intro b1) | ((with_reducible apply At.alloc (d := 2)); exact rfl; exact rfl; intro b2) | ((with_reducible apply At.alloc (d := 3)); exact rfl; exact rfl; intro b3) | (refine zsp ?_ ?_ <;> (intro hc; (try simp only [zhcs, reduceCtorEq] at hc); (try (exfalso; first | omega | contradiction | omega | exact absurd rfl hc | exact absurd (by decide) hc))))))
    all_goals ((with_reducible refine At.reachk ((⟨2, m', ⟨T.a, ⟨p2, c2, newL K.y⟩, T.c⟩⟩ : US)) ?_ ?_ ?_ ?_); exact zsubs; exact zml; exact zente; exact ⟨⟨zml, ⟨hT.a.mono zml, okL_new sl9, hT.c.mono zml⟩, .inr (.inr (.inl ⟨rfl, e1, rfl⟩))⟩, (by decide : 3 - 2 < 3 - 1)⟩)
  · (repeat' (first | refine zss ?_ | ((first | (with_reducible first | apply At.val | apply AtQ.val)); (first | exact pr_index_agg (k := 2) (by rfl) (by rfl) (by rfl) (by rfl) (by rfl) (by rfl) (by rfl) | exact pr_indexArr (k := 2) (by rfl) (by rfl) (by rfl) (by rfl) (by decide)); exact rfl) | refine zs0 ?_ | ((with_reducible first | apply At.c1 | apply At.c0); exact rfl; exact rfl; exact n2 _; exact ztk; kernel_rfl; rintro v' m' B' hm' ⟨rfl, p2, c2, rfl, sl9⟩; (try replace sl9 := sl9.mono hm'); (try (have hq0 : hm' = Mem.le_refl _ := rfl; clear hq0 hm'))) | ((with_reducible apply At.box (d := 1)); exact rfl; exact rfl; exact rfl; intro b1) | ((with_reducible apply At.alloc (d := 2)); exact rfl; exact rfl; intro b2) | ((with_reducible apply At.alloc (d := 3)); exact rfl; exact rfl; intro b3) | (refine zsp ?_ ?_ <;> (intro hc; (try simp only [zhcs, reduceCtorEq] at hc); (try (exfalso; first | omega | contradiction | omega | exact absurd rfl hc | exact absurd (by decide) hc))))))
    all_goals ((with_reducible refine At.reachk ((⟨3, m', ⟨T.a, T.b, ⟨p2, c2, newL K.w⟩⟩⟩ : US)) ?_ ?_ ?_ ?_); exact zsubs; exact zml; exact zente; exact ⟨⟨zml, ⟨hT.a.mono zml, hT.b.mono zml, okL_new sl9⟩, .inr (.inr (.inr ⟨rfl, by show (⟨T.a.l, T.b.l, newL K.w⟩ : L3) = _; rw [e1, e2]⟩))⟩, (by decide : 3 - 3 < 3 - 2)⟩)
  · (repeat' (first | refine zss ?_ | refine zs0 ?_ | ((with_reducible apply At.box (d := 1)); exact rfl; exact rfl; exact rfl; intro b1) | ((with_reducible apply At.alloc (d := 2)); exact rfl; exact rfl; intro b2) | ((with_reducible apply At.alloc (d := 3)); exact rfl; exact rfl; intro b3) | (refine zsp ?_ ?_ <;> (intro hc; (try simp only [zhcs, reduceCtorEq] at hc); (try (exfalso; first | omega | contradiction | omega | exact absurd rfl hc | exact absurd (by decide) hc))))))
    all_goals ((with_reducible apply At.retV (B := [])); exact rfl; (repeat' (first | exact RVs.nil | (with_reducible apply RVs.cons) | exact rv_tmp (by rfl) | exact rv_cellN (by rfl) (by repeat constructor) (by rfl) (by rfl) (by rfl) | exact rv_cell1 (by rfl) (by repeat constructor) (by rfl) (by rfl))); exact zml; exact zkp; exact ⟨rfl, T, rfl, hT, e1⟩)
def fk (K : Cfg) (t : L3) : Prop := Se.fok K t.a t.b t.c
instance (K : Cfg) (t : L3) : Decidable (fk K t) := by unfold fk; infer_instance
theorem openY {m : Mem} (K : Cfg) (t : TT) (ho : t.Ok m) (h : fk K t.ls) : Ct Tryz.prog 69 #[K.v, t.v] m [] (fun v m' B => m = m' ∧ ∃ q, v = .tuple #[pt q, .int .i64 0] ∧ B = kt q K t) :=
  Ct.mono (Se.openF K t.a t.b t.c ho.a.n ho.b.n ho.c.n ho.a.i ho.b.i ho.c.i ho.a.sl ho.b.sl ho.c.sl) fun v m' B _ ⟨h1, h2⟩ => ⟨h1, (h2.resolve_right fun k => k.1 h).2⟩
theorem openN {m : Mem} (K : Cfg) (t : TT) (ho : t.Ok m) (h : ¬ fk K t.ls) : Ct Tryz.prog 69 #[K.v, t.v] m [] (fun v m' B => m = m' ∧ v = .tuple #[.pointer none, .int .i64 2] ∧ B = []) :=
  Ct.mono (Se.openF K t.a t.b t.c ho.a.n ho.b.n ho.c.n ho.a.i ho.b.i ho.c.i ho.a.sl ho.b.sl ho.c.sl) fun v m' B _ ⟨h1, h2⟩ => ⟨h1, (h2.resolve_left fun k => h k.1).2⟩
def l3z : L3 := ⟨[], [], []⟩
def upE (K : Cfg) (t : L3) (i j : Int) : Int := if ¬ fk K t then 2 else if i < 0 ∨ j < i ∨ bgn K.a j = false then 1 else 0
def upT (K : Cfg) (t : L3) (i j : Int) : L3 := if upE K t i j ≠ 0 then l3z else up K t i j
theorem bgn_bd {w i : Int} (h : bgn w i = true) (hw : 1 ≤ w) : 0 ≤ i * w ∧ i * w ≤ 35184372088831 := by
  have h := of_decide_eq_true h
  have h1 := Int.ediv_mul_le 35184372088831 (show w ≠ 0 by omega)
  have h2 := Int.mul_le_mul_of_nonneg_right h.2 (show 0 ≤ w by omega)
  have h3 := Int.mul_nonneg h.1 (show 0 ≤ w by omega)
  omega
def closeE (K : Cfg) (t : L3) (s : Slot) (j : Int) : Int := if ¬ fk K t then 2 else if s ≠ z ∧ ¬ fits s.c K.a s.w then 2 else if s = z ∨ s.w = j then 0 else if j < s.w ∨ bgn K.a j = false then 1 else 0
def closeT (K : Cfg) (t : L3) (s : Slot) (j : Int) : L3 := if closeE K t s j ≠ 0 then l3z else if s = z ∨ s.w = j then t else up K ⟨putO t.a K.a s.w s.c, t.b, t.c⟩ s.w j
theorem close_ {m : Mem} (K : Cfg) (t : TT) (s : Slot) (j : Int) (ho : t.Ok m) (hs : Slot.In s) :
    Ct Tryz.prog 62 #[K.v, t.v, s.v, .int .i64 j] m [] (fun v m' B => B = [] ∧ ∃ t' : TT, v = .tuple #[t'.v, .int .i64 (closeE K t.ls s j)] ∧ t'.Ok m' ∧ t'.ls = closeT K t.ls s j) := by
  by_cases h : fk K t.ls
  rotate_left
  · have ko := fun (m' : Mem) (h' : m.le m') => openN (m := m') K t (ho.mono h') h
    have e1 : closeE K t.ls s j = 2 := if_pos h
    have e2 : closeT K t.ls s j = l3z := if_pos (by rw [e1]; decide)
    rw [e1, e2]
    refine Ct.enterV (by rfl) Tryz.func62 rfl Tryz.ntmps62 rfl (fun w0 Rest => ?_)
    (repeat' (first | refine zss ?_ | ((first | (with_reducible first | apply At.val | apply AtQ.val)); (first | exact pr_buildArr (by rfl) (by rfl) | exact pr_sleq (b := z) (by rfl) (by rfl)); exact rfl) | refine zs0 ?_ | ((with_reducible first | apply At.c1 | apply At.c0); exact rfl; exact rfl; exact ko _ zml; exact ztk; kernel_rfl; rintro v' m' B' hm' ⟨rfl, rfl, rfl⟩; (try replace sl9 := sl9.mono hm'); (try (have hq0 : hm' = Mem.le_refl _ := rfl; clear hq0 hm'))) | ((with_reducible apply At.box (d := 4)); exact rfl; exact rfl; exact rfl; intro b4) | ((with_reducible apply At.box (d := 5)); exact rfl; exact rfl; exact rfl; intro b5) | ((with_reducible apply At.box (d := 6)); exact rfl; exact rfl; exact rfl; intro b6) | ((with_reducible apply At.alloc (d := 8)); exact rfl; exact rfl; intro b8) | (refine zsp ?_ ?_ <;> (intro hc; (try simp only [zhcs, reduceCtorEq] at hc); (try (exfalso; first | contradiction | omega | exact absurd rfl hc | exact absurd (by decide) hc))))))
    all_goals ((with_reducible apply At.retV (B := [])); exact rfl; (repeat' (first | exact RVs.nil | (with_reducible apply RVs.cons) | exact rv_tmp (by rfl) | exact rv_cellN (by rfl) (by repeat constructor) (by rfl) (by rfl) (by rfl) | exact rv_cell1 (by rfl) (by repeat constructor) (by rfl) (by rfl))); exact zml; exact zkp; exact ⟨rfl, TT.z, rfl, ok_z _, rfl⟩)
  have ko := fun (m' : Mem) (h' : m.le m') => openY (m := m') K t (ho.mono h') h
  have hw : 1 ≤ K.a ∧ K.a ≤ 1099511627776 := h.1.ha
  have kf := fitsT s.c K.a s.w hs.2.1
  by_cases h1 : s = z
  · have e1 : closeE K t.ls s j = 0 := (if_neg (fun k => k h)).trans ((if_neg (fun k => k.1 h1)).trans (if_pos (.inl h1)))
    have e2 : closeT K t.ls s j = t.ls := (if_neg (by rw [e1]; decide)).trans (if_pos (.inl h1))
    rw [e1, e2]
    have pq : ∀ {n' : Nat} {F : Fr} {C : World → Prop} {x y : Operand} {u : TypeId}, ev F x = some s.v → ev F y = some z.v → PR Tryz.prog n' F C (.binOp .eql 42 x y u) (.bool true) := fun hx hy => by rw [← show decide (s = z) = true from decide_eq_true h1]; exact pr_sleq hx hy
    have ho' := fun (m' : Mem) (h' : m.le m') => ho.mono h'
    clear ho
    refine Ct.enterV (by rfl) Tryz.func62 rfl Tryz.ntmps62 rfl (fun w0 Rest => ?_)
    (repeat' (first | refine zss ?_ | ((first | (with_reducible first | apply At.val | apply AtQ.val)); (first | exact pr_buildArr (by rfl) (by rfl) | exact pq (by rfl) (by rfl) | exact pr_indexArr (k := 0) (by rfl) (by rfl) (by rfl) (by rfl) (by decide)); exact rfl) | refine zs0 ?_ | ((with_reducible first | apply At.c1 | apply At.c0); exact rfl; exact rfl; exact ko _ zml; exact ztk; kernel_rfl; rintro v' m' B' hm' ⟨rfl, q, rfl, rfl⟩; (try replace sl9 := sl9.mono hm'); (try (have hq0 : hm' = Mem.le_refl _ := rfl; clear hq0 hm'))) | ((with_reducible apply At.box (d := 4)); exact rfl; exact rfl; exact rfl; intro b4) | ((with_reducible apply At.box (d := 5)); exact rfl; exact rfl; exact rfl; intro b5) | ((with_reducible apply At.box (d := 6)); exact rfl; exact rfl; exact rfl; intro b6) | ((with_reducible apply At.alloc (d := 8)); exact rfl; exact rfl; intro b8) | (refine zsp ?_ ?_ <;> (intro hc; (try simp only [zhcs, reduceCtorEq] at hc); (try (exfalso; first | omega | contradiction | omega | exact absurd rfl hc | exact absurd (by decide) hc))))))
    all_goals ((with_reducible apply At.retV (B := [])); exact rfl; (repeat' (first | exact RVs.nil | (with_reducible apply RVs.cons) | exact rv_tmp (by rfl) | exact rv_cellN (by rfl) (by repeat constructor) (by rfl) (by rfl) (by rfl) | exact rv_cell1 (by rfl) (by repeat constructor) (by rfl) (by rfl))); exact zml; exact zkp; exact ⟨rfl, t, rfl, ho' _ zml, rfl⟩)
  have pq : ∀ {n' : Nat} {F : Fr} {C : World → Prop} {x y : Operand} {u : TypeId}, ev F x = some s.v → ev F y = some z.v → PR Tryz.prog n' F C (.binOp .eql 42 x y u) (.bool false) := fun hx hy => by rw [← show decide (s = z) = false from decide_eq_false h1]; exact pr_sleq hx hy
  by_cases h2 : fits s.c K.a s.w
  rotate_left
  · rw [decide_eq_false h2] at kf
    have e1 : closeE K t.ls s j = 2 := (if_neg (fun k => k h)).trans (if_pos ⟨h1, h2⟩)
    have e2 : closeT K t.ls s j = l3z := if_pos (by rw [e1]; decide)
    rw [e1, e2]
    clear ho
    refine Ct.enterV (by rfl) Tryz.func62 rfl Tryz.ntmps62 rfl (fun w0 Rest => ?_)
    (repeat' (first | refine zss ?_ | ((first | (with_reducible first | apply At.val | apply AtQ.val)); (first | exact pr_buildArr (by rfl) (by rfl) | exact pq (by rfl) (by rfl) | exact pr_indexArr (k := 0) (by rfl) (by rfl) (by rfl) (by rfl) (by decide)); exact rfl) | refine zs0 ?_ | ((with_reducible first | apply At.c1 | apply At.c0); exact rfl; exact rfl; exact ko _ zml; exact ztk; kernel_rfl; rintro v' m' B' hm' ⟨rfl, q, rfl, rfl⟩; (try replace sl9 := sl9.mono hm'); (try (have hq0 : hm' = Mem.le_refl _ := rfl; clear hq0 hm'))) | ((with_reducible first | apply AtM1.callp | apply AtQ.callp | apply At.callp); kernel_rfl; exact rfl; exact rfl; exact kf) | ((with_reducible apply At.box (d := 4)); exact rfl; exact rfl; exact rfl; intro b4) | ((with_reducible apply At.box (d := 5)); exact rfl; exact rfl; exact rfl; intro b5) | ((with_reducible apply At.box (d := 6)); exact rfl; exact rfl; exact rfl; intro b6) | ((with_reducible apply At.alloc (d := 8)); exact rfl; exact rfl; intro b8) | (refine zsp ?_ ?_ <;> (intro hc; (try simp only [zhcs, reduceCtorEq] at hc); (try (exfalso; first | omega | contradiction | omega | exact absurd rfl hc | exact absurd (by decide) hc))))))
    all_goals ((with_reducible apply At.retV (B := [])); exact rfl; (repeat' (first | exact RVs.nil | (with_reducible apply RVs.cons) | exact rv_tmp (by rfl) | exact rv_cellN (by rfl) (by repeat constructor) (by rfl) (by rfl) (by rfl) | exact rv_cell1 (by rfl) (by repeat constructor) (by rfl) (by rfl))); exact zml; exact zkp; exact ⟨rfl, TT.z, rfl, ok_z _, rfl⟩)
  rw [decide_eq_true h2] at kf
  have nb : ¬ (s ≠ z ∧ ¬ fits s.c K.a s.w) := fun k => k.2 h2
  by_cases h3 : s.w = j
  · have e1 : closeE K t.ls s j = 0 := (if_neg (fun k => k h)).trans ((if_neg nb).trans (if_pos (.inr h3)))
    have e2 : closeT K t.ls s j = t.ls := (if_neg (by rw [e1]; decide)).trans (if_pos (.inr h3))
    rw [e1, e2]
    have ho' := fun (m' : Mem) (h' : m.le m') => ho.mono h'
    clear ho
    refine Ct.enterV (by rfl) Tryz.func62 rfl Tryz.ntmps62 rfl (fun w0 Rest => ?_)
    (repeat' (first | refine zss ?_ | ((first | (with_reducible first | apply At.val | apply AtQ.val)); (first | exact pr_buildArr (by rfl) (by rfl) | exact pq (by rfl) (by rfl) | exact pr_indexArr (k := 0) (by rfl) (by rfl) (by rfl) (by rfl) (by decide)); exact rfl) | refine zs0 ?_ | ((with_reducible first | apply At.c1 | apply At.c0); exact rfl; exact rfl; exact ko _ zml; exact ztk; kernel_rfl; rintro v' m' B' hm' ⟨rfl, q, rfl, rfl⟩; (try replace sl9 := sl9.mono hm'); (try (have hq0 : hm' = Mem.le_refl _ := rfl; clear hq0 hm'))) | ((with_reducible first | apply AtM1.callp | apply AtQ.callp | apply At.callp); kernel_rfl; exact rfl; exact rfl; exact kf) | ((with_reducible apply At.box (d := 4)); exact rfl; exact rfl; exact rfl; intro b4) | ((with_reducible apply At.box (d := 5)); exact rfl; exact rfl; exact rfl; intro b5) | ((with_reducible apply At.box (d := 6)); exact rfl; exact rfl; exact rfl; intro b6) | ((with_reducible apply At.alloc (d := 8)); exact rfl; exact rfl; intro b8) | (refine zsp ?_ ?_ <;> (intro hc; (try simp only [zhcs, reduceCtorEq] at hc); (try (exfalso; first | (first | omega | exact absurd h3 hc) | contradiction | omega | exact absurd rfl hc | exact absurd (by decide) hc))))))
    all_goals ((with_reducible apply At.retV (B := [])); exact rfl; (repeat' (first | exact RVs.nil | (with_reducible apply RVs.cons) | exact rv_tmp (by rfl) | exact rv_cellN (by rfl) (by repeat constructor) (by rfl) (by rfl) (by rfl) | exact rv_cell1 (by rfl) (by repeat constructor) (by rfl) (by rfl))); exact zml; exact zkp; exact ⟨rfl, t, rfl, ho' _ zml, rfl⟩)
  have nc : ¬ (s = z ∨ s.w = j) := fun k => k.elim h1 h3
  have kb := fun (m : Mem) (q : Nat) => begins0 (m := m) q K t j hw
  by_cases h4 : j < s.w ∨ bgn K.a j = false
  · have e1 : closeE K t.ls s j = 1 := (if_neg (fun k => k h)).trans ((if_neg nb).trans ((if_neg nc).trans (if_pos h4)))
    have e2 : closeT K t.ls s j = l3z := if_pos (by rw [e1]; decide)
    rw [e1, e2]
    clear ho
    by_cases h5 : bgn K.a j = false
    · rw [h5] at kb
      refine Ct.enterV (by rfl) Tryz.func62 rfl Tryz.ntmps62 rfl (fun w0 Rest => ?_)
      (repeat' (first | refine zss ?_ | ((first | (with_reducible first | apply At.val | apply AtQ.val)); (first | exact pr_buildArr (by rfl) (by rfl) | exact pq (by rfl) (by rfl) | exact pr_indexArr (k := 0) (by rfl) (by rfl) (by rfl) (by rfl) (by decide)); exact rfl) | refine zs0 ?_ | ((with_reducible first | apply At.c1 | apply At.c0); exact rfl; exact rfl; exact ko _ zml; exact ztk; kernel_rfl; rintro v' m' B' hm' ⟨rfl, q, rfl, rfl⟩; (try replace sl9 := sl9.mono hm'); (try (have hq0 : hm' = Mem.le_refl _ := rfl; clear hq0 hm'))) | ((with_reducible first | apply AtM1.callp | apply AtQ.callp | apply At.callp); kernel_rfl; exact rfl; exact rfl; exact kf) | ((with_reducible first | apply AtM1.cr | apply AtQ.cr | apply At.cr); exact rfl; exact rfl; exact fun _ hmm => kb _ q; exact ztk; kernel_rfl) | ((with_reducible apply At.box (d := 4)); exact rfl; exact rfl; exact rfl; intro b4) | ((with_reducible apply At.box (d := 5)); exact rfl; exact rfl; exact rfl; intro b5) | ((with_reducible apply At.box (d := 6)); exact rfl; exact rfl; exact rfl; intro b6) | ((with_reducible apply At.alloc (d := 8)); exact rfl; exact rfl; intro b8) | (refine zsp ?_ ?_ <;> (intro hc; (try simp only [zhcs, reduceCtorEq] at hc); (try (exfalso; first | (first | omega | exact absurd hc h3) | contradiction | omega | exact absurd rfl hc | exact absurd (by decide) hc))))))
      all_goals ((with_reducible apply At.retV (B := [])); exact rfl; (repeat' (first | exact RVs.nil | (with_reducible apply RVs.cons) | exact rv_tmp (by rfl) | exact rv_cellN (by rfl) (by repeat constructor) (by rfl) (by rfl) (by rfl) | exact rv_cell1 (by rfl) (by repeat constructor) (by rfl) (by rfl))); exact zml; exact zkp; exact ⟨rfl, TT.z, rfl, ok_z _, rfl⟩)
    · replace h4 : j < s.w := h4.resolve_right h5
      refine Ct.enterV (by rfl) Tryz.func62 rfl Tryz.ntmps62 rfl (fun w0 Rest => ?_)
      (repeat' (first | refine zss ?_ | ((first | (with_reducible first | apply At.val | apply AtQ.val)); (first | exact pr_buildArr (by rfl) (by rfl) | exact pq (by rfl) (by rfl) | exact pr_indexArr (k := 0) (by rfl) (by rfl) (by rfl) (by rfl) (by decide)); exact rfl) | refine zs0 ?_ | ((with_reducible first | apply At.c1 | apply At.c0); exact rfl; exact rfl; exact ko _ zml; exact ztk; kernel_rfl; rintro v' m' B' hm' ⟨rfl, q, rfl, rfl⟩; (try replace sl9 := sl9.mono hm'); (try (have hq0 : hm' = Mem.le_refl _ := rfl; clear hq0 hm'))) | ((with_reducible first | apply AtM1.callp | apply AtQ.callp | apply At.callp); kernel_rfl; exact rfl; exact rfl; exact kf) | ((with_reducible first | apply AtM1.cr | apply AtQ.cr | apply At.cr); exact rfl; exact rfl; exact fun _ hmm => kb _ q; exact ztk; kernel_rfl) | ((with_reducible apply At.box (d := 4)); exact rfl; exact rfl; exact rfl; intro b4) | ((with_reducible apply At.box (d := 5)); exact rfl; exact rfl; exact rfl; intro b5) | ((with_reducible apply At.box (d := 6)); exact rfl; exact rfl; exact rfl; intro b6) | ((with_reducible apply At.alloc (d := 8)); exact rfl; exact rfl; intro b8) | (refine zsp ?_ ?_ <;> (intro hc; (try simp only [zhcs, reduceCtorEq] at hc); (try (exfalso; first | (first | omega | exact absurd hc h3) | contradiction | omega | exact absurd rfl hc | exact absurd (by decide) hc))))))
      all_goals ((with_reducible apply At.retV (B := [])); exact rfl; (repeat' (first | exact RVs.nil | (with_reducible apply RVs.cons) | exact rv_tmp (by rfl) | exact rv_cellN (by rfl) (by repeat constructor) (by rfl) (by rfl) (by rfl) | exact rv_cell1 (by rfl) (by repeat constructor) (by rfl) (by rfl))); exact zml; exact zkp; exact ⟨rfl, TT.z, rfl, ok_z _, rfl⟩)
  have h5 : bgn K.a j = true := by cases e : bgn K.a j; exact absurd (.inr e) h4; rfl
  rw [h5] at kb
  have e1 : closeE K t.ls s j = 0 := (if_neg (fun k => k h)).trans ((if_neg nb).trans ((if_neg nc).trans (if_neg h4)))
  have e2 : closeT K t.ls s j = up K ⟨putO t.a.l K.a s.w s.c, t.b.l, t.c.l⟩ s.w j := (if_neg (by rw [e1]; decide)).trans (if_neg nc)
  rw [e1, e2]
  have hj := bgn_bd h5 hw.1
  have hf := fits_i h2
  have hi1 : 0 ≤ s.w * K.a := Int.mul_nonneg (by omega) (by omega)
  have hi2 : s.w * K.a ≤ 35184372088832 := by
    have := Int.mul_le_mul_of_nonneg_right (show s.w ≤ j by omega) (show 0 ≤ K.a by omega)
    omega
  have hpe : putE t.a.l K.a s.w s.c = 0 := if_pos ⟨h.2.1.2, h2⟩
  have kp := fun (m' : Mem) (q : Nat) (h' : m.le m') => putY (put0 (m := m') q K t s.w s.c (ho.mono h') hs.1 hs.2.1) hpe
  change ∀ m' q (h' : m.le m'), Ct _ _ _ _ _ (fun v m' B => v = .int .i64 0 ∧ ∃ n : Lst Slot, n.l = putO t.a.l K.a s.w s.c ∧ Sl m' cells 15 n.p n.c n.l ∧ B = kt q K ⟨n, t.b, t.c⟩) at kp
  have hn : ∀ (m' : Mem) (n : Lst Slot), n.l = putO t.a.l K.a s.w s.c → m.le m' → Sl m' cells 15 n.p n.c n.l → (⟨n, t.b, t.c⟩ : TT).Ok m' := fun m' n hn hm sl => ⟨⟨sl, by rw [hn]; exact putO_in ho.a.i (slot_cell hs) hs.1, by rw [hn]; exact Nat.le_trans (putO_le _ _ _ _) ho.a.n⟩, ho.b.mono hm, ho.c.mono hm⟩
  have ku := fun (m' : Mem) (q : Nat) (n : Lst Slot) (hn1 : n.l = putO t.a.l K.a s.w s.c) (ho' : (⟨n, t.b, t.c⟩ : TT).Ok m') => upF (m := m') q K ⟨n, t.b, t.c⟩ s.w j ho' h.1 (by show okT n.l K.a; rw [hn1]; exact putO_ok hpe) h.2.2.1.2 h.2.2.2.2 (by omega) (by omega)
  clear hj hf hi1 hi2 hw ho hpe e1 e2
  refine Ct.enterV (by rfl) Tryz.func62 rfl Tryz.ntmps62 rfl (fun w0 Rest => ?_)
  (repeat' (first | refine zss ?_ | ((first | (with_reducible first | apply At.val | apply AtQ.val)); (first | exact pr_buildArr (by rfl) (by rfl) | exact pq (by rfl) (by rfl) | exact pr_indexArr (k := 0) (by rfl) (by rfl) (by rfl) (by rfl) (by decide)); exact rfl) | refine zs0 ?_ | ((with_reducible first | apply At.c1 | apply At.c0); exact rfl; exact rfl; exact ko _ zml; exact ztk; kernel_rfl; rintro v' m' B' hm' ⟨rfl, q, rfl, rfl⟩; (try replace sl9 := sl9.mono hm'); (try (have hq0 : hm' = Mem.le_refl _ := rfl; clear hq0 hm'))) | ((with_reducible first | apply AtM1.callp | apply AtQ.callp | apply At.callp); kernel_rfl; exact rfl; exact rfl; exact kf) | ((with_reducible first | apply AtM1.cr | apply AtQ.cr | apply At.cr); exact rfl; exact rfl; exact fun _ hmm => kb _ q; exact ztk; kernel_rfl) | ((with_reducible first | apply At.c1 | apply At.c0); exact rfl; exact rfl; exact kp _ q zml; exact ztk; kernel_rfl; rintro v' m' B' hm' ⟨rfl, n, hn1, sl9, rfl⟩; (try replace sl9 := sl9.mono hm'); (try (have hq0 : hm' = Mem.le_refl _ := rfl; clear hq0 hm'))) | ((with_reducible first | apply At.c1 | apply At.c0); exact rfl; exact rfl; exact ku _ q n hn1 (hn _ n hn1 zml sl9); exact ztk; kernel_rfl; rintro v' m' B' hm' ⟨rfl, t', ht1, ht2, rfl⟩; (try replace sl9 := sl9.mono hm'); (try (have hq0 : hm' = Mem.le_refl _ := rfl; clear hq0 hm'))) | ((with_reducible apply At.box (d := 4)); exact rfl; exact rfl; exact rfl; intro b4) | ((with_reducible apply At.box (d := 5)); exact rfl; exact rfl; exact rfl; intro b5) | ((with_reducible apply At.box (d := 6)); exact rfl; exact rfl; exact rfl; intro b6) | ((with_reducible apply At.alloc (d := 8)); exact rfl; exact rfl; intro b8) | (refine zsp ?_ ?_ <;> (intro hc; (try simp only [zhcs, reduceCtorEq] at hc); (try (exfalso; first | (first | omega | exact absurd hc h3) | contradiction | omega | exact absurd rfl hc | exact absurd (by decide) hc))))))
  all_goals ((with_reducible apply At.retV (B := [])); exact rfl; (repeat' (first | exact RVs.nil | (with_reducible apply RVs.cons) | exact rv_tmp (by rfl) | exact rv_cellN (by rfl) (by repeat constructor) (by rfl) (by rfl) (by rfl) | exact rv_cell1 (by rfl) (by repeat constructor) (by rfl) (by rfl))); exact zml; exact zkp; exact ⟨rfl, t', rfl, ht1, by rw [ht2, ← hn1]; rfl⟩)
def sml (t : L3) : Prop := t.a.length ≤ 40 ∧ t.b.length ≤ 40 ∧ t.c.length ≤ 40
instance (t : L3) : Decidable (sml t) := by unfold sml; infer_instance
theorem small (y : TT) : Pu Tryz.prog 43 #[y.v] (.int .i64 (if sml y.ls then 1 else 0)) := Pu.intro fun m => by
  have e : sml y.ls ↔ y.a.l.length ≤ 40 ∧ y.b.l.length ≤ 40 ∧ y.c.l.length ≤ 40 := Iff.rfl
  by_cases h : sml y.ls
  · rw [if_pos h]
    obtain ⟨h1, h2, h3⟩ := e.1 h
    clear e
    refine Ct.enterV (by rfl) Tryz.func43 rfl Tryz.ntmps43 rfl (fun w0 Rest => ?_)
    (repeat' (first | refine zss ?_ | refine zs0 ?_ | ((with_reducible apply At.box (d := 1)); exact rfl; exact rfl; exact rfl; intro b1) | (refine zsp ?_ ?_ <;> (intro hc; (try simp only [zhcs, reduceCtorEq] at hc); (try (exfalso; first | contradiction | omega | exact absurd rfl hc | exact absurd (by decide) hc))))))
    (refine At.loopk (σ := Nat) [1] (fun s F0 => (4, .int .i64 (s : Int)) :: F0) (fun s => m) (fun s => .blk b1 36 y.cells :: Rest) (fun s => s ≤ 3) (fun s => 3 - s) 0 (by rfl) ?_ zsubs zml zente ?_)
    · exact Nat.zero_le _
    rintro s hs
    rcases (show s = 0 ∨ s = 1 ∨ s = 2 ∨ s = 3 by omega) with rfl | rfl | rfl | rfl
    · (repeat' (first | refine zss ?_ | ((first | (with_reducible first | apply At.val | apply AtQ.val)); (exact pr_indexArr (k := 0) (by rfl) (by rfl) (by rfl) (by rfl) (by decide)); exact rfl) | refine zs0 ?_ | ((with_reducible apply At.box (d := 1)); exact rfl; exact rfl; exact rfl; intro b1) | (refine zsp ?_ ?_ <;> (intro hc; (try simp only [zhcs, reduceCtorEq] at hc); (try (exfalso; first | omega | contradiction | omega | exact absurd rfl hc | exact absurd (by decide) hc))))))
      all_goals ((with_reducible refine At.reachk (1) ?_ ?_ ?_ ?_); exact zsubs; exact zml; exact zente; exact ⟨by decide, by decide⟩)
    · (repeat' (first | refine zss ?_ | ((first | (with_reducible first | apply At.val | apply AtQ.val)); (exact pr_indexArr (k := 1) (by rfl) (by rfl) (by rfl) (by rfl) (by decide)); exact rfl) | refine zs0 ?_ | ((with_reducible apply At.box (d := 1)); exact rfl; exact rfl; exact rfl; intro b1) | (refine zsp ?_ ?_ <;> (intro hc; (try simp only [zhcs, reduceCtorEq] at hc); (try (exfalso; first | omega | contradiction | omega | exact absurd rfl hc | exact absurd (by decide) hc))))))
      all_goals ((with_reducible refine At.reachk (2) ?_ ?_ ?_ ?_); exact zsubs; exact zml; exact zente; exact ⟨by decide, by decide⟩)
    · (repeat' (first | refine zss ?_ | ((first | (with_reducible first | apply At.val | apply AtQ.val)); (exact pr_indexArr (k := 2) (by rfl) (by rfl) (by rfl) (by rfl) (by decide)); exact rfl) | refine zs0 ?_ | ((with_reducible apply At.box (d := 1)); exact rfl; exact rfl; exact rfl; intro b1) | (refine zsp ?_ ?_ <;> (intro hc; (try simp only [zhcs, reduceCtorEq] at hc); (try (exfalso; first | omega | contradiction | omega | exact absurd rfl hc | exact absurd (by decide) hc))))))
      all_goals ((with_reducible refine At.reachk (3) ?_ ?_ ?_ ?_); exact zsubs; exact zml; exact zente; exact ⟨by decide, by decide⟩)
    · (repeat' (first | refine zss ?_ | refine zs0 ?_ | ((with_reducible apply At.box (d := 1)); exact rfl; exact rfl; exact rfl; intro b1) | (refine zsp ?_ ?_ <;> (intro hc; (try simp only [zhcs, reduceCtorEq] at hc); (try (exfalso; first | omega | contradiction | omega | exact absurd rfl hc | exact absurd (by decide) hc))))))
      all_goals ((with_reducible apply At.retB1 (B := [])); exact rfl; exact rfl; exact zml; exact zkp; exact ⟨rfl, rfl, rfl⟩)
  · rw [if_neg h]
    replace h : ¬ (y.a.l.length ≤ 40 ∧ y.b.l.length ≤ 40 ∧ y.c.l.length ≤ 40) := h
    clear e
    refine Ct.enterV (by rfl) Tryz.func43 rfl Tryz.ntmps43 rfl (fun w0 Rest => ?_)
    (repeat' (first | refine zss ?_ | refine zs0 ?_ | ((with_reducible apply At.box (d := 1)); exact rfl; exact rfl; exact rfl; intro b1) | (refine zsp ?_ ?_ <;> (intro hc; (try simp only [zhcs, reduceCtorEq] at hc); (try (exfalso; first | contradiction | omega | exact absurd rfl hc | exact absurd (by decide) hc))))))
    (refine At.loopk (σ := Nat) [1] (fun s F0 => (4, .int .i64 (s : Int)) :: F0) (fun s => m) (fun s => .blk b1 36 y.cells :: Rest) (fun s => s ≤ 3 ∧ (0 < s → y.a.l.length ≤ 40) ∧ (1 < s → y.b.l.length ≤ 40) ∧ (2 < s → y.c.l.length ≤ 40)) (fun s => 3 - s) 0 (by rfl) ?_ zsubs zml zente ?_)
    · exact ⟨Nat.zero_le _, fun h => absurd h (by decide), fun h => absurd h (by decide), fun h => absurd h (by decide)⟩
    rintro s ⟨hs, g0, g1, g2⟩
    rcases (show s = 0 ∨ s = 1 ∨ s = 2 ∨ s = 3 by omega) with rfl | rfl | rfl | rfl
    · by_cases g : y.a.l.length ≤ 40
      · (repeat' (first | refine zss ?_ | ((first | (with_reducible first | apply At.val | apply AtQ.val)); (exact pr_indexArr (k := 0) (by rfl) (by rfl) (by rfl) (by rfl) (by decide)); exact rfl) | refine zs0 ?_ | ((with_reducible apply At.box (d := 1)); exact rfl; exact rfl; exact rfl; intro b1) | (refine zsp ?_ ?_ <;> (intro hc; (try simp only [zhcs, reduceCtorEq] at hc); (try (exfalso; first | omega | contradiction | omega | exact absurd rfl hc | exact absurd (by decide) hc))))))
        all_goals ((with_reducible refine At.reachk (1) ?_ ?_ ?_ ?_); exact zsubs; exact zml; exact zente; exact ⟨⟨by decide, fun _ => g, fun h => absurd h (by decide), fun h => absurd h (by decide)⟩, by decide⟩)
      · (repeat' (first | refine zss ?_ | ((first | (with_reducible first | apply At.val | apply AtQ.val)); (exact pr_indexArr (k := 0) (by rfl) (by rfl) (by rfl) (by rfl) (by decide)); exact rfl) | refine zs0 ?_ | ((with_reducible apply At.box (d := 1)); exact rfl; exact rfl; exact rfl; intro b1) | (refine zsp ?_ ?_ <;> (intro hc; (try simp only [zhcs, reduceCtorEq] at hc); (try (exfalso; first | omega | contradiction | omega | exact absurd rfl hc | exact absurd (by decide) hc))))))
        all_goals ((with_reducible apply At.retB1 (B := [])); exact rfl; exact rfl; exact zml; exact zkp; exact ⟨rfl, rfl, rfl⟩)
    · by_cases g : y.b.l.length ≤ 40
      · (repeat' (first | refine zss ?_ | ((first | (with_reducible first | apply At.val | apply AtQ.val)); (exact pr_indexArr (k := 1) (by rfl) (by rfl) (by rfl) (by rfl) (by decide)); exact rfl) | refine zs0 ?_ | ((with_reducible apply At.box (d := 1)); exact rfl; exact rfl; exact rfl; intro b1) | (refine zsp ?_ ?_ <;> (intro hc; (try simp only [zhcs, reduceCtorEq] at hc); (try (exfalso; first | omega | contradiction | omega | exact absurd rfl hc | exact absurd (by decide) hc))))))
        all_goals ((with_reducible refine At.reachk (2) ?_ ?_ ?_ ?_); exact zsubs; exact zml; exact zente; exact ⟨⟨by decide, fun _ => g0 (by decide), fun _ => g, fun h => absurd h (by decide)⟩, by decide⟩)
      · (repeat' (first | refine zss ?_ | ((first | (with_reducible first | apply At.val | apply AtQ.val)); (exact pr_indexArr (k := 1) (by rfl) (by rfl) (by rfl) (by rfl) (by decide)); exact rfl) | refine zs0 ?_ | ((with_reducible apply At.box (d := 1)); exact rfl; exact rfl; exact rfl; intro b1) | (refine zsp ?_ ?_ <;> (intro hc; (try simp only [zhcs, reduceCtorEq] at hc); (try (exfalso; first | omega | contradiction | omega | exact absurd rfl hc | exact absurd (by decide) hc))))))
        all_goals ((with_reducible apply At.retB1 (B := [])); exact rfl; exact rfl; exact zml; exact zkp; exact ⟨rfl, rfl, rfl⟩)
    · by_cases g : y.c.l.length ≤ 40
      · exact absurd ⟨g0 (by decide), g1 (by decide), g⟩ h
      · (repeat' (first | refine zss ?_ | ((first | (with_reducible first | apply At.val | apply AtQ.val)); (exact pr_indexArr (k := 2) (by rfl) (by rfl) (by rfl) (by rfl) (by decide)); exact rfl) | refine zs0 ?_ | ((with_reducible apply At.box (d := 1)); exact rfl; exact rfl; exact rfl; intro b1) | (refine zsp ?_ ?_ <;> (intro hc; (try simp only [zhcs, reduceCtorEq] at hc); (try (exfalso; first | omega | contradiction | omega | exact absurd rfl hc | exact absurd (by decide) hc))))))
        all_goals ((with_reducible apply At.retB1 (B := [])); exact rfl; exact rfl; exact zml; exact zkp; exact ⟨rfl, rfl, rfl⟩)
    · exact absurd ⟨g0 (by decide), g1 (by decide), g2 (by decide)⟩ h
end Fo
end Go.Proofs.YtjdlnckifhifbaaGreat
/- A stack of tiers and the window that is open, in plain words: what they have of events that were put, one behind the other. -/
set_option linter.unusedSimpArgs false
set_option linter.unusedVariables false
set_option linter.unusedSectionVars false
set_option maxRecDepth 20000
set_option maxHeartbeats 4000000
namespace Go.Proofs.YtjdlnckifhifbaaGreat
open Go Go.J
namespace Gr
open Cell Ti Fo
def lastT (es : List Ev) : Int := (es.getLast?.map Ev.T).getD 0
theorem lastT_snoc (es : List Ev) (e : Ev) : lastT (es ++ [e]) = e.T := by
  unfold lastT
  rw [List.getLast?_append, List.getLast?_singleton]
  rfl
theorem lastT_get {es : List Ev} (h : es ≠ []) : lastT es = (es.getLast h).T := by
  unfold lastT
  rw [List.getLast?_eq_some_getLast h]
  rfl
theorem le_last {es : List Ev} (hG : Good es) {e : Ev} (he : e ∈ es) : e.T ≤ lastT es := by
  have hn : es ≠ [] := List.ne_nil_of_mem he
  rw [lastT_get hn]
  obtain ⟨i, hi, rfl⟩ := List.mem_iff_getElem.1 he
  rw [List.getLast_eq_getElem hn]
  rcases Nat.lt_or_ge i (es.length - 1) with h | h
  · exact Int.le_of_lt (List.pairwise_iff_getElem.1 hG.2 i _ hi (by omega) h)
  · have : i = es.length - 1 := by omega
    subst this
    exact Int.le_refl _
theorem le_win {es : List Ev} (hG : Good es) {w : Int} (hw : 1 ≤ w) {e : Ev} (he : e ∈ es) : e.T / w ≤ lastT es / w := Int.ediv_le_ediv (by omega) (le_last hG he)
theorem win_last {es : List Ev} (h : es ≠ []) (w : Int) : win w (lastT es / w) es ≠ [] := by
  refine List.ne_nil_of_mem (a := es.getLast h) (win_mem.2 ⟨List.getLast_mem h, ?_⟩)
  rw [lastT_get h]
theorem last_bd {es : List Ev} (hG : Good es) (h : es ≠ []) : 0 ≤ lastT es ∧ lastT es ≤ 35184372088831 := by
  have := (hG.1 _ (List.getLast_mem h)).1
  rw [lastT_get h]
  unfold Ev.ok at this
  omega
theorem div_lvl {x a f : Int} (ha : 0 < a) : x / a * a / (a * f) = x / (a * f) := by
  rw [Int.mul_comm (x / a) a, Int.mul_ediv_mul_of_pos _ _ ha, ← div_div ha]
/-- the window that is over is made of the tier below -/
theorem made_win {wl nl f v : Int} {es : List Ev} {lo : List Slot} (hG : Good es) (hn : es ≠ []) (hw : 1 ≤ wl) (hf : 1 ≤ f) (hfn : f ≤ nl) (h : Lv wl nl es (lastT es / wl + 1) lo) :
    foldC lo (lastT es / (wl * f) * f) ((lastT es / (wl * f) + 1) * f) = (G (wl * f) es (lastT es / (wl * f)), 0) := by
  have hb := last_bd hG hn
  have hov : 0 ≤ lastT es / (wl * f) := Int.ediv_nonneg hb.1 (Int.mul_nonneg (by omega) (by omega))
  refine foldC_win (by omega) (by omega) hov hG h.ok (fun s hs ks => (h.snd s hs ks).2) fun e he heq => ?_
  rw [div_div (by omega), div_range (by omega)] at heq
  have hl : lastT es / wl < (lastT es / (wl * f) + 1) * f := ((div_range (by omega)).1 (div_div (t := lastT es) (by omega)).symm).2
  rw [Int.add_mul, Int.one_mul] at hl
  have hle := le_win hG hw he
  have hm := h.cmp e he (by omega) (by omega)
  have hfe : Full (G wl es (e.T / wl)) := (cel_full (hG.sub (win_sub wl _ es)) (List.ne_nil_of_mem (win_mem.2 ⟨he, rfl⟩))).1
  exact ⟨_, hm, keep_full hfe, rfl⟩
def opn (K : Cfg) (es : List Ev) : Slot := if es = [] then Slot.z else ⟨lastT es / K.a, G K.a es (lastT es / K.a)⟩
/-- what a stack has, and which window is open -/
structure Inv (K : Cfg) (es : List Ev) (T : L3) (o : Slot) : Prop where
  ok : K.ok
  g : Good es
  a : Lv K.a K.x es (lastT es / K.a) T.a
  b : Lv K.b K.y es (lastT es / K.b) T.b
  c : Lv K.d K.w es (lastT es / K.d) T.c
  op : o = opn K es
theorem Inv.new {K : Cfg} (h : K.ok) : Inv K [] (emp K) Slot.z := by
  have e : emp K = ⟨newL K.x, newL K.y, newL K.w⟩ := if_pos h
  rw [e]
  exact ⟨h, ⟨fun _ h => absurd h List.not_mem_nil, List.Pairwise.nil⟩, Lv.new h.hx h.ha, Lv.new h.hy h.hb, Lv.new h.hw h.hd, rfl⟩
/-- a greater tier's width is so many times that of the one below -/
theorem cfg_f {K : Cfg} (h : K.ok) : (∃ f, K.b / K.a = f ∧ K.b = K.a * f ∧ 1 ≤ f ∧ f ≤ K.x) ∧ (∃ f, K.d / K.b = f ∧ K.d = K.b * f ∧ 1 ≤ f ∧ f ≤ K.y) := by
  have ha := h.ha
  have hb := h.hb
  have hd := h.hd
  have h1 := Int.ediv_mul_cancel_of_emod_eq_zero h.hba.1
  have h2 := Int.ediv_mul_cancel_of_emod_eq_zero h.hdb.1
  refine ⟨⟨K.b / K.a, rfl, by rw [Int.mul_comm]; exact h1.symm, ?_, h.hba.2⟩, ⟨K.d / K.b, rfl, by rw [Int.mul_comm]; exact h2.symm, ?_, h.hdb.2⟩⟩
  · refine Int.not_lt.1 fun hlt => ?_
    have : K.b / K.a * K.a ≤ 0 := Int.mul_nonpos_of_nonpos_of_nonneg (by omega) (by omega)
    omega
  · refine Int.not_lt.1 fun hlt => ?_
    have : K.d / K.b * K.b ≤ 0 := Int.mul_nonpos_of_nonpos_of_nonneg (by omega) (by omega)
    omega
theorem Inv.fk {K : Cfg} {es : List Ev} {T : L3} {o : Slot} (h : Inv K es T o) : fk K T := ⟨h.ok, ⟨h.a.len, h.a.ok⟩, ⟨h.b.len, h.b.ok⟩, ⟨h.c.len, h.c.ok⟩⟩
theorem Inv.open_ {K : Cfg} {es : List Ev} {T : L3} {o : Slot} (h : Inv K es T o) (hn : es ≠ []) : o = ⟨lastT es / K.a, G K.a es (lastT es / K.a)⟩ ∧ Full o.c ∧ fits o.c K.a o.w ∧ o ≠ Slot.z := by
  have e : o = ⟨lastT es / K.a, G K.a es (lastT es / K.a)⟩ := h.op.trans (if_neg hn)
  have hf : Full (G K.a es (lastT es / K.a)) := (cel_full (h.g.sub (win_sub K.a _ es)) (win_last hn K.a)).1
  have hk := keep_full (i := lastT es / K.a) hf
  subst e
  exact ⟨rfl, hf, G_fits h.g h.ok.ha (win_last hn K.a), keep_ne.1 hk⟩
/-- the window that is open is closed: a later one is open -/
theorem Inv.close {K : Cfg} {es : List Ev} {T : L3} {o : Slot} (h : Inv K es T o) (hn : es ≠ []) {j : Int} (hj : lastT es / K.a < j) (hb : bgn K.a j = true) :
    closeE K T o j = 0 ∧ ∃ T', closeT K T o j = T' ∧ Lv K.a K.x es j T'.a ∧ Lv K.b K.y es (j * K.a / K.b) T'.b ∧ Lv K.d K.w es (j * K.a / K.d) T'.c := by
  obtain ⟨ho, hfu, hfi, hz⟩ := h.open_ hn
  have ha := h.ok.ha
  have hbb := h.ok.hb
  have hd := h.ok.hd
  obtain ⟨⟨f1, ef1, eb, g1, g2⟩, ⟨f2, ef2, ed, g3, g4⟩⟩ := cfg_f h.ok
  have how : o.w = lastT es / K.a := by rw [ho]
  have hoc : o.c = G K.a es (lastT es / K.a) := by rw [ho]
  have hE : closeE K T o j = 0 := (if_neg (fun k => k h.fk)).trans ((if_neg (fun k => k.2 hfi)).trans ((if_neg (fun k => k.elim hz (fun k => by omega))).trans (if_neg (fun k => k.elim (fun k => by omega) (fun k => by rw [hb] at k; cases k)))))
  have hT : closeT K T o j = up K ⟨putO T.a K.a o.w o.c, T.b, T.c⟩ o.w j := (if_neg (by rw [hE]; exact fun k => k rfl)).trans (if_neg (fun k => k.elim hz (fun k => by omega)))
  refine ⟨hE, _, hT, ?_⟩
  rw [how, hoc]
  obtain ⟨p1, p2⟩ := h.a.put h.g (win_last hn K.a) (fun e he => le_win h.g ha.1 he)
  have o1 : lastT es / K.a * K.a / K.b = lastT es / K.b := by rw [eb]; exact div_lvl (by omega)
  have o2 : lastT es / K.a * K.a / K.d = lastT es / K.d := by rw [ed, eb, Int.mul_assoc]; exact div_lvl (by omega)
  have q1 : lastT es / K.b ≤ j * K.a / K.b := by rw [← o1]; exact Int.ediv_le_ediv (by omega) (Int.mul_le_mul_of_nonneg_right (by omega) (by omega))
  have lvl1 : (lastT es / K.b = j * K.a / K.b → upL K 1 (putO T.a K.a (lastT es / K.a) (G K.a es (lastT es / K.a))) T.b (lastT es / K.a) j = T.b) ∧
      (lastT es / K.b < j * K.a / K.b → ∀ c', lastT es / K.b < c' → Lv K.b K.y es c' (upL K 1 (putO T.a K.a (lastT es / K.a) (G K.a es (lastT es / K.a))) T.b (lastT es / K.a) j)) := by
    refine ⟨fun he => upL_same (k := 1) (by show lastT es / K.a * K.a / K.b = _; rw [o1]; exact he), fun hlt => ?_⟩
    have hm := made_win (v := K.a) h.g hn ha.1 g1 g2 (p2 _ (Int.lt_succ _))
    rw [← eb] at hm
    have hr : foldC (putO T.a K.a (lastT es / K.a) (G K.a es (lastT es / K.a))) (lastT es / K.a * K.a / Kw K 1 * (Kw K 1 / Kw K (1 - 1))) ((lastT es / K.a * K.a / Kw K 1 + 1) * (Kw K 1 / Kw K (1 - 1))) = (G K.b es (lastT es / K.b), 0) := by
      show foldC _ (lastT es / K.a * K.a / K.b * (K.b / K.a)) ((lastT es / K.a * K.a / K.b + 1) * (K.b / K.a)) = _
      rw [o1, ef1]; exact hm
    obtain ⟨s1, s2⟩ := h.b.put h.g (win_last hn K.b) (fun e he => le_win h.g hbb.1 he)
    have hgn : 0 < (G K.b es (lastT es / K.b)).n := by rw [G_n]; have := List.length_pos_iff.2 (win_last hn K.b); omega
    have he := upL_yes (k := 1) (l := T.b) (j := j) (by show ¬ lastT es / K.a * K.a / K.b = j * K.a / K.b; rw [o1]; omega) hr ⟨rfl, hgn⟩ (by show putE T.b K.b (lastT es / K.a * K.a / K.b) _ = 0; rw [o1]; exact s1)
    intro c' hc
    rw [he]
    show Lv K.b K.y es c' (putO T.b K.b (lastT es / K.a * K.a / K.b) _)
    rw [o1]
    exact s2 c' hc
  refine ⟨p2 j hj, ?_, ?_⟩
  · show Lv K.b K.y es (j * K.a / K.b) (upL K 1 _ T.b _ j)
    rcases Int.lt_or_eq_of_le q1 with hlt | heq
    · exact lvl1.2 hlt _ hlt
    · rw [lvl1.1 heq, ← heq]; exact h.b
  · show Lv K.d K.w es (j * K.a / K.d) (upL K 2 (upL K 1 _ T.b _ j) T.c _ j)
    have q2 : lastT es / K.d ≤ j * K.a / K.d := by rw [← o2]; exact Int.ediv_le_ediv (by omega) (Int.mul_le_mul_of_nonneg_right (by omega) (by omega))
    rcases Int.lt_or_eq_of_le q2 with hlt | heq
    · have hlt1 : lastT es / K.b < j * K.a / K.b := by
        refine Int.not_le.1 fun hle => ?_
        have := Int.ediv_le_ediv (show 0 < f2 by omega) hle
        rw [← div_div (by omega), ← div_div (by omega), ← ed] at this
        omega
      have hm := made_win (v := K.b) h.g hn hbb.1 g3 g4 (lvl1.2 hlt1 _ (Int.lt_succ _))
      rw [← ed] at hm
      generalize upL K 1 (putO T.a K.a (lastT es / K.a) (G K.a es (lastT es / K.a))) T.b (lastT es / K.a) j = B at hm ⊢
      have hr : foldC B (lastT es / K.a * K.a / Kw K 2 * (Kw K 2 / Kw K (2 - 1))) ((lastT es / K.a * K.a / Kw K 2 + 1) * (Kw K 2 / Kw K (2 - 1))) = (G K.d es (lastT es / K.d), 0) := by
        show foldC _ (lastT es / K.a * K.a / K.d * (K.d / K.b)) ((lastT es / K.a * K.a / K.d + 1) * (K.d / K.b)) = _
        rw [o2, ef2]; exact hm
      obtain ⟨s1, s2⟩ := h.c.put h.g (win_last hn K.d) (fun e he => le_win h.g hd.1 he)
      have hgn : 0 < (G K.d es (lastT es / K.d)).n := by rw [G_n]; have := List.length_pos_iff.2 (win_last hn K.d); omega
      have he := upL_yes (k := 2) (l := T.c) (j := j) (by show ¬ lastT es / K.a * K.a / K.d = j * K.a / K.d; rw [o2]; omega) hr ⟨rfl, hgn⟩ (by show putE T.c K.d (lastT es / K.a * K.a / K.d) _ = 0; rw [o2]; exact s1)
      rw [he]
      show Lv K.d K.w es _ (putO T.c K.d (lastT es / K.a * K.a / K.d) _)
      rw [o2]
      exact s2 _ hlt
    · rw [upL_same (k := 2) (by show lastT es / K.a * K.a / K.d = _; rw [o2]; exact heq), ← heq]; exact h.c
theorem good_last {es : List Ev} {e : Ev} (h : Good (es ++ [e])) : Good es ∧ (e.ok ∧ e.V < 18446744073709551616) ∧ ∀ x ∈ es, x.T < e.T :=
  ⟨h.sub (List.sublist_append_left _ _), h.1 e (List.mem_append_right _ (List.mem_singleton.2 rfl)), fun x hx => (List.pairwise_append.1 h.2).2.2 x hx e (List.mem_singleton.2 rfl)⟩
theorem bgn_ev {e : Ev} (h : e.ok) {w : Int} (hw : 1 ≤ w) : bgn w (e.T / w) = true := by
  unfold Ev.ok at h
  exact decide_eq_true ⟨Int.ediv_nonneg (by omega) (by omega), Int.ediv_le_ediv (by omega) (by omega)⟩
/-- one more event -/
theorem Inv.step {K : Cfg} {es : List Ev} {T : L3} {o : Slot} {e : Ev} (h : Inv K es T o) (hG : Good (es ++ [e])) :
    ∃ T' o', ((0 < o.c.n ∧ o.w ≠ e.T / K.a) → closeE K T o (e.T / K.a) = 0 ∧ closeT K T o (e.T / K.a) = T' ∧ o' = Slot.z) ∧ (¬ (0 < o.c.n ∧ o.w ≠ e.T / K.a) → T' = T ∧ o' = o) ∧
      addE o'.c e = (add o'.c e, 0) ∧ Inv K (es ++ [e]) T' ⟨e.T / K.a, add o'.c e⟩ := by
  obtain ⟨hg, ⟨heo, hev⟩, hlt⟩ := good_last hG
  have ha := h.ok.ha
  have hbb := h.ok.hb
  have hd := h.ok.hd
  obtain ⟨⟨f1, ef1, eb, g1, g2⟩, ⟨f2, ef2, ed, g3, g4⟩⟩ := cfg_f h.ok
  have hTp : 0 ≤ e.T := by unfold Ev.ok at heo; omega
  have haddE : ∀ c : Cell, (c = z ∨ (Full c ∧ c.L.T < e.T)) → addE c e = (add c e, 0) := fun c hc => (if_pos heo).trans (add_full hc heo hev).2.2
  have hop : opn K (es ++ [e]) = ⟨e.T / K.a, G K.a (es ++ [e]) (e.T / K.a)⟩ := by
    unfold opn
    rw [if_neg (by simp), lastT_snoc]
  have hGw : G K.a (es ++ [e]) (e.T / K.a) = add (G K.a es (e.T / K.a)) e := by
    unfold G
    rw [win_snoc' rfl]
    unfold cel
    rw [List.foldl_append]; rfl
  by_cases hn : es = []
  · subst hn
    have ho : o = Slot.z := h.op
    subst ho
    have hz0 : ∀ w : Int, 1 ≤ w → lastT [] / w ≤ e.T / w := fun w hw => by
      rw [show lastT [] = 0 from rfl, Int.zero_ediv]
      exact Int.ediv_nonneg hTp (by omega)
    refine ⟨T, Slot.z, fun k => absurd k.1 (by decide), fun _ => ⟨rfl, rfl⟩, haddE _ (.inl rfl), h.ok, hG, ?_, ?_, ?_, ?_⟩
    · rw [lastT_snoc]
      exact (h.a.later (hz0 K.a ha.1) (fun _ h => absurd h List.not_mem_nil)).add (Int.le_refl _)
    · rw [lastT_snoc]
      exact (h.b.later (hz0 K.b hbb.1) (fun _ h => absurd h List.not_mem_nil)).add (Int.le_refl _)
    · rw [lastT_snoc]
      exact (h.c.later (hz0 K.d hd.1) (fun _ h => absurd h List.not_mem_nil)).add (Int.le_refl _)
    · rw [hop, hGw]; rfl
  obtain ⟨ho, hfu, hfi, hz⟩ := h.open_ hn
  have hll : lastT es < e.T := by rw [lastT_get hn]; exact hlt _ (List.getLast_mem hn)
  have how : o.w = lastT es / K.a := by rw [ho]
  have hoc : o.c = G K.a es (lastT es / K.a) := by rw [ho]
  have hon : 0 < o.c.n := by have := hfu.n; omega
  by_cases hw : lastT es / K.a = e.T / K.a
  · refine ⟨T, o, fun k => absurd hw (by rw [← how]; exact k.2), fun _ => ⟨rfl, rfl⟩, haddE _ (.inr ⟨hfu, ?_⟩), h.ok, hG, ?_, ?_, ?_, ?_⟩
    · rw [hoc]
      obtain ⟨_, _, k3, _⟩ := cel_full (h.g.sub (win_sub K.a _ es)) (win_last hn K.a)
      exact hlt _ (win_mem.1 k3).1
    · rw [lastT_snoc, ← hw]
      exact h.a.add (by omega)
    · have e1 : lastT es / K.b = e.T / K.b := by rw [eb, div_div (by omega), div_div (by omega), hw]
      rw [lastT_snoc, ← e1]
      exact h.b.add (by omega)
    · have e0 : lastT es / K.b = e.T / K.b := by rw [eb, div_div (by omega), div_div (by omega), hw]
      have e1 : lastT es / K.d = e.T / K.d := by rw [ed, div_div (by omega), div_div (by omega), e0]
      rw [lastT_snoc, ← e1]
      exact h.c.add (by omega)
    · rw [hop, hGw, hoc, hw]
  · have hwlt : lastT es / K.a < e.T / K.a := by
      have := Int.ediv_le_ediv (show 0 < K.a by omega) (Int.le_of_lt hll)
      omega
    obtain ⟨hE, T', hT, l0, l1, l2⟩ := h.close hn hwlt (bgn_ev heo ha.1)
    have o1 : e.T / K.a * K.a / K.b = e.T / K.b := by rw [eb]; exact div_lvl (by omega)
    have o2 : e.T / K.a * K.a / K.d = e.T / K.d := by rw [ed, eb, Int.mul_assoc]; exact div_lvl (by omega)
    rw [o1] at l1
    rw [o2] at l2
    refine ⟨T', Slot.z, fun _ => ⟨hE, hT, rfl⟩, fun k => absurd ⟨hon, by rw [how]; exact hw⟩ k, haddE _ (.inl rfl), h.ok, hG, ?_, ?_, ?_, ?_⟩
    · rw [lastT_snoc]; exact l0.add (Int.le_refl _)
    · rw [lastT_snoc]; exact l1.add (Int.le_refl _)
    · rw [lastT_snoc]; exact l2.add (Int.le_refl _)
    · have hnone : win K.a (e.T / K.a) es = [] := by
        refine List.eq_nil_iff_forall_not_mem.2 fun x hx => ?_
        obtain ⟨h1, h2⟩ := win_mem.1 hx
        have := le_win h.g ha.1 h1
        omega
      rw [hop, hGw]
      show _ = (⟨_, add (G K.a es (e.T / K.a)) e⟩ : Slot)
      unfold G
      rw [hnone]
      rfl
end Gr
end Go.Proofs.YtjdlnckifhifbaaGreat
/- Stacks of tiers in plain words: what a kept window says of the events in it, and of the tier below. -/
set_option linter.unusedSimpArgs false
set_option linter.unusedVariables false
set_option linter.unusedSectionVars false
set_option maxRecDepth 20000
set_option maxHeartbeats 4000000
namespace Go.Proofs.YtjdlnckifhifbaaGreat
open Go Go.J
namespace Gr
open Cell Ti Fo
theorem getLast_snoc {α : Type} {l a : List α} {x : α} (h : l ≠ []) (e : l = a ++ [x]) : l.getLast h = x := by
  subst e
  exact List.getLast_concat
theorem win_getLast {es : List Ev} (h : es ≠ []) {w : Int} (hn : win w (lastT es / w) es ≠ []) : (win w (lastT es / w) es).getLast hn = es.getLast h := by
  have e : es = es.dropLast ++ [es.getLast h] := (List.dropLast_concat_getLast h).symm
  have hl : (es.getLast h).T / w = lastT es / w := by rw [lastT_get h]
  have : win w (lastT es / w) es = win w (lastT es / w) es.dropLast ++ [es.getLast h] := by
    have := win_snoc' (es := es.dropLast) hl
    rwa [← e] at this
  exact getLast_snoc hn this
theorem Inv.lastC {K : Cfg} {es : List Ev} {T : L3} {o : Slot} (h : Inv K es T o) (hn : es ≠ []) : o.c.L.T = lastT es := by
  have hw := win_last hn K.a
  obtain ⟨-, -, -, e⟩ := cel_full (h.g.sub (win_sub K.a (lastT es / K.a) es)) hw
  rw [(h.open_ hn).1]
  show (cel _).L.T = _
  rw [e, win_getLast hn hw, lastT_get hn]
/-- a window that a tier has -/
theorem Lv.at {w n c : Int} {es : List Ev} {l : List Slot} (h : Lv w n es c l) {x : Slot} (hx : x ∈ alls l) : Full x.c ∧ x.c = G w es x.w ∧ x.w < c ∧ 0 ≤ x.w ∧ es ≠ [] := by
  obtain ⟨hm, hk⟩ := alls_mem.1 hx
  obtain ⟨h1, h2⟩ := h.snd x hm hk
  obtain ⟨i, hi, ei⟩ := List.mem_iff_getElem.1 hm
  have ok := h.ok.2.2 i hi
  unfold okS at ok
  rw [getElem!_pos l i hi, ei] at ok
  have hf := fits_i (ok.resolve_left (keep_ne.1 hk)).2
  refine ⟨hf.2.2.1, h2, h1, hf.1, fun e => ?_⟩
  rw [e] at h2
  have h3 : x.c = z := h2
  have h4 := hf.2.2.1
  rw [h3] at h4
  exact absurd rfl h4.ne
theorem fold_fine {w n f x L : Int} {es : List Ev} {l : List Slot} (h : Lv w n es (L / w) l) (hG : Good es) (hw : 1 ≤ w) (hww : w ≤ 1099511627776) (hf : 1 ≤ f) (hx : 0 ≤ x) (hL : x < L / (w * f)) (hk : ¬ x * f ≤ L / w - n) :
    foldC l (x * f) ((x + 1) * f) = (G (w * f) es x, 0) := by
  refine foldC_win (by omega) (by omega) hx hG h.ok (fun s hs ks => (h.snd s hs ks).2) fun e he h1 => ?_
  rw [div_div (by omega), div_range (by omega)] at h1
  rw [div_div (by omega)] at hL
  have h2 : e.T / w < L / w := by
    have h3 := Int.ediv_mul_le (L / w) (show f ≠ 0 by omega)
    have h4 : (x + 1) * f ≤ L / w / f * f := Int.mul_le_mul_of_nonneg_right (by omega) (by omega)
    omega
  refine ⟨_, h.cmp e he (by omega) h2, keep_full (cel_full (hG.sub (win_sub _ _ _)) fun h0 => ?_).1, rfl⟩
  have : e ∈ win w (e.T / w) es := win_mem.2 ⟨he, rfl⟩
  rw [h0] at this
  exact absurd this List.not_mem_nil
/-- counting the events of a window -/
theorem cnt_snoc {w i : Int} {l : List Ev} {k : Nat} (h : k < l.length) : ((win w i (l.take (k + 1))).length : Int) = (win w i (l.take k)).length + if (l[k]!).T / w = i then 1 else 0 := by
  rw [Ls.take_snoc h]
  by_cases e : (l[k]!).T / w = i
  · rw [win_snoc' e, if_pos e, List.length_append, List.length_singleton]; omega
  · rw [win_snoc e, if_neg e]; omega
end Gr
end Go.Proofs.YtjdlnckifhifbaaGreat
/- What is told of windows, in plain words: those that a tier keeps, and the one that is open. -/
set_option linter.unusedSimpArgs false
set_option linter.unusedVariables false
set_option linter.unusedSectionVars false
set_option maxRecDepth 20000
set_option maxHeartbeats 4000000
namespace Go.Proofs.YtjdlnckifhifbaaGreat
open Go Go.J
namespace Gr
open Cell Ti Fo
/-- no later window took the place of this one -/
def Kp (w n c : Int) (es : List Ev) (i : Int) : Prop := ∀ x ∈ es, i < x.T / w → x.T / w < c → x.T / w % n ≠ i % n
instance (w n c : Int) (es : List Ev) (i : Int) : Decidable (Kp w n c es i) := by unfold Kp; infer_instance
/-- the events of those windows of a range that are told of -/
def sel (w n c : Int) (es : List Ev) (i j : Int) : List Ev := es.filter fun e => decide ((i ≤ e.T / w ∧ e.T / w < j) ∧ Kp w n c es (e.T / w))
theorem foldC_gen {w n c i j : Int} {es : List Ev} {l : List Slot} (h : Lv w n es c l) (hG : Good es) (hw : 1 ≤ w) (hi : 0 ≤ i) (hij : i ≤ j) :
    ∃ ws : List Int, ws.Pairwise (· < ·) ∧ (∀ v ∈ ws, v < c) ∧ (∀ e ∈ es, e.T / w ∈ ws ↔ (i ≤ e.T / w ∧ e.T / w < j) ∧ e.T / w < c ∧ Kp w n c es (e.T / w)) ∧
      foldC l i j = (cel (ws.map fun v => win w v es).flatten, 0) := by
  unfold foldC
  rw [if_neg (by omega)]
  generalize hA : (alls l).filter (fun s => decide (i ≤ s.w ∧ s.w < j)) = A
  have mem : ∀ s, s ∈ A ↔ (s ∈ l ∧ keep s = true) ∧ i ≤ s.w ∧ s.w < j := fun s => by
    rw [← hA, List.mem_filter, alls_mem, decide_eq_true_eq]
  have hws : (A.map Slot.w).Pairwise (· < ·) := by
    rw [List.pairwise_map, ← hA]
    exact (alls_lt h.ok).sublist List.filter_sublist
  have hc : A.map Slot.c = ((A.map Slot.w).map fun i => win w i es).map cel := by
    rw [List.map_map, List.map_map]
    exact List.map_congr_left fun s hs => (h.snd s ((mem s).1 hs).1.1 ((mem s).1 hs).1.2).2
  refine ⟨A.map Slot.w, hws, fun v hv => ?_, fun e he => ⟨fun hm => ?_, fun ⟨h1, h2, h3⟩ => ?_⟩, ?_⟩
  · obtain ⟨s, hs, rfl⟩ := List.mem_map.1 hv
    exact (h.snd s ((mem s).1 hs).1.1 ((mem s).1 hs).1.2).1
  · obtain ⟨s, hs, e1⟩ := List.mem_map.1 hm
    obtain ⟨⟨a1, a2⟩, a3⟩ := (mem s).1 hs
    rw [← e1]
    exact ⟨a3, (h.snd s a1 a2).1, h.own s a1 a2⟩
  · have hm := h.all e he h2 h3
    have hfe : Full (G w es (e.T / w)) := (cel_full (hG.sub (win_sub w _ es)) (List.ne_nil_of_mem (win_mem.2 ⟨he, rfl⟩))).1
    exact List.mem_map.2 ⟨_, (mem _).2 ⟨⟨hm, keep_full hfe⟩, h1⟩, rfl⟩
  · have hfl := flat_win (es := es) (show 0 < w by omega) hws hG
    rw [hc]
    show allC (cel []) _ = _
    rw [allC_cel _ [] (by rw [List.nil_append, hfl]; exact hG.sub List.filter_sublist), List.nil_append]
theorem mrg_cel {A B : List Ev} (h : Good (A ++ B)) : mrg (cel A) (cel B) = (cel (A ++ B), 0) := by
  have h1 := allC_cel [B] A (by rw [List.flatten_singleton]; exact h)
  rw [List.flatten_singleton] at h1
  have e : allC (cel A) ([B].map cel) = if (mrg (cel A) (cel B)).2 ≠ 0 then (z, (mrg (cel A) (cel B)).2) else ((mrg (cel A) (cel B)).1, 0) := rfl
  rw [e] at h1
  by_cases h2 : (mrg (cel A) (cel B)).2 = 0
  · rw [if_neg (fun k => k h2)] at h1
    have h3 := congrArg Prod.fst h1
    exact Prod.ext h3 h2
  · rw [if_pos h2] at h1
    exact absurd (congrArg Prod.snd h1) h2
/-- windows, and the one that is open behind them, merge to all of their events -/
theorem mrg_win {w c : Int} {es : List Ev} {ws : List Int} (hG : Good es) (hw : 1 ≤ w) (hs : ws.Pairwise (· < ·)) (hc : ∀ v ∈ ws, v < c) :
    mrg (cel (ws.map fun v => win w v es).flatten) (G w es c) = (cel (es.filter fun e => decide (e.T / w ∈ ws ++ [c])), 0) := by
  have hs2 : (ws ++ [c]).Pairwise (· < ·) := List.pairwise_append.2 ⟨hs, List.pairwise_singleton _ _, fun v hv x hx => by rw [List.mem_singleton.1 hx]; exact hc v hv⟩
  have hfl := flat_win (es := es) (show 0 < w by omega) hs2 hG
  rw [List.map_append, List.flatten_append, List.map_singleton, List.flatten_singleton] at hfl
  rw [← hfl]
  exact mrg_cel (by rw [hfl]; exact hG.sub List.filter_sublist)
/-- the window of the last event, of a greater tier -/
theorem now_step {w n f L : Int} {es : List Ev} {l : List Slot} (h : Lv w n es (L / w) l) (hG : Good es) (hw : 1 ≤ w) (hf : 1 ≤ f) (hfn : f ≤ n) (hL : 0 ≤ L) (hmax : ∀ e ∈ es, e.T ≤ L) :
    ∃ a, foldC l (L / (w * f) * f) (L / w) = (a, 0) ∧ mrg a (G w es (L / w)) = (G (w * f) es (L / (w * f)), 0) := by
  have ho : 0 ≤ L / (w * f) := Int.ediv_nonneg hL (Int.mul_nonneg (by omega) (by omega))
  have e1 := div_range (a := L / w) (o := L / (w * f)) (show 0 < f by omega)
  rw [← div_div (show 0 < w by omega)] at e1
  obtain ⟨r1, r2⟩ := e1.1 rfl
  obtain ⟨ws, hs, hc, hm, hr⟩ := foldC_gen h hG hw (Int.mul_nonneg ho (by omega)) r1
  refine ⟨_, hr, ?_⟩
  rw [mrg_win hG hw hs hc]
  have : (es.filter fun e => decide (e.T / w ∈ ws ++ [L / w])) = win (w * f) (L / (w * f)) es := by
    unfold win
    refine List.filter_congr fun e he => decide_eq_decide.2 ?_
    rw [List.mem_append, hm e he, List.mem_singleton, div_div (show 0 < w by omega) (t := e.T), div_range (show 0 < f by omega)]
    have hle : e.T / w ≤ L / w := Int.ediv_le_ediv (by omega) (hmax e he)
    rw [Int.add_mul, Int.one_mul] at r2 ⊢
    constructor
    · rintro (⟨⟨a1, a2⟩, -⟩ | a1)
      · omega
      · omega
    · rintro ⟨a1, a2⟩
      by_cases hq : e.T / w = L / w
      · exact .inr hq
      · exact .inl ⟨⟨a1, by omega⟩, by omega, fun x hx b1 b2 => mod_ne b1 (by omega)⟩
  rw [this]
  rfl
/-- a range of windows -/
theorem span_no {w n c i j : Int} {es : List Ev} {l : List Slot} (h : Lv w n es c l) (hG : Good es) (hw : 1 ≤ w) (hi : 0 ≤ i) (hij : i ≤ j) (hmax : ∀ e ∈ es, e.T / w ≤ c) (hc : c < i ∨ j ≤ c) :
    foldC l i j = (cel (sel w n c es i j), 0) := by
  obtain ⟨ws, hs, -, hm, hr⟩ := foldC_gen h hG hw hi hij
  rw [hr, flat_win (es := es) (show 0 < w by omega) hs hG]
  have : (es.filter fun e => decide (e.T / w ∈ ws)) = sel w n c es i j := by
    refine List.filter_congr fun e he => decide_eq_decide.2 ?_
    rw [hm e he]
    have := hmax e he
    exact ⟨fun h => ⟨h.1, h.2.2⟩, fun h => ⟨h.1, by omega, h.2⟩⟩
  rw [this]
theorem span_yes {w n c i j : Int} {es : List Ev} {l : List Slot} (h : Lv w n es c l) (hG : Good es) (hw : 1 ≤ w) (hi : 0 ≤ i) (hij : i ≤ j) (hmax : ∀ e ∈ es, e.T / w ≤ c) (hc : i ≤ c ∧ c < j) :
    ∃ a, foldC l i j = (a, 0) ∧ mrg a (G w es c) = (cel (sel w n c es i j), 0) := by
  obtain ⟨ws, hs, h1, hm, hr⟩ := foldC_gen h hG hw hi hij
  refine ⟨_, hr, ?_⟩
  rw [mrg_win hG hw hs h1]
  have : (es.filter fun e => decide (e.T / w ∈ ws ++ [c])) = sel w n c es i j := by
    refine List.filter_congr fun e he => decide_eq_decide.2 ?_
    rw [List.mem_append, hm e he, List.mem_singleton]
    have := hmax e he
    constructor
    · rintro (h | h)
      · exact ⟨h.1, h.2.2⟩
      · exact ⟨by omega, fun x hx b1 b2 => by omega⟩
    · rintro ⟨b1, b2⟩
      by_cases hq : e.T / w = c
      · exact .inr hq
      · exact .inl ⟨b1, by omega, b2⟩
  rw [this]
/-- what is told of windows all of which are kept does not hang on the room -/
theorem sel_kept {w n c i j : Int} {es : List Ev} (hi : c - n < i) : sel w n c es i j = es.filter fun e => decide (i ≤ e.T / w ∧ e.T / w < j) := by
  refine List.filter_congr fun e he => decide_eq_decide.2 ⟨fun h => h.1, fun h => ⟨h, fun x _ h1 h2 => mod_ne h1 (by omega)⟩⟩
end Gr
end Go.Proofs.YtjdlnckifhifbaaGreat
/- The contracts of the package raw: which are right, the last one, whether two are equal. -/
set_option linter.unusedSimpArgs false
set_option linter.unusedVariables false
set_option linter.unusedSectionVars false
set_option maxRecDepth 20000
set_option maxHeartbeats 4000000
namespace Go.Proofs.YtjdlnckifhifbaaGreat
open Go Go.J
attribute [local irreducible] At AtQ AtM AtM1 PR Ct Pu Rd Res.blk Res.own Res.ex RVs RV
/-- raw events, and where they lie -/
structure Rw where
  (lost mark : Int) (p : Option Addr) (c : Nat) (l : List Ev)
abbrev rv (lost mark : Int) (p : Option Addr) (n c : Nat) : Value := .agg #[.int .i64 lost, .int .i64 mark, .slice p n c]
namespace Rw
abbrev cells (r : Rw) : List Value := [.int .i64 r.lost, .int .i64 r.mark, .slice r.p r.l.length r.c]
abbrev v (r : Rw) : Value := rv r.lost r.mark r.p r.l.length r.c
end Rw
namespace Raw
open Ev Mrg
def ris (l : List Ev) : Prop := aok l ∧ asc l
instance (l : List Ev) : Decidable (ris l) := by unfold ris; infer_instance
def mkd (lost mark : Int) (l : List Ev) (room : Int) : Prop := if lost = 0 then mark = 0 else (l.length : Int) = room ∧ 0 ≤ mark ∧ mark < (l[0]!).T
instance (lost mark : Int) (l : List Ev) (room : Int) : Decidable (mkd lost mark l room) := by unfold mkd; infer_instance
def bnd (lost : Int) (l : List Ev) (room : Int) : Prop := 1 ≤ room ∧ room ≤ 4096 ∧ (l.length : Int) ≤ room ∧ 0 ≤ lost ∧ lost ≤ 70368744177664
instance (lost : Int) (l : List Ev) (room : Int) : Decidable (bnd lost l room) := by unfold bnd; infer_instance
def rk (lost mark : Int) (l : List Ev) (room : Int) : Prop := bnd lost l room ∧ ris l ∧ mkd lost mark l room
instance (lost mark : Int) (l : List Ev) (room : Int) : Decidable (rk lost mark l room) := by unfold rk; infer_instance
def chkR (lost mark : Int) (l : List Ev) (room : Int) : Int := if rk lost mark l room then 0 else 2
def lastV (l : List Ev) : Ev := if l.length = 0 then z else l[l.length - 1]!
def lastE (l : List Ev) : Int := if l.length = 0 then 3 else 0


theorem rising {m : Mem} (p : Option Addr) (c : Nat) (l : List Ev) (hl : l.length ≤ 1000000) (sl0 : Sl m cells 4 p c l) :
    Rd Tryz.prog 70 #[.slice p l.length c] m [] (.bool (decide (ris l))) := by
  unfold Rd
  refine Ct.enterV (by rfl) Tryz.func70 rfl Tryz.ntmps70 rfl (fun w0 Rest => ?_)
  (repeat' (first | refine zss ?_ | refine zsM ?_ | ((with_reducible apply At.alloc (d := 4)); exact rfl; exact rfl; intro b4) | (refine zsp ?_ ?_ <;> (intro hc; (try simp only [zhcs, reduceCtorEq] at hc); (try (exfalso; first | contradiction | omega | exact absurd rfl hc | exact absurd (by decide) hc))))))
  (refine At.loopk (σ := Nat) [0, 5, 6] (fun s F0 => (7, .int .i64 (s : Int)) :: F0) (fun s => m) (fun s => Rest) (fun s => s ≤ l.length ∧ (∀ i, i < s → (l[i]!).ok) ∧ (∀ i, i + 1 < s → (l[i]!).T < (l[i + 1]!).T)) (fun s => l.length - s) 0 (by rfl) ?_ zsubs zml zente ?_)
  · exact ⟨Nat.zero_le _, fun i h => absurd h (Nat.not_lt_zero i), fun i h => absurd h (by omega)⟩
  rintro s ⟨hs, ha, hb⟩
  by_cases h : s < l.length
  · have hk := Ev.check (l[s]!)
    by_cases ho : (l[s]!).ok
    · rw [show (l[s]!).chk = 0 from if_pos ho] at hk
      have hn : ∀ i, i < s + 1 → (l[i]!).ok := fun i hi => by
        by_cases e : i = s
        · subst e; exact ho
        · exact ha i (by omega)
      rcases s with _ | j
      · (repeat' (first | refine zss ?_ | refine zsM ?_ | ((with_reducible first | apply AtM1.callp | apply AtQ.callp | apply At.callp); kernel_rfl; exact rfl; exact rfl; exact hk) | ((with_reducible apply At.alloc (d := 4)); exact rfl; exact rfl; intro b4) | (refine zsp ?_ ?_ <;> (intro hc; (try simp only [zhcs, reduceCtorEq] at hc); (try (exfalso; first | omega | contradiction | omega | exact absurd rfl hc | exact absurd (by decide) hc))))))
        all_goals ((with_reducible refine At.reachk (1) ?_ ?_ ?_ ?_); exact zsubs; exact zml; exact zente; exact ⟨⟨h, hn, fun i hi => absurd hi (by omega)⟩, by omega⟩)
      · have hw : IntKind.wrap .i64 (((j + 1 : Nat) : Int) - 1) = (j : Int) := by rw [show (((j + 1 : Nat) : Int) - 1) = (j : Int) by omega]; exact IntWalk.i64_in _ (by omega)
        have hf := Ev.follow (l[j]!) (l[j + 1]!)
        rw [show fol (l[j]!) (l[j + 1]!) = decide ((l[j]!).T < (l[j + 1]!).T) by unfold fol; rw [decide_eq_true (show two (l[j]!) (l[j + 1]!) from ⟨ha j (by omega), ho⟩), Bool.true_and]] at hf
        by_cases hlt : (l[j]!).T < (l[j + 1]!).T
        · have hnn : ∀ i, i + 1 < j + 2 → (l[i]!).T < (l[i + 1]!).T := fun i hi => by
            by_cases e : i = j
            · subst e; exact hlt
            · exact hb i (by omega)
          rw [decide_eq_true hlt] at hf
          (repeat' (first | refine zss ?_ | ((first | (with_reducible first | apply At.val | apply AtQ.val)); (exact pr_sub (by rfl) (by rfl) hw); exact rfl) | refine zsM ?_ | ((with_reducible first | apply AtM1.callp | apply AtQ.callp | apply At.callp); kernel_rfl; exact rfl; exact rfl; exact hk) | ((with_reducible first | apply AtM1.callp | apply AtQ.callp | apply At.callp); kernel_rfl; exact rfl; exact rfl; exact hf) | ((with_reducible apply At.alloc (d := 4)); exact rfl; exact rfl; intro b4) | (refine zsp ?_ ?_ <;> (intro hc; (try simp only [zhcs, reduceCtorEq] at hc); (try (exfalso; first | omega | contradiction | omega | exact absurd rfl hc | exact absurd (by decide) hc))))))
          all_goals ((with_reducible refine At.reachk ((j + 2)) ?_ ?_ ?_ ?_); exact zsubs; exact zml; exact zente; exact ⟨⟨by omega, hn, hnn⟩, by omega⟩)
        · rw [decide_eq_false hlt] at hf
          rw [show decide (ris l) = false from decide_eq_false fun hh => hlt (hh.2 j (by omega))]
          (repeat' (first | refine zss ?_ | ((first | (with_reducible first | apply At.val | apply AtQ.val)); (exact pr_sub (by rfl) (by rfl) hw); exact rfl) | refine zsM ?_ | ((with_reducible first | apply AtM1.callp | apply AtQ.callp | apply At.callp); kernel_rfl; exact rfl; exact rfl; exact hk) | ((with_reducible first | apply AtM1.callp | apply AtQ.callp | apply At.callp); kernel_rfl; exact rfl; exact rfl; exact hf) | ((with_reducible apply At.alloc (d := 4)); exact rfl; exact rfl; intro b4) | (refine zsp ?_ ?_ <;> (intro hc; (try simp only [zhcs, reduceCtorEq] at hc); (try (exfalso; first | omega | contradiction | omega | exact absurd rfl hc | exact absurd (by decide) hc))))))
          all_goals ((with_reducible apply At.retB1 (B := [])); exact rfl; exact rfl; exact zml; exact zkp; exact ⟨rfl, rfl, rfl⟩)
    · rw [show (l[s]!).chk = 2 from if_neg ho] at hk
      rw [show decide (ris l) = false from decide_eq_false fun hh => ho (hh.1 s h)]
      (repeat' (first | refine zss ?_ | refine zsM ?_ | ((with_reducible first | apply AtM1.callp | apply AtQ.callp | apply At.callp); kernel_rfl; exact rfl; exact rfl; exact hk) | ((with_reducible apply At.alloc (d := 4)); exact rfl; exact rfl; intro b4) | (refine zsp ?_ ?_ <;> (intro hc; (try simp only [zhcs, reduceCtorEq] at hc); (try (exfalso; first | omega | contradiction | omega | exact absurd rfl hc | exact absurd (by decide) hc))))))
      all_goals ((with_reducible apply At.retB1 (B := [])); exact rfl; exact rfl; exact zml; exact zkp; exact ⟨rfl, rfl, rfl⟩)
  · rw [show decide (ris l) = true from decide_eq_true ⟨fun i hi => ha i (by omega), fun i hi => hb i (by omega)⟩]
    (repeat' (first | refine zss ?_ | refine zsM ?_ | ((with_reducible apply At.alloc (d := 4)); exact rfl; exact rfl; intro b4) | (refine zsp ?_ ?_ <;> (intro hc; (try simp only [zhcs, reduceCtorEq] at hc); (try (exfalso; first | omega | contradiction | omega | exact absurd rfl hc | exact absurd (by decide) hc))))))
    all_goals ((with_reducible apply At.retB1 (B := [])); exact rfl; exact rfl; exact zml; exact zkp; exact ⟨rfl, rfl, rfl⟩)

theorem marked {m : Mem} (lost mark : Int) (p : Option Addr) (c : Nat) (l : List Ev) (room : Int) (hr : 1 ≤ room) (hl : l.length ≤ 1000000) (sl0 : Sl m cells 4 p c l) :
    Rd Tryz.prog 71 #[rv lost mark p l.length c, .int .i64 room] m [] (.bool (decide (mkd lost mark l room))) := by
  unfold Rd
  by_cases h0 : lost = 0
  · rw [show decide (mkd lost mark l room) = decide (mark = 0) by unfold mkd; simp only [if_pos h0]]
    refine Ct.enterV (by rfl) Tryz.func71 rfl Tryz.ntmps71 rfl (fun w0 Rest => ?_)
    (repeat' (first | refine zss ?_ | refine zsM ?_ | ((with_reducible apply At.box (d := 2)); exact rfl; exact rfl; exact rfl; intro b2) | (refine zsp ?_ ?_ <;> (intro hc; (try simp only [zhcs, reduceCtorEq] at hc); (try (exfalso; first | (first | omega | exact absurd h0 hc) | contradiction | omega | exact absurd rfl hc | exact absurd (by decide) hc))))))
    all_goals ((with_reducible apply At.retB1 (B := [])); exact rfl; exact rfl; exact zml; exact zkp; exact ⟨rfl, rfl, rfl⟩)
  · by_cases h1 : (l.length : Int) = room
    · by_cases h2 : 0 ≤ mark
      · rw [show decide (mkd lost mark l room) = decide (mark < (l[0]!).T) by unfold mkd; simp only [if_neg h0, h1, h2, true_and]]
        refine Ct.enterV (by rfl) Tryz.func71 rfl Tryz.ntmps71 rfl (fun w0 Rest => ?_)
        (repeat' (first | refine zss ?_ | ((first | (with_reducible first | apply At.val | apply AtQ.val)); (exact pr_fieldAddr_at (k := 0 * 4) (by rfl) (by rfl)); exact rfl) | refine zsM ?_ | ((with_reducible apply At.box (d := 2)); exact rfl; exact rfl; exact rfl; intro b2) | (refine zsp ?_ ?_ <;> (intro hc; (try simp only [zhcs, reduceCtorEq] at hc); (try (exfalso; first | (first | omega | exact absurd hc h0) | contradiction | omega | exact absurd rfl hc | exact absurd (by decide) hc))))))
        all_goals ((with_reducible apply At.retB1 (B := [])); exact rfl; exact rfl; exact zml; exact zkp; exact ⟨rfl, rfl, rfl⟩)
      · rw [show decide (mkd lost mark l room) = false from decide_eq_false (by unfold mkd; rw [if_neg h0]; exact fun h => h2 h.2.1)]
        refine Ct.enterV (by rfl) Tryz.func71 rfl Tryz.ntmps71 rfl (fun w0 Rest => ?_)
        (repeat' (first | refine zss ?_ | ((first | (with_reducible first | apply At.val | apply AtQ.val)); (exact pr_fieldAddr_at (k := 0 * 4) (by rfl) (by rfl)); exact rfl) | refine zsM ?_ | ((with_reducible apply At.box (d := 2)); exact rfl; exact rfl; exact rfl; intro b2) | (refine zsp ?_ ?_ <;> (intro hc; (try simp only [zhcs, reduceCtorEq] at hc); (try (exfalso; first | (first | omega | exact absurd hc h0) | contradiction | omega | exact absurd rfl hc | exact absurd (by decide) hc))))))
        all_goals ((with_reducible apply At.retB1 (B := [])); exact rfl; exact rfl; exact zml; exact zkp; exact ⟨rfl, rfl, rfl⟩)
    · rw [show decide (mkd lost mark l room) = false from decide_eq_false (by unfold mkd; rw [if_neg h0]; exact fun h => h1 h.1)]
      refine Ct.enterV (by rfl) Tryz.func71 rfl Tryz.ntmps71 rfl (fun w0 Rest => ?_)
      (repeat' (first | refine zss ?_ | ((first | (with_reducible first | apply At.val | apply AtQ.val)); (exact pr_fieldAddr_at (k := 0 * 4) (by rfl) (by rfl)); exact rfl) | refine zsM ?_ | ((with_reducible apply At.box (d := 2)); exact rfl; exact rfl; exact rfl; intro b2) | (refine zsp ?_ ?_ <;> (intro hc; (try simp only [zhcs, reduceCtorEq] at hc); (try (exfalso; first | (first | omega | exact absurd hc h0) | contradiction | omega | exact absurd rfl hc | exact absurd (by decide) hc))))))
      all_goals ((with_reducible apply At.retB1 (B := [])); exact rfl; exact rfl; exact zml; exact zkp; exact ⟨rfl, rfl, rfl⟩)
theorem check {m : Mem} (lost mark : Int) (p : Option Addr) (c : Nat) (l : List Ev) (room : Int) (hl : l.length ≤ 1000000) (sl0 : Sl m cells 4 p c l) :
    Rd Tryz.prog 47 #[rv lost mark p l.length c, .int .i64 room] m [] (.int .i64 (chkR lost mark l room)) := by
  unfold Rd
  by_cases h0 : bnd lost l room
  · have hk : ∀ m', m.le m' → Rd Tryz.prog 70 #[.slice p l.length c] m' [] (.bool (decide (ris l))) := fun m' hm => rising p c l hl (sl0.mono hm)
    have hj : ∀ m', m.le m' → Rd Tryz.prog 71 #[rv lost mark p l.length c, .int .i64 room] m' [] (.bool (decide (mkd lost mark l room))) := fun m' hm => marked lost mark p c l room h0.1 hl (sl0.mono hm)
    have g0 := h0
    obtain ⟨g1, g2, g3, g4, g5⟩ := g0
    by_cases h1 : ris l
    · rw [decide_eq_true h1] at hk
      by_cases h2 : mkd lost mark l room
      · rw [decide_eq_true h2] at hj
        rw [show chkR lost mark l room = 0 from if_pos ⟨h0, h1, h2⟩]
        refine Ct.enterV (by rfl) Tryz.func47 rfl Tryz.ntmps47 rfl (fun w0 Rest => ?_)
        (repeat' (first | refine zss ?_ | refine zsM ?_ | ((with_reducible first | apply AtM1.cr | apply AtQ.cr | apply At.cr); exact rfl; exact rfl; exact fun _ hmm => hk _ hmm; exact ztk; kernel_rfl) | ((with_reducible first | apply AtM1.cr | apply AtQ.cr | apply At.cr); exact rfl; exact rfl; exact fun _ hmm => hj _ hmm; exact ztk; kernel_rfl) | ((with_reducible apply At.box (d := 2)); exact rfl; exact rfl; exact rfl; intro b2) | (refine zsp ?_ ?_ <;> (intro hc; (try simp only [zhcs, reduceCtorEq] at hc); (try (exfalso; first | omega | contradiction | omega | exact absurd rfl hc | exact absurd (by decide) hc))))))
        all_goals ((with_reducible apply At.retB1 (B := [])); exact rfl; exact rfl; exact zml; exact zkp; exact ⟨rfl, rfl, rfl⟩)
      · rw [decide_eq_false h2] at hj
        rw [show chkR lost mark l room = 2 from if_neg (fun h => h2 h.2.2)]
        refine Ct.enterV (by rfl) Tryz.func47 rfl Tryz.ntmps47 rfl (fun w0 Rest => ?_)
        (repeat' (first | refine zss ?_ | refine zsM ?_ | ((with_reducible first | apply AtM1.cr | apply AtQ.cr | apply At.cr); exact rfl; exact rfl; exact fun _ hmm => hk _ hmm; exact ztk; kernel_rfl) | ((with_reducible first | apply AtM1.cr | apply AtQ.cr | apply At.cr); exact rfl; exact rfl; exact fun _ hmm => hj _ hmm; exact ztk; kernel_rfl) | ((with_reducible apply At.box (d := 2)); exact rfl; exact rfl; exact rfl; intro b2) | (refine zsp ?_ ?_ <;> (intro hc; (try simp only [zhcs, reduceCtorEq] at hc); (try (exfalso; first | omega | contradiction | omega | exact absurd rfl hc | exact absurd (by decide) hc))))))
        all_goals ((with_reducible apply At.retB1 (B := [])); exact rfl; exact rfl; exact zml; exact zkp; exact ⟨rfl, rfl, rfl⟩)
    · rw [decide_eq_false h1] at hk
      rw [show chkR lost mark l room = 2 from if_neg (fun h => h1 h.2.1)]
      refine Ct.enterV (by rfl) Tryz.func47 rfl Tryz.ntmps47 rfl (fun w0 Rest => ?_)
      (repeat' (first | refine zss ?_ | refine zsM ?_ | ((with_reducible first | apply AtM1.cr | apply AtQ.cr | apply At.cr); exact rfl; exact rfl; exact fun _ hmm => hk _ hmm; exact ztk; kernel_rfl) | ((with_reducible apply At.box (d := 2)); exact rfl; exact rfl; exact rfl; intro b2) | (refine zsp ?_ ?_ <;> (intro hc; (try simp only [zhcs, reduceCtorEq] at hc); (try (exfalso; first | omega | contradiction | omega | exact absurd rfl hc | exact absurd (by decide) hc))))))
      all_goals ((with_reducible apply At.retB1 (B := [])); exact rfl; exact rfl; exact zml; exact zkp; exact ⟨rfl, rfl, rfl⟩)
  · rw [show chkR lost mark l room = 2 from if_neg (fun h => h0 h.1)]
    unfold bnd at h0
    refine Ct.enterV (by rfl) Tryz.func47 rfl Tryz.ntmps47 rfl (fun w0 Rest => ?_)
    (repeat' (first | refine zss ?_ | refine zsM ?_ | ((with_reducible apply At.box (d := 2)); exact rfl; exact rfl; exact rfl; intro b2) | (refine zsp ?_ ?_ <;> (intro hc; (try simp only [zhcs, reduceCtorEq] at hc); (try (exfalso; first | omega | contradiction | omega | exact absurd rfl hc | exact absurd (by decide) hc))))))
    all_goals ((with_reducible apply At.retB1 (B := [])); exact rfl; exact rfl; exact zml; exact zkp; exact ⟨rfl, rfl, rfl⟩)
theorem last {m : Mem} (lost mark : Int) (p : Option Addr) (c : Nat) (l : List Ev) (hl : l.length ≤ 1000000) (sl0 : Sl m cells 4 p c l) :
    Rd Tryz.prog 73 #[rv lost mark p l.length c] m [] (.tuple #[(lastV l).v, .int .i64 (lastE l)]) := by
  unfold Rd
  by_cases h : l.length = 0
  · rw [show lastV l = z from if_pos h, show lastE l = 3 from if_pos h]
    refine Ct.enterV (by rfl) Tryz.func73 rfl Tryz.ntmps73 rfl (fun w0 Rest => ?_)
    (repeat' (first | refine zss ?_ | refine zsM ?_ | ((with_reducible apply At.box (d := 1)); exact rfl; exact rfl; exact rfl; intro b1) | ((with_reducible apply At.alloc (d := 2)); exact rfl; exact rfl; intro b2) | (refine zsp ?_ ?_ <;> (intro hc; (try simp only [zhcs, reduceCtorEq] at hc); (try (exfalso; first | omega | contradiction | omega | exact absurd rfl hc | exact absurd (by decide) hc))))))
    all_goals ((with_reducible apply At.retV (B := [])); exact rfl; (repeat' (first | exact RVs.nil | (with_reducible apply RVs.cons) | exact rv_tmp (by rfl) | exact rv_cellN (by rfl) (by repeat constructor) (by rfl) (by rfl) (by rfl) | exact rv_cell1 (by rfl) (by repeat constructor) (by rfl) (by rfl))); exact zml; exact zkp; exact ⟨rfl, rfl, rfl⟩)
  · obtain ⟨j, hj⟩ : ∃ j, l.length - 1 = j := ⟨_, rfl⟩
    have hw : IntKind.wrap .i64 ((l.length : Int) - 1) = (j : Int) := by rw [show (l.length : Int) - 1 = (j : Int) by omega]; exact IntWalk.i64_in _ (by omega)
    rw [show lastV l = l[j]! by unfold lastV; rw [if_neg h, hj], show lastE l = 0 from if_neg h]
    refine Ct.enterV (by rfl) Tryz.func73 rfl Tryz.ntmps73 rfl (fun w0 Rest => ?_)
    (repeat' (first | refine zss ?_ | ((first | (with_reducible first | apply At.val | apply AtQ.val)); (exact pr_sub (by rfl) (by rfl) hw); exact rfl) | refine zsM ?_ | ((with_reducible apply At.box (d := 1)); exact rfl; exact rfl; exact rfl; intro b1) | ((with_reducible apply At.alloc (d := 2)); exact rfl; exact rfl; intro b2) | (refine zsp ?_ ?_ <;> (intro hc; (try simp only [zhcs, reduceCtorEq] at hc); (try (exfalso; first | omega | contradiction | omega | exact absurd rfl hc | exact absurd (by decide) hc))))))
    all_goals ((with_reducible apply At.retV (B := [])); exact rfl; (repeat' (first | exact RVs.nil | (with_reducible apply RVs.cons) | exact rv_tmp (by rfl) | exact rv_cellN (by rfl) (by repeat constructor) (by rfl) (by rfl) (by rfl) | exact rv_cell1 (by rfl) (by repeat constructor) (by rfl) (by rfl))); exact zml; exact zkp; exact ⟨rfl, rfl, rfl⟩)
def eqR (r o : Rw) : Bool := decide (r.lost = o.lost ∧ r.mark = o.mark ∧ r.l = o.l)
theorem eqR_1 {r o : Rw} (h : ¬ r.lost = o.lost) : eqR r o = false := decide_eq_false fun e => h e.1
theorem eqR_2 {r o : Rw} (h : ¬ r.mark = o.mark) : eqR r o = false := decide_eq_false fun e => h e.2.1
theorem eqR_3 {r o : Rw} (h1 : r.lost = o.lost) (h2 : r.mark = o.mark) : eqR r o = decide (r.l = o.l) := by unfold eqR; simp [h1, h2]
end Raw
end Go.Proofs.YtjdlnckifhifbaaGreat
/- The order of texts. -/
set_option linter.unusedSimpArgs false
set_option linter.unusedVariables false
set_option linter.unusedSectionVars false
set_option maxRecDepth 20000
namespace Go.J
open Go
abbrev ltB : List UInt8 → List UInt8 → Bool := Op.bytesLess
theorem u8_lt_irrefl (a : UInt8) : ¬ a < a := by rw [UInt8.lt_iff_toNat_lt]; omega
theorem u8_lt_trans {a b c : UInt8} (h : a < b) (k : b < c) : a < c := by rw [UInt8.lt_iff_toNat_lt] at *; omega
theorem u8_tri (a b : UInt8) : a < b ∨ a = b ∨ b < a := by
  rw [UInt8.lt_iff_toNat_lt, UInt8.lt_iff_toNat_lt]
  rcases Nat.lt_trichotomy a.toNat b.toNat with h | h | h
  · exact .inl h
  · exact .inr (.inl (UInt8.toNat_inj.1 h))
  · exact .inr (.inr h)
theorem ltB_cons (a b : UInt8) (x y : List UInt8) : ltB (a :: x) (b :: y) = true ↔ a < b ∨ (a = b ∧ ltB x y = true) := by
  simp [ltB, Op.bytesLess]
theorem ltB_nil (x : List UInt8) : ltB x [] = false := by cases x <;> rfl
theorem ltB_nil_cons (b : UInt8) (y : List UInt8) : ltB [] (b :: y) = true := rfl
theorem ltB_irrefl : ∀ x : List UInt8, ltB x x = false
  | [] => rfl
  | a :: x => by
    have := ltB_irrefl x
    cases h : ltB (a :: x) (a :: x) with
    | false => rfl
    | true => rcases (ltB_cons a a x x).1 h with h | ⟨_, h⟩
              · exact absurd h (u8_lt_irrefl a)
              · rw [this] at h; cases h
theorem ltB_trans : ∀ {x y z : List UInt8}, ltB x y = true → ltB y z = true → ltB x z = true
  | x, [], _, h, _ => by rw [ltB_nil] at h; cases h
  | _, _ :: _, [], _, k => by rw [ltB_nil] at k; cases k
  | [], _ :: _, _ :: _, _, _ => rfl
  | a :: x, b :: y, c :: z, h, k => by
    rw [ltB_cons] at h k ⊢
    rcases h with h | ⟨rfl, h⟩
    · rcases k with k | ⟨rfl, k⟩
      · exact .inl (u8_lt_trans h k)
      · exact .inl h
    · rcases k with k | ⟨rfl, k⟩
      · exact .inl k
      · exact .inr ⟨rfl, ltB_trans h k⟩
theorem ltB_tri : ∀ x y : List UInt8, ltB x y = true ∨ x = y ∨ ltB y x = true
  | [], [] => .inr (.inl rfl)
  | [], _ :: _ => .inl rfl
  | _ :: _, [] => .inr (.inr rfl)
  | a :: x, b :: y => by
    rw [ltB_cons, ltB_cons]
    rcases u8_tri a b with h | rfl | h
    · exact .inl (.inl h)
    · rcases ltB_tri x y with h | rfl | h
      · exact .inl (.inr ⟨rfl, h⟩)
      · exact .inr (.inl rfl)
      · exact .inr (.inr (.inr ⟨rfl, h⟩))
    · exact .inr (.inr (.inl h))
theorem ltB_asymm {x y : List UInt8} (h : ltB x y = true) : ltB y x = false := by
  cases k : ltB y x with
  | false => rfl
  | true => have := ltB_trans h k; rw [ltB_irrefl] at this; cases this
theorem ltB_ne {x y : List UInt8} (h : ltB x y = true) : x ≠ y := fun e => by subst e; rw [ltB_irrefl] at h; cases h
theorem gtB (x y : List UInt8) : (!(ltB x y || x == y)) = ltB y x := by
  rcases ltB_tri x y with h | rfl | h
  · rw [h, ltB_asymm h]; rfl
  · rw [ltB_irrefl]; simp
  · rw [h, ltB_asymm h]
    have : (x == y) = false := by simpa using (ltB_ne h).symm
    rw [this]; rfl
/-- what begins so does not come ahead of it -/
theorem pre_not_lt : ∀ {f s : List UInt8}, f <+: s → ltB s f = false
  | [], s, _ => ltB_nil s
  | a :: f, [], h => by cases (List.prefix_nil.1 h)
  | a :: f, b :: s, h => by
    rw [List.cons_prefix_cons] at h
    obtain ⟨rfl, h⟩ := h
    have ih := pre_not_lt h
    cases k : ltB (a :: s) (a :: f) with
    | false => rfl
    | true => rcases (ltB_cons a a s f).1 k with k | ⟨_, k⟩
              · exact absurd k (u8_lt_irrefl a)
              · rw [ih] at k; cases k
/-- where one begins so no more, none behind it does -/
theorem pre_gone : ∀ {f s t : List UInt8}, ltB s f = false → ¬ f <+: s → ltB s t = true → ¬ f <+: t
  | [], s, _, _, h, _ => absurd (List.nil_prefix) h
  | a :: f, [], _, h, _, _ => by cases h
  | a :: f, b :: s, [], _, _, h => by rw [ltB_nil] at h; cases h
  | a :: f, b :: s, c :: t, h1, h2, h3 => fun h4 => by
    rw [List.cons_prefix_cons] at h2 h4
    obtain ⟨rfl, h4⟩ := h4
    have h1' : ¬ (b < a ∨ (b = a ∧ ltB s f = true)) := fun e => by rw [(ltB_cons b a s f).2 e] at h1; cases h1
    rcases (ltB_cons b a s t).1 h3 with k3 | ⟨rfl, k3⟩
    · exact h1' (.inl k3)
    · refine pre_gone (f := f) (s := s) (t := t) ?_ (fun e => h2 ⟨rfl, e⟩) k3 h4
      cases k : ltB s f with
      | false => rfl
      | true => exact absurd (.inr ⟨rfl, k⟩) h1'
section
variable {P : Program} {n : Nat} {F : Fr} {C : World → Prop} {x y : Operand} {p q : List UInt8} {t u : TypeId} {r : Bool}
theorem run_strcmp (op : BinOp) (hop : op = .lss ∨ op = .leq ∨ op = .gtr ∨ op = .geq) {v : Bool} (hx : ev F x = some (.string (str p))) (hy : ev F y = some (.string (str q)))
    (hv : (Op.stringOp op (str p) (str q)) = pure (.bool v)) : PR P n F C (.binOp op t x y u) (.bool v) := fun _ _ _ _ _ a w ha _ => by
  have hg : ∀ w, (eqGuard op t x y (.string (str p)) (.string (str q))).run P w = .ok () w := fun w => by rcases hop with rfl | rfl | rfl | rfl <;> rfl
  have hb : binOp op t (.string (str p)) (.string (str q)) = Op.stringOp op (str p) (str q) := by rcases hop with rfl | rfl | rfl | rfl <;> rfl
  simp only [execOp, ha.ev hx, ha.ev hy, hb, Sem.run_bind, hg, Result.andThen]
  rw [hv]
  rfl
theorem pr_strlss (hx : ev F x = some (.string (str p))) (hy : ev F y = some (.string (str q))) (h : ltB p q = r) : PR P n F C (.binOp .lss t x y u) (.bool r) :=
  run_strcmp .lss (.inl rfl) hx hy (by subst h; simp [Op.stringOp, str])
theorem pr_strgtr (hx : ev F x = some (.string (str p))) (hy : ev F y = some (.string (str q))) (h : ltB q p = r) : PR P n F C (.binOp .gtr t x y u) (.bool r) :=
  run_strcmp .gtr (.inr (.inr (.inl rfl))) hx hy (by subst h; rw [← gtB]; simp [Op.stringOp, str])
theorem pr_strleq (hx : ev F x = some (.string (str p))) (hy : ev F y = some (.string (str q))) (h : ltB q p = r) : PR P n F C (.binOp .leq t x y u) (.bool (!r)) :=
  run_strcmp .leq (.inr (.inl rfl)) hx hy (by subst h; rw [← gtB, Bool.not_not]; simp [Op.stringOp, str])
theorem pr_strgeq (hx : ev F x = some (.string (str p))) (hy : ev F y = some (.string (str q))) (h : ltB p q = r) : PR P n F C (.binOp .geq t x y u) (.bool (!r)) :=
  run_strcmp .geq (.inr (.inr (.inr rfl))) hx hy (by subst h; simp [Op.stringOp, str])
end
end Go.J
/- Labels (plain): which are right, what a name has, their order. -/
set_option linter.unusedSimpArgs false
set_option linter.unusedVariables false
set_option linter.unusedSectionVars false
set_option maxRecDepth 20000
set_option maxHeartbeats 4000000
namespace Go.Proofs.YtjdlnckifhifbaaGreat
open Go Go.J
/-- a label -/
structure Lab where
  (n v : List UInt8)
deriving DecidableEq, Inhabited
abbrev Lab.val (x : Lab) : Value := .agg #[.string (str x.n), .string (str x.v)]
namespace Lb
abbrev cells : Lab → List Value := fun x => [.string (str x.n), .string (str x.v)]
instance : Fl cells 2 := ⟨fun _ => rfl, fun _ v h => by simp at h; rcases h with rfl | rfl <;> rfl, by decide⟩
def dig (c : UInt8) : Bool := decide (48 ≤ bI c ∧ bI c ≤ 57)
def sgn (c : UInt8) : Bool := decide ((97 ≤ bI c ∧ bI c ≤ 122) ∨ (65 ≤ bI c ∧ bI c ≤ 90) ∨ (48 ≤ bI c ∧ bI c ≤ 57) ∨ bI c = 95)
def nameB (s : List UInt8) : Bool := decide (1 ≤ s.length ∧ s.length ≤ 64 ∧ dig s[0]! = false ∧ ∀ i, i < s.length → sgn s[i]! = true)
def okAt (l : List Lab) (i : Nat) : Bool := decide (nameB l[i]!.n = true ∧ l[i]!.v.length ≤ 128 ∧ (0 < i → ltB l[i - 1]!.n l[i]!.n = true))
def tot (l : List Lab) : Nat := (l.map fun x => x.n.length + x.v.length).sum
def right (l : List Lab) : Prop := 1 ≤ l.length ∧ l.length ≤ 16 ∧ (∀ i, i < l.length → okAt l i = true) ∧ tot l ≤ 256
instance (l : List Lab) : Decidable (right l) := by unfold right; infer_instance
def chk (l : List Lab) : Int := if right l then 0 else 8
def few (l : List Lab) : Prop := l.length ≤ 40 ∧ ∀ i, i < l.length → l[i]!.n.length ≤ 1000 ∧ l[i]!.v.length ≤ 1000
instance (l : List Lab) : Decidable (few l) := by unfold few; infer_instance
def val (l : List Lab) (t : List UInt8) : List UInt8 := match l.find? fun x => decide (x.n = t) with
  | some x => x.v
  | none => []
theorem or_letter : ∀ n : Nat, n < 256 → (decide (97 ≤ bits .or .u8 (n : Int) 32 ∧ bits .or .u8 (n : Int) 32 ≤ 122)) = decide ((97 ≤ (n : Int) ∧ (n : Int) ≤ 122) ∨ (65 ≤ (n : Int) ∧ (n : Int) ≤ 90)) := by decide +kernel
theorem or_let (c : UInt8) : (97 ≤ bits .or .u8 (bI c) 32 ∧ bits .or .u8 (bI c) 32 ≤ 122) ↔ ((97 ≤ bI c ∧ bI c ≤ 122) ∨ (65 ≤ bI c ∧ bI c ≤ 90)) := by
  have := or_letter c.toNat c.toNat_lt
  rwa [decide_eq_decide] at this
theorem lab_ext {a b : Lab} (h1 : a.n = b.n) (h2 : a.v = b.v) : a = b := by cases a; cases b; cases h1; cases h2; rfl
theorem and_lab (a b : Lab) : andL [decide (str a.n = str b.n), decide (str a.v = str b.v)] = decide (a = b) := by
  by_cases h : a = b
  · subst h; simp [andL_cons, andL_nil]
  · rw [decide_eq_false h]
    cases hb : andL [decide (str a.n = str b.n), decide (str a.v = str b.v)] with
    | false => rfl
    | true =>
      simp only [andL_cons, andL_nil, Bool.and_eq_true, decide_eq_true_eq] at hb
      exact absurd (lab_ext (str_inj.1 hb.1) (str_inj.1 hb.2.1)) h
theorem pr_lbne {n : Nat} {F : Fr} {C : World → Prop} {x y : Operand} {u : TypeId} {a b : Lab} (hx : ev F x = some a.val) (hy : ev F y = some b.val) : PR Tryz.prog n F C (.binOp .neq 77 x y u) (.bool (!decide (a = b))) := by
  rw [← and_lab]
  exact pr_aggne2 hx hy (by rfl) (by kernel_rfl) (by kernel_rfl) (by rfl)
theorem pr_lbeq {n : Nat} {F : Fr} {C : World → Prop} {x y : Operand} {u : TypeId} {a b : Lab} (hx : ev F x = some a.val) (hy : ev F y = some b.val) : PR Tryz.prog n F C (.binOp .eql 77 x y u) (.bool (decide (a = b))) := by
  rw [← and_lab]
  exact pr_aggeq2 hx hy (by rfl) (by kernel_rfl) (by kernel_rfl) (by rfl)
theorem tot_take {l : List Lab} {i : Nat} (h : i < l.length) : tot (l.take (i + 1)) = tot (l.take i) + (l[i]!.n.length + l[i]!.v.length) := by
  rw [Ls.take_snoc h]; simp [tot]
theorem tot_take_le (l : List Lab) (i : Nat) : tot (l.take i) ≤ tot l := by
  conv => rhs; rw [← List.take_append_drop i l]
  unfold tot
  rw [List.map_append, List.sum_append]
  omega
theorem bad_at {l : List Lab} {i : Nat} (hi : i < l.length) (h : ¬ (nameB l[i]!.n = true ∧ l[i]!.v.length ≤ 128 ∧ (0 < i → ltB l[i - 1]!.n l[i]!.n = true))) : chk l = 8 := by
  unfold chk
  rw [if_neg fun k => h (of_decide_eq_true (k.2.2.1 i hi))]
theorem bad_tot {l : List Lab} {i : Nat} (h : 256 < tot (l.take i)) : chk l = 8 := by
  unfold chk
  have := tot_take_le l i
  rw [if_neg fun k => by have := k.2.2.2; omega]
theorem bad_len {l : List Lab} (h : l.length < 1 ∨ 16 < l.length) : chk l = 8 := by
  unfold chk
  rw [if_neg fun k => by have := k.1; have := k.2.1; omega]
theorem chk_ok {l : List Lab} (h : right l) : chk l = 0 := if_pos h
theorem chk_right {l : List Lab} : chk l = 0 ↔ right l := by
  unfold chk; split
  · simp [*]
  · simp [*]
theorem val_none {l : List Lab} {t : List UInt8} (h : ∀ i, i < l.length → l[i]!.n ≠ t) : val l t = [] := by
  unfold val
  rw [List.find?_eq_none.2]
  intro x hx
  obtain ⟨i, hi, rfl⟩ := List.mem_iff_getElem.1 hx
  have := h i hi
  rw [getElem!_pos l i hi] at this
  simpa using this
theorem val_at : ∀ {l : List Lab} {t : List UInt8} {i : Nat}, i < l.length → l[i]!.n = t → (∀ k, k < i → l[k]!.n ≠ t) → val l t = l[i]!.v
  | [], _, _, h, _, _ => absurd h (Nat.not_lt_zero _)
  | x :: l, t, 0, _, h, _ => by unfold val; rw [List.find?_cons, show decide (x.n = t) = true from decide_eq_true h]; rfl
  | x :: l, t, i + 1, hi, h, hk => by
    have h0 : x.n ≠ t := hk 0 (by omega)
    have := val_at (l := l) (t := t) (i := i) (by simpa using hi) (by simpa using h) (fun k hk' => by simpa using hk (k + 1) (by omega))
    unfold val at this ⊢
    rw [List.find?_cons, show decide (x.n = t) = false from decide_eq_false h0]
    simpa using this
theorem nameB_no {s : List UInt8} (h : ¬ (1 ≤ s.length ∧ s.length ≤ 64 ∧ dig s[0]! = false ∧ ∀ i, i < s.length → sgn s[i]! = true)) : nameB s = false := decide_eq_false h
end Lb
end Go.Proofs.YtjdlnckifhifbaaGreat

/- TopFine: each kept window counts its events, and is what the tier below comes to. No condition. -/
import Derived.Test.YtojchlcbbjpkpaaT7FZ11
/- TopFine: each kept window counts its events, and is what the tier below comes to. No condition. -/
set_option linter.unusedSimpArgs false
set_option linter.unusedVariables false
set_option linter.unusedSectionVars false
set_option maxRecDepth 20000
set_option maxHeartbeats 4000000
namespace Go.Proofs.Ytojchlcbbjpkpaa
open Go Go.J
attribute [local irreducible] At AtQ AtM AtM1 PR Ct Pu Rd Res.blk Res.own Res.ex RVs RV
namespace T7
open Slot Win Ti Fo Gr
structure FA where
  (k : Nat) (m : Mem)
structure FC where
  (i n : Nat)
theorem wrap_nn {x : Int} (h : 0 ≤ x ∧ x ≤ 9223372036854775807) : IntKind.wrap .i64 x = x := IntWalk.i64_in _ (by omega)
theorem quo_nn {x w : Int} (h : 0 ≤ x ∧ x ≤ 9223372036854775807) (hw : 1 ≤ w) : IntKind.wrap .i64 (x.tdiv w) = x / w := by
  have h2 := Int.ediv_nonneg h.1 (show 0 ≤ w by omega)
  have h3 := Int.ediv_le_self w h.1
  rw [Int.tdiv_eq_ediv_of_nonneg h.1]
  exact wrap_nn (by omega)
theorem bd_f {x W w f L : Int} (hx : 0 ≤ x) (hlt : x < L / W) (hW : W = w * f) (hw : 1 ≤ w) (hf : 1 ≤ f) (hL : 0 ≤ L ∧ L ≤ 35184372088831) : (0 ≤ x * f ∧ x * f ≤ 35184372088831) ∧ (0 ≤ (x + 1) * f ∧ (x + 1) * f ≤ 35184372088831) ∧ (0 ≤ L / w ∧ L / w ≤ 35184372088831) := by
  subst hW
  rw [div_div (by omega)] at hlt
  have h1 := Int.ediv_nonneg hL.1 (show 0 ≤ w by omega)
  have h2 := Int.ediv_le_self w hL.1
  have h3 := Int.ediv_mul_le (L / w) (show f ≠ 0 by omega)
  have h4 : (x + 1) * f ≤ L / w / f * f := Int.mul_le_mul_of_nonneg_right (by omega) (by omega)
  have h5 := Int.mul_nonneg hx (show 0 ≤ f by omega)
  have h6 := Int.mul_nonneg (show 0 ≤ x + 1 by omega) (show 0 ≤ f by omega)
  have h7 : x * f ≤ (x + 1) * f := Int.mul_le_mul_of_nonneg_right (by omega) (by omega)
  omega
set_option maxRecDepth 100000 in
theorem fineL {m : Mem} (K : Cfg) (p : Option Addr) (c : Nat) (l : List Ev) (hV : ∀ e ∈ l, e.V < 18446744073709551616) (sl0 : Sl m Ev.cells 4 p c l) :
    Ct Try.prog 3 #[K.v, .slice p l.length c] m [] (fun v m' B => v = .bool true ∧ B = []) := by
  have hlv := fun (m' : Mem) (h : m.le m') => begins7 (m := m')
  have ke := fun (m : Mem) => empty (m := m) K
  have kc := fun (m' : Mem) (t : TT) (T : L3) (n : Int) (h : t.Ok m' ∧ t.ls = T) (hn : Se.fchk K T.a T.b T.c = n) => chk3 (m := m') K t h.1 _ h.2 n hn
  by_cases h1 : Fo.fk K (emp K)
  rotate_left
  · have h1' : Se.fchk K (emp K).a (emp K).b (emp K).c = 2 := if_neg h1
    refine Ct.enterV (by rfl) Try.func3 rfl Try.ntmps3 rfl (fun w0 Rest => ?_)
    (repeat' (first | refine zss ?_ | refine zsM ?_ | ((with_reducible first | apply AtM1.cr | apply AtQ.cr | apply At.cr); exact rfl; exact rfl; exact fun _ hmm => hlv _ zml; exact ztk; kernel_rfl) | ((with_reducible first | apply At.c1 | apply At.c0); exact rfl; exact rfl; exact ke _; exact ztk; kernel_rfl; rintro v' m' B' hm' ⟨rfl, t0, rfl, ht0, ht1⟩; (try replace sl0 := sl0.mono hm'); (try replace sl1 := sl1.mono hm'); (try (have hq0 : hm' = Mem.le_refl _ := rfl; clear hq0 hm'))) | ((with_reducible first | apply AtM1.cr | apply AtQ.cr | apply At.cr); exact rfl; exact rfl; exact fun _ hmm => kc _ t0 _ 2 ⟨ht0.mono hmm, ht1⟩ h1'; exact ztk; kernel_rfl) | ((with_reducible apply At.box (d := 2)); exact rfl; exact rfl; exact rfl; intro b2) | ((with_reducible apply At.alloc (d := 5)); exact rfl; exact rfl; intro b5) | ((with_reducible apply At.alloc (d := 6)); exact rfl; exact rfl; intro b6) | ((with_reducible apply At.alloc (d := 8)); exact rfl; exact rfl; intro b8) | ((with_reducible apply At.alloc (d := 12)); exact rfl; exact rfl; intro b12) | ((with_reducible apply At.alloc (d := 15)); exact rfl; exact rfl; intro b15) | ((with_reducible apply At.alloc (d := 17)); exact rfl; exact rfl; intro b17) | (refine zsp ?_ ?_ <;> (intro hc; (try simp only [zhcs, reduceCtorEq] at hc); (try (exfalso; first | (first | omega | exact absurd rfl hc | exact absurd hc (by decide)) | contradiction | omega | exact absurd rfl hc | exact absurd (by decide) hc))))))
    all_goals ((with_reducible apply At.retB1 (B := [])); exact rfl; exact rfl; exact zml; exact zkp; exact ⟨rfl, rfl⟩)
  have h1' : Se.fchk K (emp K).a (emp K).b (emp K).c = 0 := if_pos h1
  by_cases h2 : sml (emp K)
  rotate_left
  · have ks := fun (t : TT) (h : t.ls = emp K) => sml3 t _ h 0 (if_neg h2)
    refine Ct.enterV (by rfl) Try.func3 rfl Try.ntmps3 rfl (fun w0 Rest => ?_)
    (repeat' (first | refine zss ?_ | refine zsM ?_ | ((with_reducible first | apply AtM1.cr | apply AtQ.cr | apply At.cr); exact rfl; exact rfl; exact fun _ hmm => hlv _ zml; exact ztk; kernel_rfl) | ((with_reducible first | apply At.c1 | apply At.c0); exact rfl; exact rfl; exact ke _; exact ztk; kernel_rfl; rintro v' m' B' hm' ⟨rfl, t0, rfl, ht0, ht1⟩; (try replace sl0 := sl0.mono hm'); (try replace sl1 := sl1.mono hm'); (try (have hq0 : hm' = Mem.le_refl _ := rfl; clear hq0 hm'))) | ((with_reducible first | apply AtM1.cr | apply AtQ.cr | apply At.cr); exact rfl; exact rfl; exact fun _ hmm => kc _ t0 _ 0 ⟨ht0.mono hmm, ht1⟩ h1'; exact ztk; kernel_rfl) | ((with_reducible first | apply AtM1.callp | apply AtQ.callp | apply At.callp); kernel_rfl; exact rfl; exact rfl; exact ks t0 ht1) | ((with_reducible apply At.box (d := 2)); exact rfl; exact rfl; exact rfl; intro b2) | ((with_reducible apply At.alloc (d := 5)); exact rfl; exact rfl; intro b5) | ((with_reducible apply At.alloc (d := 6)); exact rfl; exact rfl; intro b6) | ((with_reducible apply At.alloc (d := 8)); exact rfl; exact rfl; intro b8) | ((with_reducible apply At.alloc (d := 12)); exact rfl; exact rfl; intro b12) | ((with_reducible apply At.alloc (d := 15)); exact rfl; exact rfl; intro b15) | ((with_reducible apply At.alloc (d := 17)); exact rfl; exact rfl; intro b17) | (refine zsp ?_ ?_ <;> (intro hc; (try simp only [zhcs, reduceCtorEq] at hc); (try (exfalso; first | (first | omega | exact absurd rfl hc | exact absurd hc (by decide)) | contradiction | omega | exact absurd rfl hc | exact absurd (by decide) hc))))))
    all_goals ((with_reducible apply At.retB1 (B := [])); exact rfl; exact rfl; exact zml; exact zkp; exact ⟨rfl, rfl⟩)
  have ks := fun (t : TT) (h : t.ls = emp K) => sml3 t _ h 1 (if_pos h2)
  by_cases h3 : l.length ≤ 60
  rotate_left
  · refine Ct.enterV (by rfl) Try.func3 rfl Try.ntmps3 rfl (fun w0 Rest => ?_)
    (repeat' (first | refine zss ?_ | refine zsM ?_ | ((with_reducible first | apply AtM1.cr | apply AtQ.cr | apply At.cr); exact rfl; exact rfl; exact fun _ hmm => hlv _ zml; exact ztk; kernel_rfl) | ((with_reducible first | apply At.c1 | apply At.c0); exact rfl; exact rfl; exact ke _; exact ztk; kernel_rfl; rintro v' m' B' hm' ⟨rfl, t0, rfl, ht0, ht1⟩; (try replace sl0 := sl0.mono hm'); (try replace sl1 := sl1.mono hm'); (try (have hq0 : hm' = Mem.le_refl _ := rfl; clear hq0 hm'))) | ((with_reducible first | apply AtM1.cr | apply AtQ.cr | apply At.cr); exact rfl; exact rfl; exact fun _ hmm => kc _ t0 _ 0 ⟨ht0.mono hmm, ht1⟩ h1'; exact ztk; kernel_rfl) | ((with_reducible first | apply AtM1.callp | apply AtQ.callp | apply At.callp); kernel_rfl; exact rfl; exact rfl; exact ks t0 ht1) | ((with_reducible apply At.box (d := 2)); exact rfl; exact rfl; exact rfl; intro b2) | ((with_reducible apply At.alloc (d := 5)); exact rfl; exact rfl; intro b5) | ((with_reducible apply At.alloc (d := 6)); exact rfl; exact rfl; intro b6) | ((with_reducible apply At.alloc (d := 8)); exact rfl; exact rfl; intro b8) | ((with_reducible apply At.alloc (d := 12)); exact rfl; exact rfl; intro b12) | ((with_reducible apply At.alloc (d := 15)); exact rfl; exact rfl; intro b15) | ((with_reducible apply At.alloc (d := 17)); exact rfl; exact rfl; intro b17) | (refine zsp ?_ ?_ <;> (intro hc; (try simp only [zhcs, reduceCtorEq] at hc); (try (exfalso; first | (first | omega | exact absurd rfl hc | exact absurd hc (by decide)) | contradiction | omega | exact absurd rfl hc | exact absurd (by decide) hc))))))
    all_goals ((with_reducible apply At.retB1 (B := [])); exact rfl; exact rfl; exact zml; exact zkp; exact ⟨rfl, rfl⟩)
  have hl : l.length ≤ 1000000 := by omega
  have kf := fun (m' : Mem) (h : m.le m') => Cell.of_ (m := m') p c l hl hV (sl0.mono h)
  by_cases h4 : Mrg.chk l = 0
  rotate_left
  · have e4 : Cell.ofL l = (Cell.z, Mrg.chk l) := if_pos h4
    rw [e4] at kf
    generalize Mrg.chk l = n at *
    refine Ct.enterV (by rfl) Try.func3 rfl Try.ntmps3 rfl (fun w0 Rest => ?_)
    (repeat' (first | refine zss ?_ | refine zsM ?_ | ((with_reducible first | apply AtM1.cr | apply AtQ.cr | apply At.cr); exact rfl; exact rfl; exact fun _ hmm => hlv _ zml; exact ztk; kernel_rfl) | ((with_reducible first | apply At.c1 | apply At.c0); exact rfl; exact rfl; exact ke _; exact ztk; kernel_rfl; rintro v' m' B' hm' ⟨rfl, t0, rfl, ht0, ht1⟩; (try replace sl0 := sl0.mono hm'); (try replace sl1 := sl1.mono hm'); (try (have hq0 : hm' = Mem.le_refl _ := rfl; clear hq0 hm'))) | ((with_reducible first | apply AtM1.cr | apply AtQ.cr | apply At.cr); exact rfl; exact rfl; exact fun _ hmm => kc _ t0 _ 0 ⟨ht0.mono hmm, ht1⟩ h1'; exact ztk; kernel_rfl) | ((with_reducible first | apply AtM1.callp | apply AtQ.callp | apply At.callp); kernel_rfl; exact rfl; exact rfl; exact ks t0 ht1) | ((with_reducible first | apply At.c1 | apply At.c0); exact rfl; exact rfl; exact kf _ zml; exact ztk; kernel_rfl; rintro v' m' B' hm' ⟨rfl, rfl, rfl⟩; (try replace sl0 := sl0.mono hm'); (try replace sl1 := sl1.mono hm'); (try (have hq0 : hm' = Mem.le_refl _ := rfl; clear hq0 hm'))) | ((with_reducible apply At.box (d := 2)); exact rfl; exact rfl; exact rfl; intro b2) | ((with_reducible apply At.alloc (d := 5)); exact rfl; exact rfl; intro b5) | ((with_reducible apply At.alloc (d := 6)); exact rfl; exact rfl; intro b6) | ((with_reducible apply At.alloc (d := 8)); exact rfl; exact rfl; intro b8) | ((with_reducible apply At.alloc (d := 12)); exact rfl; exact rfl; intro b12) | ((with_reducible apply At.alloc (d := 15)); exact rfl; exact rfl; intro b15) | ((with_reducible apply At.alloc (d := 17)); exact rfl; exact rfl; intro b17) | (refine zsp ?_ ?_ <;> (intro hc; (try simp only [zhcs, reduceCtorEq] at hc); (try (exfalso; first | (first | omega | exact absurd rfl hc | exact absurd hc (by decide) | exact absurd hc h4) | contradiction | omega | exact absurd rfl hc | exact absurd (by decide) hc))))))
    all_goals ((with_reducible apply At.retB1 (B := [])); exact rfl; exact rfl; exact zml; exact zkp; exact ⟨rfl, rfl⟩)
  have e4 : Cell.ofL l = (l.foldl Cell.add Cell.z, 0) := if_neg (fun k => k h4)
  have hofs : ∃ x, Cell.ofL l = (x, 0) := ⟨_, e4⟩
  obtain ⟨x, hx⟩ := hofs
  rw [hx] at kf
  have hG := good_of hV h4
  have kst := fun (m' : Mem) (h : m.le m') => stacked (m := m') K p c l h1.1 hG hl (sl0.mono h)
  clear e4 hx
  refine Ct.enterV (by rfl) Try.func3 rfl Try.ntmps3 rfl (fun w0 Rest => ?_)
  (repeat' (first | refine zss ?_ | refine zsM ?_ | ((with_reducible first | apply AtM1.cr | apply AtQ.cr | apply At.cr); exact rfl; exact rfl; exact fun _ hmm => hlv _ zml; exact ztk; kernel_rfl) | ((with_reducible first | apply At.c1 | apply At.c0); exact rfl; exact rfl; exact ke _; exact ztk; kernel_rfl; rintro v' m' B' hm' ⟨rfl, t0, rfl, ht0, ht1⟩; (try replace sl0 := sl0.mono hm'); (try replace sl1 := sl1.mono hm'); (try (have hq0 : hm' = Mem.le_refl _ := rfl; clear hq0 hm'))) | ((with_reducible first | apply AtM1.cr | apply AtQ.cr | apply At.cr); exact rfl; exact rfl; exact fun _ hmm => kc _ t0 _ 0 ⟨ht0.mono hmm, ht1⟩ h1'; exact ztk; kernel_rfl) | ((with_reducible first | apply AtM1.callp | apply AtQ.callp | apply At.callp); kernel_rfl; exact rfl; exact rfl; exact ks t0 ht1) | ((with_reducible first | apply At.c1 | apply At.c0); exact rfl; exact rfl; exact kf _ zml; exact ztk; kernel_rfl; rintro v' m' B' hm' ⟨rfl, rfl, rfl⟩; (try replace sl0 := sl0.mono hm'); (try replace sl1 := sl1.mono hm'); (try (have hq0 : hm' = Mem.le_refl _ := rfl; clear hq0 hm'))) | ((with_reducible first | apply At.c1 | apply At.c0); exact rfl; exact rfl; exact kst _ zml; exact ztk; kernel_rfl; rintro v' m' B' hm' ⟨rfl, t1, o, rfl, hu, hI⟩; (try replace sl0 := sl0.mono hm'); (try replace sl1 := sl1.mono hm'); (try (have hq0 : hm' = Mem.le_refl _ := rfl; clear hq0 hm'))) | ((with_reducible first | apply AtM1.cr | apply AtQ.cr | apply At.cr); exact rfl; exact rfl; exact fun _ hmm => kc _ t1 _ 0 ⟨hu.mono hmm, rfl⟩ (if_pos hI.fk); exact ztk; kernel_rfl) | ((with_reducible apply At.box (d := 2)); exact rfl; exact rfl; exact rfl; intro b2) | ((with_reducible apply At.alloc (d := 5)); exact rfl; exact rfl; intro b5) | ((with_reducible apply At.alloc (d := 6)); exact rfl; exact rfl; intro b6) | ((with_reducible apply At.alloc (d := 8)); exact rfl; exact rfl; intro b8) | ((with_reducible apply At.alloc (d := 12)); exact rfl; exact rfl; intro b12) | ((with_reducible apply At.alloc (d := 15)); exact rfl; exact rfl; intro b15) | ((with_reducible apply At.alloc (d := 17)); exact rfl; exact rfl; intro b17) | (refine zsp ?_ ?_ <;> (intro hc; (try simp only [zhcs, reduceCtorEq] at hc); (try (exfalso; first | (first | omega | exact absurd rfl hc | exact absurd hc (by decide)) | contradiction | omega | exact absurd rfl hc | exact absurd (by decide) hc))))))
  (refine At.loopk (σ := FA) [1, 2, 5, 8] (fun s F0 => (59, .int .i64 (s.k : Int)) :: F0) (fun s => s.m) (fun s => .blk b8 44 (cells o) :: .blk b6 40 (Cell.cells (x, (0 : Int)).fst) :: .blk b5 29 t1.cells :: .blk b2 25 K.cells :: Rest) (fun s => m'.le s.m ∧ s.k ≤ 3) (fun s => 3 - s.k) ⟨0, m'⟩ (by rfl) ?_ zsubs zml zente ?_)
  · exact ⟨Mem.le_refl _, Nat.zero_le _⟩
  have hLo : o.c.L.T = lastT l ∨ l = [] := by
    by_cases hn : l = []
    · exact .inr hn
    · exact .inl (hI.lastC hn)
  have ha := h1.1.ha
  have hbb := h1.1.hb
  have hd := h1.1.hd
  have hx := h1.1.hx
  have hy := h1.1.hy
  have hcf := cfg_f h1.1
  clear hlv ke kc ks kf kst h1' h4
  rintro ⟨k, m1⟩ ⟨hm1, hk⟩
  dsimp only at hm1 hk ⊢
  replace hu := hu.mono hm1
  replace sl0 := sl0.mono hm1
  rcases (show k = 0 ∨ k = 1 ∨ k = 2 ∨ k = 3 by omega) with rfl | rfl | rfl | rfl
  · clear hk
    have ka := fun (m2 : Mem) (h : m1.le m2) => allS (m := m2) t1.a.p t1.a.c t1.a.l hu.a.n (okT_dis hI.a.ok) (hu.a.sl.mono h)
    have hA : ∀ y ∈ alls t1.a.l, (y.c.n = (win K.a y.w l).length ∧ 0 ≤ y.w) ∧ y.w < lastT l / K.a ∧ l ≠ [] ∧ y.c = G K.a l y.w := fun y hy => by
      obtain ⟨-, e2, e3, e4, e5⟩ := hI.a.at hy
      exact ⟨⟨by rw [e2, G_n], e4⟩, e3, e5, e2⟩
    have hAl : (alls t1.a.l).length ≤ 1000000 := Nat.le_trans (alls_len _) hu.a.n
    generalize alls t1.a.l = A at ka hA hAl
    (repeat' (first | refine zss ?_ | ((first | (with_reducible first | apply At.val | apply AtQ.val)); (exact pr_indexArr (k := 0) (by rfl) (by rfl) (by rfl) (by rfl) (by decide)); exact rfl) | refine zsM ?_ | ((with_reducible first | apply At.c1 | apply At.c0); exact rfl; exact rfl; exact ka _ zml; exact ztk; kernel_rfl; rintro v' m' B' hm' ⟨rfl, p2, c2, rfl, sl1⟩; (try replace sl0 := sl0.mono hm'); (try replace sl1 := sl1.mono hm'); (try (have hq0 : hm' = Mem.le_refl _ := rfl; clear hq0 hm'))) | ((with_reducible apply At.box (d := 2)); exact rfl; exact rfl; exact rfl; intro b2) | ((with_reducible apply At.alloc (d := 5)); exact rfl; exact rfl; intro b5) | ((with_reducible apply At.alloc (d := 6)); exact rfl; exact rfl; intro b6) | ((with_reducible apply At.alloc (d := 8)); exact rfl; exact rfl; intro b8) | ((with_reducible apply At.alloc (d := 12)); exact rfl; exact rfl; intro b12) | ((with_reducible apply At.alloc (d := 15)); exact rfl; exact rfl; intro b15) | ((with_reducible apply At.alloc (d := 17)); exact rfl; exact rfl; intro b17) | (refine zsp ?_ ?_ <;> (intro hc; (try simp only [zhcs, reduceCtorEq] at hc); (try (exfalso; first | omega | contradiction | omega | exact absurd rfl hc | exact absurd (by decide) hc))))))
    (refine At.loopk (σ := Nat) [1, 2, 5, 8, 10, 59, 65, 66] (fun s F0 => (67, .int .i64 (s : Int)) :: F0) (fun s => m') (fun s => .blk b8 44 (cells o) :: .blk b6 40 (Cell.cells (x, (0 : Int)).fst) :: .blk b5 29 t1.cells :: .blk b2 25 K.cells :: Rest) (fun s => s ≤ A.length) (fun s => A.length - s) 0 (by rfl) ?_ zsubs zml zente ?_)
    · exact Nat.zero_le _
    rintro j hj
    by_cases hjl : j < A.length
    rotate_left
    · (repeat' (first | refine zss ?_ | refine zsM ?_ | ((with_reducible apply At.box (d := 2)); exact rfl; exact rfl; exact rfl; intro b2) | ((with_reducible apply At.alloc (d := 5)); exact rfl; exact rfl; intro b5) | ((with_reducible apply At.alloc (d := 6)); exact rfl; exact rfl; intro b6) | ((with_reducible apply At.alloc (d := 8)); exact rfl; exact rfl; intro b8) | ((with_reducible apply At.alloc (d := 12)); exact rfl; exact rfl; intro b12) | ((with_reducible apply At.alloc (d := 15)); exact rfl; exact rfl; intro b15) | ((with_reducible apply At.alloc (d := 17)); exact rfl; exact rfl; intro b17) | (refine zsp ?_ ?_ <;> (intro hc; (try simp only [zhcs, reduceCtorEq] at hc); (try (exfalso; first | omega | contradiction | omega | exact absurd rfl hc | exact absurd (by decide) hc))))))
      all_goals ((with_reducible refine At.reachk ((⟨0 + 1, m'⟩ : FA)) ?_ ?_ ?_ ?_); exact zsubs; exact zml; exact zente; exact ⟨⟨zml, (by decide : 0 + 1 ≤ 3)⟩, (by decide : 3 - (0 + 1) < 3 - 0)⟩)
    obtain ⟨⟨hyn, hy0⟩, hyw, hne, hyc⟩ := hA _ (by rw [getElem!_pos A j hjl]; exact List.getElem_mem hjl : A[j]! ∈ A)
    have hL := hLo.resolve_right hne
    have hLb := last_bd hG hne
    rw [← hL] at hyw hLb
    (repeat' (first | refine zss ?_ | refine zsM ?_ | ((with_reducible apply At.box (d := 2)); exact rfl; exact rfl; exact rfl; intro b2) | ((with_reducible apply At.alloc (d := 5)); exact rfl; exact rfl; intro b5) | ((with_reducible apply At.alloc (d := 6)); exact rfl; exact rfl; intro b6) | ((with_reducible apply At.alloc (d := 8)); exact rfl; exact rfl; intro b8) | ((with_reducible apply At.alloc (d := 12)); exact rfl; exact rfl; intro b12) | ((with_reducible apply At.alloc (d := 15)); exact rfl; exact rfl; intro b15) | ((with_reducible apply At.alloc (d := 17)); exact rfl; exact rfl; intro b17) | (refine zsp ?_ ?_ <;> (intro hc; (try simp only [zhcs, reduceCtorEq] at hc); (try (exfalso; first | omega | contradiction | omega | exact absurd rfl hc | exact absurd (by decide) hc))))))
    (refine At.loopk (σ := FC) [1, 2, 5, 8, 10, 12, 59, 65, 66, 67, 71, 72] (fun s F0 => (73, .int .i64 (s.i : Int)) :: (13, .int .i64 (s.n : Int)) :: F0) (fun s => m') (fun s => .blk b12 44 (cells A[j]!) :: .blk b8 44 (cells o) :: .blk b6 40 (Cell.cells (x, (0 : Int)).fst) :: .blk b5 29 t1.cells :: .blk b2 25 K.cells :: Rest) (fun s => s.i ≤ l.length ∧ s.n ≤ s.i ∧ s.n = (win K.a A[j]!.w (l.take s.i)).length) (fun s => l.length - s.i) ⟨0, 0⟩ (by rfl) ?_ zsubs zml zente ?_)
    · exact ⟨Nat.zero_le _, Nat.zero_le _, rfl⟩
    rintro ⟨i, n⟩ ⟨hi, hn, hne2⟩
    dsimp only at hi hn hne2 ⊢
    by_cases hil : i < l.length
    · have hcs := cnt_snoc (w := K.a) (i := A[j]!.w) hil
      have hT : IntKind.wrap .i64 ((l[i]!).T.tdiv K.a) = (l[i]!).T / K.a := by
        have h1 := (hG.1 l[i]! (by rw [getElem!_pos l i hil]; exact List.getElem_mem hil)).1
        unfold Ev.ok at h1
        exact quo_nn (by omega) (by omega)
      have hW0 : K.a ≠ 0 := by omega
      have hpl : IntKind.wrap .i64 ((n : Int) + 1) = ((n + 1 : Nat) : Int) := wrap_nn (by omega)
      clear hA hyn hy0 hyw hyc hL hLb hLo hI hu hV hG hcf ka
      generalize (l[i]!).T / K.a = qq at *
      by_cases hqe : qq = A[j]!.w
      · rw [if_pos hqe] at hcs
        (repeat' (first | ((with_reducible apply At.mixed (id := 30) 20 (.q 0 (.q 1 (.q 2 (.q 3 (.q 4 (.q 5 (.q 6 (.q 7 (.q 8 (.q 9 (.q 10 (.q 11 (.q 12 (.b 13 17 (.q 14 (.q 15 (.q 16 (.l 17 (.x 18 (.q 19 .done)))))) (.l 13 (.q 14 (.q 15 (.q 16 (.x 18 (.q 19 .done))))))))))))))))))))); exact rfl; kernel_rfl; kernel_rfl; kernel_rfl) | refine zsx ?_ | refine zss ?_ | ((with_reducible apply AtM.bo); exact rfl; exact rfl; exact rfl) | ((first | (with_reducible first | apply At.val | apply AtQ.val) | ((with_reducible first | apply AtM1.valz | apply AtM1.val); exact rfl) | ((with_reducible apply AtM1.val); exact rfl)); (first | exact pr_indexArr (k := 0) (by rfl) (by rfl) (by rfl) (by rfl) (by decide) | exact pr_quo (by rfl) (by rfl) hW0 hT | exact pr_add (by rfl) (by rfl) hpl); exact rfl) | refine zsM ?_ | refine zxM ?_ | ((with_reducible apply At.box (d := 2)); exact rfl; exact rfl; exact rfl; intro b2) | ((with_reducible apply At.alloc (d := 5)); exact rfl; exact rfl; intro b5) | ((with_reducible apply At.alloc (d := 6)); exact rfl; exact rfl; intro b6) | ((with_reducible apply At.alloc (d := 8)); exact rfl; exact rfl; intro b8) | ((with_reducible apply At.alloc (d := 12)); exact rfl; exact rfl; intro b12) | ((with_reducible apply At.alloc (d := 15)); exact rfl; exact rfl; intro b15) | ((with_reducible apply At.alloc (d := 17)); exact rfl; exact rfl; intro b17) | (refine zsp ?_ ?_ <;> (intro hc; (try simp only [zhcs, reduceCtorEq] at hc); (try (exfalso; first | (first | omega | exact absurd hqe hc) | contradiction | omega | exact absurd rfl hc | exact absurd (by decide) hc))))))
        all_goals ((with_reducible refine At.reachk ((⟨i + 1, n + 1⟩ : FC)) ?_ ?_ ?_ ?_); exact zsubs; exact zml; exact zente; exact ⟨⟨hil, by dsimp only; omega, by dsimp only; omega⟩, by dsimp only; omega⟩)
      · rw [if_neg hqe] at hcs
        (repeat' (first | ((with_reducible apply At.mixed (id := 30) 20 (.q 0 (.q 1 (.q 2 (.q 3 (.q 4 (.q 5 (.q 6 (.q 7 (.q 8 (.q 9 (.q 10 (.q 11 (.q 12 (.b 13 17 (.q 14 (.q 15 (.q 16 (.l 17 (.x 18 (.q 19 .done)))))) (.l 13 (.q 14 (.q 15 (.q 16 (.x 18 (.q 19 .done))))))))))))))))))))); exact rfl; kernel_rfl; kernel_rfl; kernel_rfl) | refine zsx ?_ | refine zss ?_ | ((with_reducible apply AtM.bo); exact rfl; exact rfl; exact rfl) | ((first | (with_reducible first | apply At.val | apply AtQ.val) | ((with_reducible first | apply AtM1.valz | apply AtM1.val); exact rfl) | ((with_reducible apply AtM1.val); exact rfl)); (first | exact pr_indexArr (k := 0) (by rfl) (by rfl) (by rfl) (by rfl) (by decide) | exact pr_quo (by rfl) (by rfl) hW0 hT); exact rfl) | refine zsM ?_ | refine zxM ?_ | ((with_reducible apply At.box (d := 2)); exact rfl; exact rfl; exact rfl; intro b2) | ((with_reducible apply At.alloc (d := 5)); exact rfl; exact rfl; intro b5) | ((with_reducible apply At.alloc (d := 6)); exact rfl; exact rfl; intro b6) | ((with_reducible apply At.alloc (d := 8)); exact rfl; exact rfl; intro b8) | ((with_reducible apply At.alloc (d := 12)); exact rfl; exact rfl; intro b12) | ((with_reducible apply At.alloc (d := 15)); exact rfl; exact rfl; intro b15) | ((with_reducible apply At.alloc (d := 17)); exact rfl; exact rfl; intro b17) | (refine zsp ?_ ?_ <;> (intro hc; (try simp only [zhcs, reduceCtorEq] at hc); (try (exfalso; first | (first | omega | exact absurd hc hqe) | contradiction | omega | exact absurd rfl hc | exact absurd (by decide) hc))))))
        all_goals ((with_reducible refine At.reachk ((⟨i + 1, n⟩ : FC)) ?_ ?_ ?_ ?_); exact zsubs; exact zml; exact zente; exact ⟨⟨hil, by dsimp only; omega, by dsimp only; omega⟩, by dsimp only; omega⟩)
    rw [List.take_of_length_le (by omega)] at hne2
    have hnn : (n : Int) = A[j]!.c.n := by omega
    have hqL : IntKind.wrap .i64 (o.c.L.T.tdiv K.a) = o.c.L.T / K.a := quo_nn (by omega) (by omega)
    have hW0 : K.a ≠ 0 := by omega
    clear hA hyn hy0 hyc hL hLb hLo hI hu hV hG hcf ka hne2
    generalize o.c.L.T / K.a = qq at *
    (repeat' (first | ((with_reducible apply At.mixed (id := 30) 20 (.q 0 (.q 1 (.q 2 (.q 3 (.q 4 (.q 5 (.q 6 (.q 7 (.q 8 (.q 9 (.q 10 (.q 11 (.q 12 (.b 13 17 (.q 14 (.q 15 (.q 16 (.l 17 (.x 18 (.q 19 .done)))))) (.l 13 (.q 14 (.q 15 (.q 16 (.x 18 (.q 19 .done))))))))))))))))))))); exact rfl; kernel_rfl; kernel_rfl; kernel_rfl) | refine zsx ?_ | refine zss ?_ | ((with_reducible apply AtM.bo); exact rfl; exact rfl; exact rfl) | ((first | (with_reducible first | apply At.val | apply AtQ.val) | ((with_reducible first | apply AtM1.valz | apply AtM1.val); exact rfl) | ((with_reducible apply AtM1.val); exact rfl)); (first | exact pr_indexArr (k := 0) (by rfl) (by rfl) (by rfl) (by rfl) (by decide) | exact pr_quo (by rfl) (by rfl) hW0 hqL); exact rfl) | refine zsM ?_ | refine zxM ?_ | ((with_reducible apply At.box (d := 2)); exact rfl; exact rfl; exact rfl; intro b2) | ((with_reducible apply At.alloc (d := 5)); exact rfl; exact rfl; intro b5) | ((with_reducible apply At.alloc (d := 6)); exact rfl; exact rfl; intro b6) | ((with_reducible apply At.alloc (d := 8)); exact rfl; exact rfl; intro b8) | ((with_reducible apply At.alloc (d := 12)); exact rfl; exact rfl; intro b12) | ((with_reducible apply At.alloc (d := 15)); exact rfl; exact rfl; intro b15) | ((with_reducible apply At.alloc (d := 17)); exact rfl; exact rfl; intro b17) | (refine zsp ?_ ?_ <;> (intro hc; (try simp only [zhcs, reduceCtorEq] at hc); (try (exfalso; first | omega | contradiction | omega | exact absurd rfl hc | exact absurd (by decide) hc))))))
    all_goals ((with_reducible refine At.reachk ((j + 1)) ?_ ?_ ?_ ?_); exact zsubs; exact zml; exact zente; exact ⟨hjl, by omega⟩)
  · clear hk
    have ka := fun (m2 : Mem) (h : m1.le m2) => allS (m := m2) t1.b.p t1.b.c t1.b.l hu.b.n (okT_dis hI.b.ok) (hu.b.sl.mono h)
    have hA : ∀ y ∈ alls t1.b.l, (y.c.n = (win K.b y.w l).length ∧ 0 ≤ y.w) ∧ y.w < lastT l / K.b ∧ l ≠ [] ∧ y.c = G K.b l y.w := fun y hy => by
      obtain ⟨-, e2, e3, e4, e5⟩ := hI.b.at hy
      exact ⟨⟨by rw [e2, G_n], e4⟩, e3, e5, e2⟩
    have hAl : (alls t1.b.l).length ≤ 1000000 := Nat.le_trans (alls_len _) hu.b.n
    generalize alls t1.b.l = A at ka hA hAl
    (repeat' (first | refine zss ?_ | ((first | (with_reducible first | apply At.val | apply AtQ.val)); (exact pr_indexArr (k := 1) (by rfl) (by rfl) (by rfl) (by rfl) (by decide)); exact rfl) | refine zsM ?_ | ((with_reducible first | apply At.c1 | apply At.c0); exact rfl; exact rfl; exact ka _ zml; exact ztk; kernel_rfl; rintro v' m' B' hm' ⟨rfl, p2, c2, rfl, sl1⟩; (try replace sl0 := sl0.mono hm'); (try replace sl1 := sl1.mono hm'); (try (have hq0 : hm' = Mem.le_refl _ := rfl; clear hq0 hm'))) | ((with_reducible apply At.box (d := 2)); exact rfl; exact rfl; exact rfl; intro b2) | ((with_reducible apply At.alloc (d := 5)); exact rfl; exact rfl; intro b5) | ((with_reducible apply At.alloc (d := 6)); exact rfl; exact rfl; intro b6) | ((with_reducible apply At.alloc (d := 8)); exact rfl; exact rfl; intro b8) | ((with_reducible apply At.alloc (d := 12)); exact rfl; exact rfl; intro b12) | ((with_reducible apply At.alloc (d := 15)); exact rfl; exact rfl; intro b15) | ((with_reducible apply At.alloc (d := 17)); exact rfl; exact rfl; intro b17) | (refine zsp ?_ ?_ <;> (intro hc; (try simp only [zhcs, reduceCtorEq] at hc); (try (exfalso; first | omega | contradiction | omega | exact absurd rfl hc | exact absurd (by decide) hc))))))
    (refine At.loopk (σ := Nat) [1, 2, 5, 8, 10, 59, 65, 66] (fun s F0 => (67, .int .i64 (s : Int)) :: F0) (fun s => m') (fun s => .blk b8 44 (cells o) :: .blk b6 40 (Cell.cells (x, (0 : Int)).fst) :: .blk b5 29 t1.cells :: .blk b2 25 K.cells :: Rest) (fun s => s ≤ A.length) (fun s => A.length - s) 0 (by rfl) ?_ zsubs zml zente ?_)
    · exact Nat.zero_le _
    rintro j hj
    by_cases hjl : j < A.length
    rotate_left
    · (repeat' (first | refine zss ?_ | refine zsM ?_ | ((with_reducible apply At.box (d := 2)); exact rfl; exact rfl; exact rfl; intro b2) | ((with_reducible apply At.alloc (d := 5)); exact rfl; exact rfl; intro b5) | ((with_reducible apply At.alloc (d := 6)); exact rfl; exact rfl; intro b6) | ((with_reducible apply At.alloc (d := 8)); exact rfl; exact rfl; intro b8) | ((with_reducible apply At.alloc (d := 12)); exact rfl; exact rfl; intro b12) | ((with_reducible apply At.alloc (d := 15)); exact rfl; exact rfl; intro b15) | ((with_reducible apply At.alloc (d := 17)); exact rfl; exact rfl; intro b17) | (refine zsp ?_ ?_ <;> (intro hc; (try simp only [zhcs, reduceCtorEq] at hc); (try (exfalso; first | omega | contradiction | omega | exact absurd rfl hc | exact absurd (by decide) hc))))))
      all_goals ((with_reducible refine At.reachk ((⟨1 + 1, m'⟩ : FA)) ?_ ?_ ?_ ?_); exact zsubs; exact zml; exact zente; exact ⟨⟨zml, (by decide : 1 + 1 ≤ 3)⟩, (by decide : 3 - (1 + 1) < 3 - 1)⟩)
    obtain ⟨⟨hyn, hy0⟩, hyw, hne, hyc⟩ := hA _ (by rw [getElem!_pos A j hjl]; exact List.getElem_mem hjl : A[j]! ∈ A)
    have hL := hLo.resolve_right hne
    have hLb := last_bd hG hne
    rw [← hL] at hyw hLb
    (repeat' (first | refine zss ?_ | refine zsM ?_ | ((with_reducible apply At.box (d := 2)); exact rfl; exact rfl; exact rfl; intro b2) | ((with_reducible apply At.alloc (d := 5)); exact rfl; exact rfl; intro b5) | ((with_reducible apply At.alloc (d := 6)); exact rfl; exact rfl; intro b6) | ((with_reducible apply At.alloc (d := 8)); exact rfl; exact rfl; intro b8) | ((with_reducible apply At.alloc (d := 12)); exact rfl; exact rfl; intro b12) | ((with_reducible apply At.alloc (d := 15)); exact rfl; exact rfl; intro b15) | ((with_reducible apply At.alloc (d := 17)); exact rfl; exact rfl; intro b17) | (refine zsp ?_ ?_ <;> (intro hc; (try simp only [zhcs, reduceCtorEq] at hc); (try (exfalso; first | omega | contradiction | omega | exact absurd rfl hc | exact absurd (by decide) hc))))))
    (refine At.loopk (σ := FC) [1, 2, 5, 8, 10, 12, 59, 65, 66, 67, 71, 72] (fun s F0 => (73, .int .i64 (s.i : Int)) :: (13, .int .i64 (s.n : Int)) :: F0) (fun s => m') (fun s => .blk b12 44 (cells A[j]!) :: .blk b8 44 (cells o) :: .blk b6 40 (Cell.cells (x, (0 : Int)).fst) :: .blk b5 29 t1.cells :: .blk b2 25 K.cells :: Rest) (fun s => s.i ≤ l.length ∧ s.n ≤ s.i ∧ s.n = (win K.b A[j]!.w (l.take s.i)).length) (fun s => l.length - s.i) ⟨0, 0⟩ (by rfl) ?_ zsubs zml zente ?_)
    · exact ⟨Nat.zero_le _, Nat.zero_le _, rfl⟩
    rintro ⟨i, n⟩ ⟨hi, hn, hne2⟩
    dsimp only at hi hn hne2 ⊢
    by_cases hil : i < l.length
    · have hcs := cnt_snoc (w := K.b) (i := A[j]!.w) hil
      have hT : IntKind.wrap .i64 ((l[i]!).T.tdiv K.b) = (l[i]!).T / K.b := by
        have h1 := (hG.1 l[i]! (by rw [getElem!_pos l i hil]; exact List.getElem_mem hil)).1
        unfold Ev.ok at h1
        exact quo_nn (by omega) (by omega)
      have hW0 : K.b ≠ 0 := by omega
      have hpl : IntKind.wrap .i64 ((n : Int) + 1) = ((n + 1 : Nat) : Int) := wrap_nn (by omega)
      clear hA hyn hy0 hyw hyc hL hLb hLo hI hu hV hG hcf ka
      generalize (l[i]!).T / K.b = qq at *
      by_cases hqe : qq = A[j]!.w
      · rw [if_pos hqe] at hcs
        (repeat' (first | ((with_reducible apply At.mixed (id := 30) 20 (.q 0 (.q 1 (.q 2 (.q 3 (.q 4 (.q 5 (.q 6 (.q 7 (.q 8 (.q 9 (.q 10 (.q 11 (.q 12 (.b 13 17 (.q 14 (.q 15 (.q 16 (.l 17 (.x 18 (.q 19 .done)))))) (.l 13 (.q 14 (.q 15 (.q 16 (.x 18 (.q 19 .done))))))))))))))))))))); exact rfl; kernel_rfl; kernel_rfl; kernel_rfl) | refine zsx ?_ | refine zss ?_ | ((with_reducible apply AtM.bo); exact rfl; exact rfl; exact rfl) | ((first | (with_reducible first | apply At.val | apply AtQ.val) | ((with_reducible first | apply AtM1.valz | apply AtM1.val); exact rfl) | ((with_reducible apply AtM1.val); exact rfl)); (first | exact pr_indexArr (k := 1) (by rfl) (by rfl) (by rfl) (by rfl) (by decide) | exact pr_quo (by rfl) (by rfl) hW0 hT | exact pr_add (by rfl) (by rfl) hpl); exact rfl) | refine zsM ?_ | refine zxM ?_ | ((with_reducible apply At.box (d := 2)); exact rfl; exact rfl; exact rfl; intro b2) | ((with_reducible apply At.alloc (d := 5)); exact rfl; exact rfl; intro b5) | ((with_reducible apply At.alloc (d := 6)); exact rfl; exact rfl; intro b6) | ((with_reducible apply At.alloc (d := 8)); exact rfl; exact rfl; intro b8) | ((with_reducible apply At.alloc (d := 12)); exact rfl; exact rfl; intro b12) | ((with_reducible apply At.alloc (d := 15)); exact rfl; exact rfl; intro b15) | ((with_reducible apply At.alloc (d := 17)); exact rfl; exact rfl; intro b17) | (refine zsp ?_ ?_ <;> (intro hc; (try simp only [zhcs, reduceCtorEq] at hc); (try (exfalso; first | (first | omega | exact absurd hqe hc) | contradiction | omega | exact absurd rfl hc | exact absurd (by decide) hc))))))
        all_goals ((with_reducible refine At.reachk ((⟨i + 1, n + 1⟩ : FC)) ?_ ?_ ?_ ?_); exact zsubs; exact zml; exact zente; exact ⟨⟨hil, by dsimp only; omega, by dsimp only; omega⟩, by dsimp only; omega⟩)
      · rw [if_neg hqe] at hcs
        (repeat' (first | ((with_reducible apply At.mixed (id := 30) 20 (.q 0 (.q 1 (.q 2 (.q 3 (.q 4 (.q 5 (.q 6 (.q 7 (.q 8 (.q 9 (.q 10 (.q 11 (.q 12 (.b 13 17 (.q 14 (.q 15 (.q 16 (.l 17 (.x 18 (.q 19 .done)))))) (.l 13 (.q 14 (.q 15 (.q 16 (.x 18 (.q 19 .done))))))))))))))))))))); exact rfl; kernel_rfl; kernel_rfl; kernel_rfl) | refine zsx ?_ | refine zss ?_ | ((with_reducible apply AtM.bo); exact rfl; exact rfl; exact rfl) | ((first | (with_reducible first | apply At.val | apply AtQ.val) | ((with_reducible first | apply AtM1.valz | apply AtM1.val); exact rfl) | ((with_reducible apply AtM1.val); exact rfl)); (first | exact pr_indexArr (k := 1) (by rfl) (by rfl) (by rfl) (by rfl) (by decide) | exact pr_quo (by rfl) (by rfl) hW0 hT); exact rfl) | refine zsM ?_ | refine zxM ?_ | ((with_reducible apply At.box (d := 2)); exact rfl; exact rfl; exact rfl; intro b2) | ((with_reducible apply At.alloc (d := 5)); exact rfl; exact rfl; intro b5) | ((with_reducible apply At.alloc (d := 6)); exact rfl; exact rfl; intro b6) | ((with_reducible apply At.alloc (d := 8)); exact rfl; exact rfl; intro b8) | ((with_reducible apply At.alloc (d := 12)); exact rfl; exact rfl; intro b12) | ((with_reducible apply At.alloc (d := 15)); exact rfl; exact rfl; intro b15) | ((with_reducible apply At.alloc (d := 17)); exact rfl; exact rfl; intro b17) | (refine zsp ?_ ?_ <;> (intro hc; (try simp only [zhcs, reduceCtorEq] at hc); (try (exfalso; first | (first | omega | exact absurd hc hqe) | contradiction | omega | exact absurd rfl hc | exact absurd (by decide) hc))))))
        all_goals ((with_reducible refine At.reachk ((⟨i + 1, n⟩ : FC)) ?_ ?_ ?_ ?_); exact zsubs; exact zml; exact zente; exact ⟨⟨hil, by dsimp only; omega, by dsimp only; omega⟩, by dsimp only; omega⟩)
    rw [List.take_of_length_le (by omega)] at hne2
    have hnn : (n : Int) = A[j]!.c.n := by omega
    have hqL : IntKind.wrap .i64 (o.c.L.T.tdiv K.b) = o.c.L.T / K.b := quo_nn (by omega) (by omega)
    have hW0 : K.b ≠ 0 := by omega
    obtain ⟨f, ef, eW, g1, g2⟩ := hcf.1
    have hw1 : 1 ≤ K.a := by omega
    have hf3 : IntKind.wrap .i64 (K.b.tdiv K.a) = f := by rw [quo_nn (by omega) hw1, ef]
    obtain ⟨q1, q2, q3⟩ := bd_f hy0 hyw eW hw1 g1 hLb
    have hqw : IntKind.wrap .i64 (o.c.L.T.tdiv K.a) = o.c.L.T / K.a := quo_nn (by omega) hw1
    have hw0 : K.a ≠ 0 := by omega
    have hm1' : IntKind.wrap .i64 (A[j]!.w * f) = A[j]!.w * f := wrap_nn (by omega)
    have hm2 : IntKind.wrap .i64 ((A[j]!.w + 1) * f) = (A[j]!.w + 1) * f := wrap_nn (by omega)
    have hpw : IntKind.wrap .i64 (A[j]!.w + 1) = A[j]!.w + 1 := by
      have h2 := Int.ediv_le_self K.b hLb.1
      exact wrap_nn (by omega)
    have hsb : IntKind.wrap .i64 (o.c.L.T / K.a - K.x) = o.c.L.T / K.a - K.x := IntWalk.i64_in _ (by omega)
    have hk1 : IntKind.wrap .i64 (((1 : Nat) : Int) - 1) = (((1 - 1 : Nat)) : Int) := by decide
    have kfo := fun (m2 : Mem) (h : m1.le m2) => fold_ (m := m2) t1.a.p t1.a.c t1.a.l (A[j]!.w * f) ((A[j]!.w + 1) * f) hu.a.i (okT_dis hI.a.ok) hu.a.n (hu.a.sl.mono h)
    by_cases hsk : A[j]!.w * f ≤ o.c.L.T / K.a - K.x
    · clear kfo hA hyn hy0 hyc hL hLb hLo hI hu hV hG hcf ka hne2 q1 q2 q3 hm2 ef eW g1 g2 hpw
      generalize o.c.L.T / K.b = qq at *
      generalize o.c.L.T / K.a = rr at *
      (repeat' (first | ((with_reducible apply At.mixed (id := 30) 20 (.q 0 (.q 1 (.q 2 (.q 3 (.q 4 (.q 5 (.q 6 (.q 7 (.q 8 (.q 9 (.q 10 (.q 11 (.q 12 (.b 13 17 (.q 14 (.q 15 (.q 16 (.l 17 (.x 18 (.q 19 .done)))))) (.l 13 (.q 14 (.q 15 (.q 16 (.x 18 (.q 19 .done))))))))))))))))))))); exact rfl; kernel_rfl; kernel_rfl; kernel_rfl) | refine zsx ?_ | refine zss ?_ | ((with_reducible apply AtM.bo); exact rfl; exact rfl; exact rfl) | ((first | (with_reducible first | apply At.val | apply AtQ.val) | ((with_reducible first | apply AtM1.valz | apply AtM1.val); exact rfl) | ((with_reducible apply AtM1.val); exact rfl)); (first | exact pr_indexArr (k := 1) (by rfl) (by rfl) (by rfl) (by rfl) (by decide) | exact pr_indexArr (k := 1 - 1) (by rfl) (by rfl) (by rfl) (by rfl) (by decide) | exact pr_quo (by rfl) (by rfl) hW0 hqL | exact pr_quo (by rfl) (by rfl) hw0 hqw | exact pr_quo (by rfl) (by rfl) hw0 hf3 | exact pr_mul (by rfl) (by rfl) hm1' | exact pr_sub (by rfl) (by rfl) hk1 | exact pr_sub (by rfl) (by rfl) hsb); exact rfl) | refine zsM ?_ | refine zxM ?_ | ((with_reducible apply At.box (d := 2)); exact rfl; exact rfl; exact rfl; intro b2) | ((with_reducible apply At.alloc (d := 5)); exact rfl; exact rfl; intro b5) | ((with_reducible apply At.alloc (d := 6)); exact rfl; exact rfl; intro b6) | ((with_reducible apply At.alloc (d := 8)); exact rfl; exact rfl; intro b8) | ((with_reducible apply At.alloc (d := 12)); exact rfl; exact rfl; intro b12) | ((with_reducible apply At.alloc (d := 15)); exact rfl; exact rfl; intro b15) | ((with_reducible apply At.alloc (d := 17)); exact rfl; exact rfl; intro b17) | (refine zsp ?_ ?_ <;> (intro hc; (try simp only [zhcs, reduceCtorEq] at hc); (try (exfalso; first | omega | contradiction | omega | exact absurd rfl hc | exact absurd (by decide) hc))))))
      all_goals ((with_reducible refine At.reachk ((j + 1)) ?_ ?_ ?_ ?_); exact zsubs; exact zml; exact zente; exact ⟨hjl, by omega⟩)
    · have hF := fold_fine hI.a hG hw1 (by omega) g1 hy0 (L := lastT l) (by rw [← eW, ← hL]; exact hyw) (by rw [← hL]; exact hsk)
      rw [← eW, ← hyc] at hF
      change foldC t1.a.l _ _ = _ at hF
      rw [hF] at kfo
      clear hF hA hyn hy0 hyc hL hLb hLo hI hu hV hG hcf ka hne2 q1 q2 q3 ef eW g1 g2
      generalize o.c.L.T / K.b = qq at *
      generalize o.c.L.T / K.a = rr at *
      (repeat' (first | ((with_reducible apply At.mixed (id := 30) 20 (.q 0 (.q 1 (.q 2 (.q 3 (.q 4 (.q 5 (.q 6 (.q 7 (.q 8 (.q 9 (.q 10 (.q 11 (.q 12 (.b 13 17 (.q 14 (.q 15 (.q 16 (.l 17 (.x 18 (.q 19 .done)))))) (.l 13 (.q 14 (.q 15 (.q 16 (.x 18 (.q 19 .done))))))))))))))))))))); exact rfl; kernel_rfl; kernel_rfl; kernel_rfl) | refine zsx ?_ | refine zss ?_ | ((with_reducible apply AtM.bo); exact rfl; exact rfl; exact rfl) | ((first | (with_reducible first | apply At.val | apply AtQ.val) | ((with_reducible first | apply AtM1.valz | apply AtM1.val); exact rfl) | ((with_reducible apply AtM1.val); exact rfl)); (first | exact pr_indexArr (k := 1) (by rfl) (by rfl) (by rfl) (by rfl) (by decide) | exact pr_indexArr (k := 1 - 1) (by rfl) (by rfl) (by rfl) (by rfl) (by decide) | exact pr_quo (by rfl) (by rfl) hW0 hqL | exact pr_quo (by rfl) (by rfl) hw0 hqw | exact pr_quo (by rfl) (by rfl) hw0 hf3 | exact pr_mul (by rfl) (by rfl) hm1' | exact pr_mul (by rfl) (by rfl) hm2 | exact pr_sub (by rfl) (by rfl) hk1 | exact pr_sub (by rfl) (by rfl) hsb | exact pr_add (by rfl) (by rfl) hpw | exact Cell.pr_cne (a := A[j]!.c) (b := A[j]!.c) (by rfl) (by rfl)); exact rfl) | refine zsM ?_ | refine zxM ?_ | ((with_reducible first | apply AtM1.cr | apply AtQ.cr | apply At.cr); exact rfl; exact rfl; exact fun _ hmm => kfo _ zml; exact ztk; kernel_rfl) | ((with_reducible apply At.box (d := 2)); exact rfl; exact rfl; exact rfl; intro b2) | ((with_reducible apply At.alloc (d := 5)); exact rfl; exact rfl; intro b5) | ((with_reducible apply At.alloc (d := 6)); exact rfl; exact rfl; intro b6) | ((with_reducible apply At.alloc (d := 8)); exact rfl; exact rfl; intro b8) | ((with_reducible apply At.alloc (d := 12)); exact rfl; exact rfl; intro b12) | ((with_reducible apply At.alloc (d := 15)); exact rfl; exact rfl; intro b15) | ((with_reducible apply At.alloc (d := 17)); exact rfl; exact rfl; intro b17) | (refine zsp ?_ ?_ <;> (intro hc; (try simp only [zhcs, reduceCtorEq] at hc); (try (exfalso; first | (first | omega | exact absurd rfl hc | (simp at hc; done)) | contradiction | omega | exact absurd rfl hc | exact absurd (by decide) hc))))))
      all_goals ((with_reducible refine At.reachk ((j + 1)) ?_ ?_ ?_ ?_); exact zsubs; exact zml; exact zente; exact ⟨hjl, by omega⟩)
  · clear hk
    have ka := fun (m2 : Mem) (h : m1.le m2) => allS (m := m2) t1.c.p t1.c.c t1.c.l hu.c.n (okT_dis hI.c.ok) (hu.c.sl.mono h)
    have hA : ∀ y ∈ alls t1.c.l, (y.c.n = (win K.d y.w l).length ∧ 0 ≤ y.w) ∧ y.w < lastT l / K.d ∧ l ≠ [] ∧ y.c = G K.d l y.w := fun y hy => by
      obtain ⟨-, e2, e3, e4, e5⟩ := hI.c.at hy
      exact ⟨⟨by rw [e2, G_n], e4⟩, e3, e5, e2⟩
    have hAl : (alls t1.c.l).length ≤ 1000000 := Nat.le_trans (alls_len _) hu.c.n
    generalize alls t1.c.l = A at ka hA hAl
    (repeat' (first | refine zss ?_ | ((first | (with_reducible first | apply At.val | apply AtQ.val)); (exact pr_indexArr (k := 2) (by rfl) (by rfl) (by rfl) (by rfl) (by decide)); exact rfl) | refine zsM ?_ | ((with_reducible first | apply At.c1 | apply At.c0); exact rfl; exact rfl; exact ka _ zml; exact ztk; kernel_rfl; rintro v' m' B' hm' ⟨rfl, p2, c2, rfl, sl1⟩; (try replace sl0 := sl0.mono hm'); (try replace sl1 := sl1.mono hm'); (try (have hq0 : hm' = Mem.le_refl _ := rfl; clear hq0 hm'))) | ((with_reducible apply At.box (d := 2)); exact rfl; exact rfl; exact rfl; intro b2) | ((with_reducible apply At.alloc (d := 5)); exact rfl; exact rfl; intro b5) | ((with_reducible apply At.alloc (d := 6)); exact rfl; exact rfl; intro b6) | ((with_reducible apply At.alloc (d := 8)); exact rfl; exact rfl; intro b8) | ((with_reducible apply At.alloc (d := 12)); exact rfl; exact rfl; intro b12) | ((with_reducible apply At.alloc (d := 15)); exact rfl; exact rfl; intro b15) | ((with_reducible apply At.alloc (d := 17)); exact rfl; exact rfl; intro b17) | (refine zsp ?_ ?_ <;> (intro hc; (try simp only [zhcs, reduceCtorEq] at hc); (try (exfalso; first | omega | contradiction | omega | exact absurd rfl hc | exact absurd (by decide) hc))))))
    (refine At.loopk (σ := Nat) [1, 2, 5, 8, 10, 59, 65, 66] (fun s F0 => (67, .int .i64 (s : Int)) :: F0) (fun s => m') (fun s => .blk b8 44 (cells o) :: .blk b6 40 (Cell.cells (x, (0 : Int)).fst) :: .blk b5 29 t1.cells :: .blk b2 25 K.cells :: Rest) (fun s => s ≤ A.length) (fun s => A.length - s) 0 (by rfl) ?_ zsubs zml zente ?_)
    · exact Nat.zero_le _
    rintro j hj
    by_cases hjl : j < A.length
    rotate_left
    · (repeat' (first | refine zss ?_ | refine zsM ?_ | ((with_reducible apply At.box (d := 2)); exact rfl; exact rfl; exact rfl; intro b2) | ((with_reducible apply At.alloc (d := 5)); exact rfl; exact rfl; intro b5) | ((with_reducible apply At.alloc (d := 6)); exact rfl; exact rfl; intro b6) | ((with_reducible apply At.alloc (d := 8)); exact rfl; exact rfl; intro b8) | ((with_reducible apply At.alloc (d := 12)); exact rfl; exact rfl; intro b12) | ((with_reducible apply At.alloc (d := 15)); exact rfl; exact rfl; intro b15) | ((with_reducible apply At.alloc (d := 17)); exact rfl; exact rfl; intro b17) | (refine zsp ?_ ?_ <;> (intro hc; (try simp only [zhcs, reduceCtorEq] at hc); (try (exfalso; first | omega | contradiction | omega | exact absurd rfl hc | exact absurd (by decide) hc))))))
      all_goals ((with_reducible refine At.reachk ((⟨2 + 1, m'⟩ : FA)) ?_ ?_ ?_ ?_); exact zsubs; exact zml; exact zente; exact ⟨⟨zml, (by decide : 2 + 1 ≤ 3)⟩, (by decide : 3 - (2 + 1) < 3 - 2)⟩)
    obtain ⟨⟨hyn, hy0⟩, hyw, hne, hyc⟩ := hA _ (by rw [getElem!_pos A j hjl]; exact List.getElem_mem hjl : A[j]! ∈ A)
    have hL := hLo.resolve_right hne
    have hLb := last_bd hG hne
    rw [← hL] at hyw hLb
    (repeat' (first | refine zss ?_ | refine zsM ?_ | ((with_reducible apply At.box (d := 2)); exact rfl; exact rfl; exact rfl; intro b2) | ((with_reducible apply At.alloc (d := 5)); exact rfl; exact rfl; intro b5) | ((with_reducible apply At.alloc (d := 6)); exact rfl; exact rfl; intro b6) | ((with_reducible apply At.alloc (d := 8)); exact rfl; exact rfl; intro b8) | ((with_reducible apply At.alloc (d := 12)); exact rfl; exact rfl; intro b12) | ((with_reducible apply At.alloc (d := 15)); exact rfl; exact rfl; intro b15) | ((with_reducible apply At.alloc (d := 17)); exact rfl; exact rfl; intro b17) | (refine zsp ?_ ?_ <;> (intro hc; (try simp only [zhcs, reduceCtorEq] at hc); (try (exfalso; first | omega | contradiction | omega | exact absurd rfl hc | exact absurd (by decide) hc))))))
    (refine At.loopk (σ := FC) [1, 2, 5, 8, 10, 12, 59, 65, 66, 67, 71, 72] (fun s F0 => (73, .int .i64 (s.i : Int)) :: (13, .int .i64 (s.n : Int)) :: F0) (fun s => m') (fun s => .blk b12 44 (cells A[j]!) :: .blk b8 44 (cells o) :: .blk b6 40 (Cell.cells (x, (0 : Int)).fst) :: .blk b5 29 t1.cells :: .blk b2 25 K.cells :: Rest) (fun s => s.i ≤ l.length ∧ s.n ≤ s.i ∧ s.n = (win K.d A[j]!.w (l.take s.i)).length) (fun s => l.length - s.i) ⟨0, 0⟩ (by rfl) ?_ zsubs zml zente ?_)
    · exact ⟨Nat.zero_le _, Nat.zero_le _, rfl⟩
    rintro ⟨i, n⟩ ⟨hi, hn, hne2⟩
    dsimp only at hi hn hne2 ⊢
    by_cases hil : i < l.length
    · have hcs := cnt_snoc (w := K.d) (i := A[j]!.w) hil
      have hT : IntKind.wrap .i64 ((l[i]!).T.tdiv K.d) = (l[i]!).T / K.d := by
        have h1 := (hG.1 l[i]! (by rw [getElem!_pos l i hil]; exact List.getElem_mem hil)).1
        unfold Ev.ok at h1
        exact quo_nn (by omega) (by omega)
      have hW0 : K.d ≠ 0 := by omega
      have hpl : IntKind.wrap .i64 ((n : Int) + 1) = ((n + 1 : Nat) : Int) := wrap_nn (by omega)
      clear hA hyn hy0 hyw hyc hL hLb hLo hI hu hV hG hcf ka
      generalize (l[i]!).T / K.d = qq at *
      by_cases hqe : qq = A[j]!.w
      · rw [if_pos hqe] at hcs
        (repeat' (first | ((with_reducible apply At.mixed (id := 30) 20 (.q 0 (.q 1 (.q 2 (.q 3 (.q 4 (.q 5 (.q 6 (.q 7 (.q 8 (.q 9 (.q 10 (.q 11 (.q 12 (.b 13 17 (.q 14 (.q 15 (.q 16 (.l 17 (.x 18 (.q 19 .done)))))) (.l 13 (.q 14 (.q 15 (.q 16 (.x 18 (.q 19 .done))))))))))))))))))))); exact rfl; kernel_rfl; kernel_rfl; kernel_rfl) | refine zsx ?_ | refine zss ?_ | ((with_reducible apply AtM.bo); exact rfl; exact rfl; exact rfl) | ((first | (with_reducible first | apply At.val | apply AtQ.val) | ((with_reducible first | apply AtM1.valz | apply AtM1.val); exact rfl) | ((with_reducible apply AtM1.val); exact rfl)); (first | exact pr_indexArr (k := 2) (by rfl) (by rfl) (by rfl) (by rfl) (by decide) | exact pr_quo (by rfl) (by rfl) hW0 hT | exact pr_add (by rfl) (by rfl) hpl); exact rfl) | refine zsM ?_ | refine zxM ?_ | ((with_reducible apply At.box (d := 2)); exact rfl; exact rfl; exact rfl; intro b2) | ((with_reducible apply At.alloc (d := 5)); exact rfl; exact rfl; intro b5) | ((with_reducible apply At.alloc (d := 6)); exact rfl; exact rfl; intro b6) | ((with_reducible apply At.alloc (d := 8)); exact rfl; exact rfl; intro b8) | ((with_reducible apply At.alloc (d := 12)); exact rfl; exact rfl; intro b12) | ((with_reducible apply At.alloc (d := 15)); exact rfl; exact rfl; intro b15) | ((with_reducible apply At.alloc (d := 17)); exact rfl; exact rfl; intro b17) | (refine zsp ?_ ?_ <;> (intro hc; (try simp only [zhcs, reduceCtorEq] at hc); (try (exfalso; first | (first | omega | exact absurd hqe hc) | contradiction | omega | exact absurd rfl hc | exact absurd (by decide) hc))))))
        all_goals ((with_reducible refine At.reachk ((⟨i + 1, n + 1⟩ : FC)) ?_ ?_ ?_ ?_); exact zsubs; exact zml; exact zente; exact ⟨⟨hil, by dsimp only; omega, by dsimp only; omega⟩, by dsimp only; omega⟩)
      · rw [if_neg hqe] at hcs
        (repeat' (first | ((with_reducible apply At.mixed (id := 30) 20 (.q 0 (.q 1 (.q 2 (.q 3 (.q 4 (.q 5 (.q 6 (.q 7 (.q 8 (.q 9 (.q 10 (.q 11 (.q 12 (.b 13 17 (.q 14 (.q 15 (.q 16 (.l 17 (.x 18 (.q 19 .done)))))) (.l 13 (.q 14 (.q 15 (.q 16 (.x 18 (.q 19 .done))))))))))))))))))))); exact rfl; kernel_rfl; kernel_rfl; kernel_rfl) | refine zsx ?_ | refine zss ?_ | ((with_reducible apply AtM.bo); exact rfl; exact rfl; exact rfl) | ((first | (with_reducible first | apply At.val | apply AtQ.val) | ((with_reducible first | apply AtM1.valz | apply AtM1.val); exact rfl) | ((with_reducible apply AtM1.val); exact rfl)); (first | exact pr_indexArr (k := 2) (by rfl) (by rfl) (by rfl) (by rfl) (by decide) | exact pr_quo (by rfl) (by rfl) hW0 hT); exact rfl) | refine zsM ?_ | refine zxM ?_ | ((with_reducible apply At.box (d := 2)); exact rfl; exact rfl; exact rfl; intro b2) | ((with_reducible apply At.alloc (d := 5)); exact rfl; exact rfl; intro b5) | ((with_reducible apply At.alloc (d := 6)); exact rfl; exact rfl; intro b6) | ((with_reducible apply At.alloc (d := 8)); exact rfl; exact rfl; intro b8) | ((with_reducible apply At.alloc (d := 12)); exact rfl; exact rfl; intro b12) | ((with_reducible apply At.alloc (d := 15)); exact rfl; exact rfl; intro b15) | ((with_reducible apply At.alloc (d := 17)); exact rfl; exact rfl; intro b17) | (refine zsp ?_ ?_ <;> (intro hc; (try simp only [zhcs, reduceCtorEq] at hc); (try (exfalso; first | (first | omega | exact absurd hc hqe) | contradiction | omega | exact absurd rfl hc | exact absurd (by decide) hc))))))
        all_goals ((with_reducible refine At.reachk ((⟨i + 1, n⟩ : FC)) ?_ ?_ ?_ ?_); exact zsubs; exact zml; exact zente; exact ⟨⟨hil, by dsimp only; omega, by dsimp only; omega⟩, by dsimp only; omega⟩)
    rw [List.take_of_length_le (by omega)] at hne2
    have hnn : (n : Int) = A[j]!.c.n := by omega
    have hqL : IntKind.wrap .i64 (o.c.L.T.tdiv K.d) = o.c.L.T / K.d := quo_nn (by omega) (by omega)
    have hW0 : K.d ≠ 0 := by omega
    obtain ⟨f, ef, eW, g1, g2⟩ := hcf.2
    have hw1 : 1 ≤ K.b := by omega
    have hf3 : IntKind.wrap .i64 (K.d.tdiv K.b) = f := by rw [quo_nn (by omega) hw1, ef]
    obtain ⟨q1, q2, q3⟩ := bd_f hy0 hyw eW hw1 g1 hLb
    have hqw : IntKind.wrap .i64 (o.c.L.T.tdiv K.b) = o.c.L.T / K.b := quo_nn (by omega) hw1
    have hw0 : K.b ≠ 0 := by omega
    have hm1' : IntKind.wrap .i64 (A[j]!.w * f) = A[j]!.w * f := wrap_nn (by omega)
    have hm2 : IntKind.wrap .i64 ((A[j]!.w + 1) * f) = (A[j]!.w + 1) * f := wrap_nn (by omega)
    have hpw : IntKind.wrap .i64 (A[j]!.w + 1) = A[j]!.w + 1 := by
      have h2 := Int.ediv_le_self K.d hLb.1
      exact wrap_nn (by omega)
    have hsb : IntKind.wrap .i64 (o.c.L.T / K.b - K.y) = o.c.L.T / K.b - K.y := IntWalk.i64_in _ (by omega)
    have hk1 : IntKind.wrap .i64 (((2 : Nat) : Int) - 1) = (((2 - 1 : Nat)) : Int) := by decide
    have kfo := fun (m2 : Mem) (h : m1.le m2) => fold_ (m := m2) t1.b.p t1.b.c t1.b.l (A[j]!.w * f) ((A[j]!.w + 1) * f) hu.b.i (okT_dis hI.b.ok) hu.b.n (hu.b.sl.mono h)
    by_cases hsk : A[j]!.w * f ≤ o.c.L.T / K.b - K.y
    · clear kfo hA hyn hy0 hyc hL hLb hLo hI hu hV hG hcf ka hne2 q1 q2 q3 hm2 ef eW g1 g2 hpw
      generalize o.c.L.T / K.d = qq at *
      generalize o.c.L.T / K.b = rr at *
      (repeat' (first | ((with_reducible apply At.mixed (id := 30) 20 (.q 0 (.q 1 (.q 2 (.q 3 (.q 4 (.q 5 (.q 6 (.q 7 (.q 8 (.q 9 (.q 10 (.q 11 (.q 12 (.b 13 17 (.q 14 (.q 15 (.q 16 (.l 17 (.x 18 (.q 19 .done)))))) (.l 13 (.q 14 (.q 15 (.q 16 (.x 18 (.q 19 .done))))))))))))))))))))); exact rfl; kernel_rfl; kernel_rfl; kernel_rfl) | refine zsx ?_ | refine zss ?_ | ((with_reducible apply AtM.bo); exact rfl; exact rfl; exact rfl) | ((first | (with_reducible first | apply At.val | apply AtQ.val) | ((with_reducible first | apply AtM1.valz | apply AtM1.val); exact rfl) | ((with_reducible apply AtM1.val); exact rfl)); (first | exact pr_indexArr (k := 2) (by rfl) (by rfl) (by rfl) (by rfl) (by decide) | exact pr_indexArr (k := 2 - 1) (by rfl) (by rfl) (by rfl) (by rfl) (by decide) | exact pr_quo (by rfl) (by rfl) hW0 hqL | exact pr_quo (by rfl) (by rfl) hw0 hqw | exact pr_quo (by rfl) (by rfl) hw0 hf3 | exact pr_mul (by rfl) (by rfl) hm1' | exact pr_sub (by rfl) (by rfl) hk1 | exact pr_sub (by rfl) (by rfl) hsb); exact rfl) | refine zsM ?_ | refine zxM ?_ | ((with_reducible apply At.box (d := 2)); exact rfl; exact rfl; exact rfl; intro b2) | ((with_reducible apply At.alloc (d := 5)); exact rfl; exact rfl; intro b5) | ((with_reducible apply At.alloc (d := 6)); exact rfl; exact rfl; intro b6) | ((with_reducible apply At.alloc (d := 8)); exact rfl; exact rfl; intro b8) | ((with_reducible apply At.alloc (d := 12)); exact rfl; exact rfl; intro b12) | ((with_reducible apply At.alloc (d := 15)); exact rfl; exact rfl; intro b15) | ((with_reducible apply At.alloc (d := 17)); exact rfl; exact rfl; intro b17) | (refine zsp ?_ ?_ <;> (intro hc; (try simp only [zhcs, reduceCtorEq] at hc); (try (exfalso; first | omega | contradiction | omega | exact absurd rfl hc | exact absurd (by decide) hc))))))
      all_goals ((with_reducible refine At.reachk ((j + 1)) ?_ ?_ ?_ ?_); exact zsubs; exact zml; exact zente; exact ⟨hjl, by omega⟩)
    · have hF := fold_fine hI.b hG hw1 (by omega) g1 hy0 (L := lastT l) (by rw [← eW, ← hL]; exact hyw) (by rw [← hL]; exact hsk)
      rw [← eW, ← hyc] at hF
      change foldC t1.b.l _ _ = _ at hF
      rw [hF] at kfo
      clear hF hA hyn hy0 hyc hL hLb hLo hI hu hV hG hcf ka hne2 q1 q2 q3 ef eW g1 g2
      generalize o.c.L.T / K.d = qq at *
      generalize o.c.L.T / K.b = rr at *
      (repeat' (first | ((with_reducible apply At.mixed (id := 30) 20 (.q 0 (.q 1 (.q 2 (.q 3 (.q 4 (.q 5 (.q 6 (.q 7 (.q 8 (.q 9 (.q 10 (.q 11 (.q 12 (.b 13 17 (.q 14 (.q 15 (.q 16 (.l 17 (.x 18 (.q 19 .done)))))) (.l 13 (.q 14 (.q 15 (.q 16 (.x 18 (.q 19 .done))))))))))))))))))))); exact rfl; kernel_rfl; kernel_rfl; kernel_rfl) | refine zsx ?_ | refine zss ?_ | ((with_reducible apply AtM.bo); exact rfl; exact rfl; exact rfl) | ((first | (with_reducible first | apply At.val | apply AtQ.val) | ((with_reducible first | apply AtM1.valz | apply AtM1.val); exact rfl) | ((with_reducible apply AtM1.val); exact rfl)); (first | exact pr_indexArr (k := 2) (by rfl) (by rfl) (by rfl) (by rfl) (by decide) | exact pr_indexArr (k := 2 - 1) (by rfl) (by rfl) (by rfl) (by rfl) (by decide) | exact pr_quo (by rfl) (by rfl) hW0 hqL | exact pr_quo (by rfl) (by rfl) hw0 hqw | exact pr_quo (by rfl) (by rfl) hw0 hf3 | exact pr_mul (by rfl) (by rfl) hm1' | exact pr_mul (by rfl) (by rfl) hm2 | exact pr_sub (by rfl) (by rfl) hk1 | exact pr_sub (by rfl) (by rfl) hsb | exact pr_add (by rfl) (by rfl) hpw | exact Cell.pr_cne (a := A[j]!.c) (b := A[j]!.c) (by rfl) (by rfl)); exact rfl) | refine zsM ?_ | refine zxM ?_ | ((with_reducible first | apply AtM1.cr | apply AtQ.cr | apply At.cr); exact rfl; exact rfl; exact fun _ hmm => kfo _ zml; exact ztk; kernel_rfl) | ((with_reducible apply At.box (d := 2)); exact rfl; exact rfl; exact rfl; intro b2) | ((with_reducible apply At.alloc (d := 5)); exact rfl; exact rfl; intro b5) | ((with_reducible apply At.alloc (d := 6)); exact rfl; exact rfl; intro b6) | ((with_reducible apply At.alloc (d := 8)); exact rfl; exact rfl; intro b8) | ((with_reducible apply At.alloc (d := 12)); exact rfl; exact rfl; intro b12) | ((with_reducible apply At.alloc (d := 15)); exact rfl; exact rfl; intro b15) | ((with_reducible apply At.alloc (d := 17)); exact rfl; exact rfl; intro b17) | (refine zsp ?_ ?_ <;> (intro hc; (try simp only [zhcs, reduceCtorEq] at hc); (try (exfalso; first | (first | omega | exact absurd rfl hc | (simp at hc; done)) | contradiction | omega | exact absurd rfl hc | exact absurd (by decide) hc))))))
      all_goals ((with_reducible refine At.reachk ((j + 1)) ?_ ?_ ?_ ?_); exact zsubs; exact zml; exact zente; exact ⟨hjl, by omega⟩)
  · (repeat' (first | refine zss ?_ | refine zs0 ?_ | ((with_reducible apply At.box (d := 2)); exact rfl; exact rfl; exact rfl; intro b2) | ((with_reducible apply At.alloc (d := 5)); exact rfl; exact rfl; intro b5) | ((with_reducible apply At.alloc (d := 6)); exact rfl; exact rfl; intro b6) | ((with_reducible apply At.alloc (d := 8)); exact rfl; exact rfl; intro b8) | ((with_reducible apply At.alloc (d := 12)); exact rfl; exact rfl; intro b12) | ((with_reducible apply At.alloc (d := 15)); exact rfl; exact rfl; intro b15) | ((with_reducible apply At.alloc (d := 17)); exact rfl; exact rfl; intro b17) | (refine zsp ?_ ?_ <;> (intro hc; (try simp only [zhcs, reduceCtorEq] at hc); (try (exfalso; first | omega | contradiction | omega | exact absurd rfl hc | exact absurd (by decide) hc))))))
    all_goals ((with_reducible apply At.retB1 (B := [])); exact rfl; exact rfl; exact zml; exact zkp; exact ⟨rfl, rfl⟩)
end T7
namespace TopFineL
open Go.ChangeShapes Go.WideShapes Go.ChangeAt Go.RowKit
open Go.ChangeMaps (open_string shut_string)
theorem own : ownKnob Try.prog.godebug = none := by kernel_rfl
theorem laidOut : laidOutB Try.prog = true := by kernel_rfl
set_option maxRecDepth 100000 in
theorem lifted (os : Os) (started : os.Started) (H : Type) (enc : TypeId × Value → H) :
    ReturnsInHanded {} Try.checked os 3 .any (Rows.topFineSpec.pre6 enc Try.prog Try.f3 Rows.topFineRow.domain false) (Rows.topFineSpec.post enc Try.prog Try.f3 false true false false) := by
  refine returnsInHanded_of_change (C := Try.checked) own started (by kernel_rfl) Try.func3
    (ChangeSpec.witness6 (enc := enc) (C := Try.checked) false ⟨#[], #[.agg #[.int .i64 0, .int .i64 0, .int .i64 0, .int .i64 0, .int .i64 0, .int .i64 0, .int .i64 0, .int .i64 0, .int .i64 0], .slice none 0 0], []⟩ 8 (by kernel_rfl) (by kernel_rfl) (by kernel_rfl) (by kernel_rfl)) ?_
  intro W base args ds gs before hval0 hW hcnd _
  have hval : ∀ (j : Nat) t v, Try.f3.params[j]? = some t → args[j]? = some v → Value.okWide Try.prog W .any base t v := hval0
  have hW' := hW
  obtain ⟨p, q, hA0, hV, rfl, hfz, hnd⟩ := hW
  have hA : DataW.TrodAll enc Try.prog W 0 (fun _ => true) true Try.f3.params.toList args.toList ds p := hA0
  rw [Try.params3] at hA hval
  obtain ⟨rfl, rfl⟩ := trodVars_none hV
  have hlt : ∀ x ∈ p, x.block < W.heap.size := fun x hx => hW'.lt x (by simpa using hx)
  have hback := fun (W' : World) (bel : Below W.heap.size W W') => trodAll_below laidOut bel _ _ _ _ (by kernel_rfl) hA hlt
  obtain ⟨v0, vs0, d0, ds0, p0, q0, hargs, rfl, rfl, h0, r0⟩ := trodAll_cons hA
  obtain ⟨v1, vs1, d1, ds1, p1, q1, rfl, rfl, rfl, h1, r1⟩ := trodAll_cons r0
  obtain ⟨rfl, rfl, rfl⟩ := trodAll_nil r1
  obtain rfl : args = #[v0, v1] := by cases args; simp_all
  obtain ⟨a0, rfl, w0⟩ := open_flat_arg (f := Cfg.cells) (φ := fun _ => True) [.int .i64, .int .i64, .int .i64, .int .i64, .int .i64, .int .i64, .int .i64, .int .i64, .int .i64] Try.underlying25 (by kernel_rfl) Cfg.dec_cfg (hval 0 25 v0 rfl rfl) h0
  obtain ⟨p1, c1, a1, rfl, s1, w1⟩ := open_sl_arg (f := Ev.cells) (sz := 4) inferInstance (Ev.In) Try.underlying26 (by rfl) (dec_flat' [.int .i64, .int .u64, .int .i64, .bool] (by kernel_rfl) Ev.dec_ev) (okWide_slice Try.underlying26 (hval 1 26 v1 rfl rfl)) h1
  refine (law_calls (Ct.mono (T7.fineL (m := memOf W) a0 p1 c1 a1 (fun e he => (w1 e he).2.2.1) s1) fun v m' B _ h => h.1)).mono fun e W' ⟨he, bel⟩ => ?_
  subst he
  exact ⟨_, rfl, _, _, _, [], _, [], hW', trodAll_mk1 (shut_bool Try.underlying4 _), hback W' bel, rfl, bel.frame _, fun h => by cases h⟩
theorem over : Rows.topFineRow.holds Try.pinned (OpenSpec.ofChange Rows.topFineSpec) :=
  OpenClaim.holds_of_wide 3 Try.f3 rfl rfl rfl rfl rfl rfl rfl ⟨rfl, rfl, rfl, rfl, rfl⟩ rfl rfl rfl rfl rfl (by kernel_rfl) Try.func3 (by kernel_rfl)
    (of_decide_eq_true (by kernel_rfl)) (by unfold Func.isWrapper; first | (rw [if_pos (by decide +kernel)]; kernel_rfl) | (rw [if_neg (by decide +kernel)]; exact ⟨rfl, rfl⟩))
    (fun os started H enc _ => lifted os started H enc)
theorem proved : Rows.TopFineSaid := over
end TopFineL
end Go.Proofs.Ytojchlcbbjpkpaa

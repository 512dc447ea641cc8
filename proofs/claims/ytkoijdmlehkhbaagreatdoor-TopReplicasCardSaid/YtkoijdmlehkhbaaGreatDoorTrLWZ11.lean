/- Part 11 of what the law's proof needs: rules of the walk, contracts of functions, plain laws. No condition. -/
import Derived.Test.YtkoijdmlehkhbaaGreatDoorTrLWZ10
import Derived.Test.YtkoijdmlehkhbaaGreatDoorRows
set_option linter.unusedSimpArgs false
set_option linter.unusedVariables false
set_option linter.unusedSectionVars false
set_option maxRecDepth 20000
set_option maxHeartbeats 4000000
namespace Go.Proofs.YtkoijdmlehkhbaaGreatDoor
open Go Go.J
attribute [local irreducible] At AtQ AtM AtM1 PR Ct Pu Rd Res.blk Res.own Res.ex RVs RV
namespace Fo
open Slot Win Ti
theorem upL_same {K : Cfg} {k : Nat} {b l : List Slot} {i j : Int} (h : i * K.a / Kw K k = j * K.a / Kw K k) : upL K k b l i j = l := if_pos h
theorem upL_no {K : Cfg} {k : Nat} {b l : List Slot} {i j : Int} {r : Cell × Int} (h : ¬ i * K.a / Kw K k = j * K.a / Kw K k) (hr : foldC b (i * K.a / Kw K k * (Kw K k / Kw K (k - 1))) ((i * K.a / Kw K k + 1) * (Kw K k / Kw K (k - 1))) = r) (h2 : ¬ (r.2 = 0 ∧ 0 < r.1.n)) : upL K k b l i j = l := by
  subst hr
  exact (if_neg h).trans (if_neg h2)
theorem upL_yes {K : Cfg} {k : Nat} {b l : List Slot} {i j : Int} {r : Cell × Int} (h : ¬ i * K.a / Kw K k = j * K.a / Kw K k) (hr : foldC b (i * K.a / Kw K k * (Kw K k / Kw K (k - 1))) ((i * K.a / Kw K k + 1) * (Kw K k / Kw K (k - 1))) = r) (h2 : r.2 = 0 ∧ 0 < r.1.n) (h3 : putE l (Kw K k) (i * K.a / Kw K k) r.1 = 0) : upL K k b l i j = putO l (Kw K k) (i * K.a / Kw K k) r.1 := by
  subst hr
  exact ((if_neg h).trans (if_pos h2)).trans (if_pos h3)
theorem upL_not {K : Cfg} {k : Nat} {b l : List Slot} {i j : Int} {r : Cell × Int} (h : ¬ i * K.a / Kw K k = j * K.a / Kw K k) (hr : foldC b (i * K.a / Kw K k * (Kw K k / Kw K (k - 1))) ((i * K.a / Kw K k + 1) * (Kw K k / Kw K (k - 1))) = r) (h2 : r.2 = 0 ∧ 0 < r.1.n) (h3 : ¬ putE l (Kw K k) (i * K.a / Kw K k) r.1 = 0) : upL K k b l i j = l := by
  subst hr
  exact ((if_neg h).trans (if_pos h2)).trans (if_neg h3)
theorem putY {m : Mem} {q : Nat} {K : Cfg} {t : TT} {k : Nat} {i : Int} {x : Cell} {f : FuncId} {args : Array Value} {A : List Res} (h : Ct Tryz.prog f args m A (PutP q K t k i x)) (e : putE (t.get k).l (Kw K k) i x = 0) :
    Ct Tryz.prog f args m A (fun v m' B => v = .int .i64 0 ∧ ∃ n : Lst Slot, n.l = putO (t.get k).l (Kw K k) i x ∧ Sl m' cells 15 n.p n.c n.l ∧ B = kt q K (t.set n k)) :=
  Ct.mono h fun v m' B _ ⟨h1, n, h2, h3, h4⟩ => ⟨h1.trans (by rw [e]), n, h2, h3, by rw [h4, if_pos e]⟩
theorem putN {m : Mem} {q : Nat} {K : Cfg} {t : TT} {k : Nat} {i : Int} {x : Cell} {f : FuncId} {args : Array Value} {A : List Res} (h : Ct Tryz.prog f args m A (PutP q K t k i x)) (e : ¬ putE (t.get k).l (Kw K k) i x = 0) :
    Ct Tryz.prog f args m A (fun v m' B => v = .int .i64 2 ∧ B = kt q K t) :=
  Ct.mono h fun v m' B _ ⟨h1, n, h2, h3, h4⟩ => ⟨h1.trans (by rw [(putE_cases _ _ _ _).resolve_left e]), by rw [h4, if_neg e]⟩
theorem over_bd {x w : Int} (hx : 0 ≤ x ∧ x ≤ 35184372088832) (hw : 1 ≤ w) : (0 ≤ x / w ∧ x / w ≤ 35184372088832) ∧ x / w * w ≤ 35184372088832 := by
  have h1 := Int.ediv_nonneg hx.1 (show 0 ≤ w by omega)
  have h2 := Int.ediv_le_self w hx.1
  have h3 := Int.ediv_mul_le x (show w ≠ 0 by omega)
  omega
structure US where
  (k : Nat) (m : Mem) (t : TT)
theorem upF {m : Mem} (q : Nat) (K : Cfg) (t : TT) (i j : Int) (ho : t.Ok m) (hK : K.ok) (h0 : okT t.a.l K.a) (h1 : okT t.b.l K.b) (h2 : okT t.c.l K.d) (hi : 0 ≤ i * K.a ∧ i * K.a ≤ 35184372088832) (hj : 0 ≤ j * K.a ∧ j * K.a ≤ 35184372088832) :
    Ct Tryz.prog 168 #[pt q, .int .i64 i, .int .i64 j] m (kt q K t) (fun v m' B => v = .tuple #[] ∧ ∃ t' : TT, t'.Ok m' ∧ t'.ls = up K t.ls i j ∧ B = kt q K t') := by
  have wi : IntKind.wrap .i64 (i * K.a) = i * K.a := IntWalk.i64_in _ (by omega)
  have wj : IntKind.wrap .i64 (j * K.a) = j * K.a := IntWalk.i64_in _ (by omega)
  refine Ct.enterV (by rfl) Tryz.func168 rfl Tryz.ntmps168 rfl (fun w0 Rest => ?_)
  (repeat' (first | refine zss ?_ | refine zs0 ?_ | ((with_reducible apply At.alloc (d := 9)); exact rfl; exact rfl; intro b9) | (refine zsp ?_ ?_ <;> (intro hc; (try simp only [zhcs, reduceCtorEq] at hc); (try (exfalso; first | contradiction | omega | exact absurd rfl hc | exact absurd (by decide) hc))))))
  (refine At.loopk (σ := US) [0, 1, 2] (fun s F0 => (6, .int .i64 (s.k : Int)) :: F0) (fun s => s.m) (fun s => .blk q 248 (K.cells ++ s.t.cells) :: Rest) (fun s => m.le s.m ∧ s.t.Ok s.m ∧ ((s.k = 1 ∧ s.t = t) ∨ (s.k = 2 ∧ s.t.a = t.a ∧ s.t.c = t.c ∧ s.t.b.l = upL K 1 t.a.l t.b.l i j) ∨ (s.k = 3 ∧ s.t.ls = up K t.ls i j))) (fun s => 3 - s.k) ⟨1, m, t⟩ (by rfl) ?_ zsubs zml zente ?_)
  · exact ⟨Mem.le_refl _, ho, .inl ⟨rfl, rfl⟩⟩
  rintro ⟨k, m1, T⟩ ⟨hm1, hT, hk⟩
  dsimp only at hm1 hT hk ⊢
  rcases hk with ⟨rfl, rfl⟩ | ⟨rfl, e1, e2, e3⟩ | ⟨rfl, e1⟩
  · have hw := Kw_bd hK 1
    have hu := Kw_bd hK 0
    change 1 ≤ K.b ∧ K.b ≤ _ at hw
    change 1 ≤ K.a ∧ K.a ≤ _ at hu
    have oi := over_bd hi hw.1
    have oj := over_bd hj hw.1
    have d1 : (i * K.a).tdiv K.b = i * K.a / K.b := Int.tdiv_eq_ediv_of_nonneg hi.1
    have d2 : (j * K.a).tdiv K.b = j * K.a / K.b := Int.tdiv_eq_ediv_of_nonneg hj.1
    have q1 : IntKind.wrap .i64 ((i * K.a).tdiv K.b) = i * K.a / K.b := by rw [d1]; exact IntWalk.i64_in _ (by omega)
    have q2 : IntKind.wrap .i64 ((j * K.a).tdiv K.b) = j * K.a / K.b := by rw [d2]; exact IntWalk.i64_in _ (by omega)
    by_cases ho1 : i * K.a / K.b = j * K.a / K.b
    · have hs : T.b.l = upL K 1 T.a.l T.b.l i j := (upL_same (k := 1) ho1).symm
      rw [← ho1] at q2
      clear d1 d2 oi oj
      (repeat' (first | refine zss ?_ | ((first | (with_reducible first | apply At.val | apply AtQ.val)); (first | exact pr_indexArr (k := 0) (by rfl) (by rfl) (by rfl) (by rfl) (by decide) | exact pr_indexArr (k := 1) (by rfl) (by rfl) (by rfl) (by rfl) (by decide) | exact pr_mul (by rfl) (by rfl) wi | exact pr_mul (by rfl) (by rfl) wj | exact pr_quo (by rfl) (by rfl) (by omega) q1 | exact pr_quo (by rfl) (by rfl) (by omega) q2); exact rfl) | refine zs0 ?_ | ((with_reducible apply At.alloc (d := 9)); exact rfl; exact rfl; intro b9) | (refine zsp ?_ ?_ <;> (intro hc; (try simp only [zhcs, reduceCtorEq] at hc); (try (exfalso; first | (first | omega | exact absurd rfl hc) | contradiction | omega | exact absurd rfl hc | exact absurd (by decide) hc))))))
      all_goals ((with_reducible refine At.reachk ((⟨2, m1, T⟩ : US)) ?_ ?_ ?_ ?_); exact zsubs; exact zml; exact zente; exact ⟨⟨zml, hT, .inr (.inl ⟨rfl, rfl, rfl, hs⟩)⟩, (by decide : 3 - 2 < 3 - 1)⟩)
    have km := fun (m' : Mem) (h : m1.le m') => made1 (m := m') q K T (i * K.a / K.b) (hT.mono h) hK (okT_dis h0) oi.1 oi.2
    obtain ⟨r, hr⟩ : ∃ r, madeC K T 1 (i * K.a / K.b) = r := ⟨_, rfl⟩
    have hri : Cell.In r.1 := hr ▸ foldC_in hT.a.i _ _
    rw [hr] at km
    by_cases ho2 : r.2 = 0 ∧ 0 < r.1.n
    rotate_left
    · have hs : T.b.l = upL K 1 T.a.l T.b.l i j := (upL_no (k := 1) ho1 hr ho2).symm
      clear d1 d2 oi oj
      generalize i * K.a / K.b = o at *
      generalize j * K.a / K.b = nw at *
      (repeat' (first | refine zss ?_ | ((first | (with_reducible first | apply At.val | apply AtQ.val)); (first | exact pr_indexArr (k := 0) (by rfl) (by rfl) (by rfl) (by rfl) (by decide) | exact pr_indexArr (k := 1) (by rfl) (by rfl) (by rfl) (by rfl) (by decide) | exact pr_mul (by rfl) (by rfl) wi | exact pr_mul (by rfl) (by rfl) wj | exact pr_quo (by rfl) (by rfl) (by omega) q1 | exact pr_quo (by rfl) (by rfl) (by omega) q2); exact rfl) | refine zs0 ?_ | ((with_reducible first | apply AtM1.cr | apply AtQ.cr | apply At.cr); exact rfl; exact rfl; exact fun _ hmm => km _ hmm; exact ztk; kernel_rfl) | ((with_reducible apply At.alloc (d := 9)); exact rfl; exact rfl; intro b9) | (refine zsp ?_ ?_ <;> (intro hc; (try simp only [zhcs, reduceCtorEq] at hc); (try (exfalso; first | (first | omega | exact absurd hc ho1) | contradiction | omega | exact absurd rfl hc | exact absurd (by decide) hc))))))
      all_goals ((with_reducible refine At.reachk ((⟨2, m1, T⟩ : US)) ?_ ?_ ?_ ?_); exact zsubs; exact zml; exact zente; exact ⟨⟨zml, hT, .inr (.inl ⟨rfl, rfl, rfl, hs⟩)⟩, (by decide : 3 - 2 < 3 - 1)⟩)
    have kp := fun (m' : Mem) (h : m1.le m') => put1 (m := m') q K T (i * K.a / K.b) r.1 (hT.mono h) (by omega) hri.1
    by_cases ho3 : putE T.b.l K.b (i * K.a / K.b) r.1 = 0
    · have hs : ∀ n : Lst Slot, n.l = putO T.b.l K.b (i * K.a / K.b) r.1 → n.l = upL K 1 T.a.l T.b.l i j := fun n hn => hn.trans (upL_yes (k := 1) ho1 hr ho2 ho3).symm
      have hn : ∀ (m' : Mem) (n : Lst Slot), n.l = putO T.b.l K.b (i * K.a / K.b) r.1 → Sl m' cells 15 n.p n.c n.l → TT.OkL m' n := fun m' n hn sl => ⟨sl, by rw [hn]; exact putO_in hT.b.i hri (by omega), by rw [hn]; exact Nat.le_trans (putO_le _ _ _ _) hT.b.n⟩
      have kp := fun (m' : Mem) (h : m1.le m') => putY (kp m' h) ho3
      change ∀ m' (h : m1.le m'), Ct _ _ _ _ _ (fun v m' B => v = .int .i64 0 ∧ ∃ n : Lst Slot, n.l = putO T.b.l K.b (i * K.a / K.b) r.1 ∧ Sl m' cells 15 n.p n.c n.l ∧ B = kt q K ⟨T.a, n, T.c⟩) at kp
      clear d1 d2 oi oj
      generalize i * K.a / K.b = o at *
      generalize j * K.a / K.b = nw at *
      (repeat' (first | refine zss ?_ | ((first | (with_reducible first | apply At.val | apply AtQ.val)); (first | exact pr_indexArr (k := 0) (by rfl) (by rfl) (by rfl) (by rfl) (by decide) | exact pr_indexArr (k := 1) (by rfl) (by rfl) (by rfl) (by rfl) (by decide) | exact pr_mul (by rfl) (by rfl) wi | exact pr_mul (by rfl) (by rfl) wj | exact pr_quo (by rfl) (by rfl) (by omega) q1 | exact pr_quo (by rfl) (by rfl) (by omega) q2); exact rfl) | refine zs0 ?_ | ((with_reducible first | apply AtM1.cr | apply AtQ.cr | apply At.cr); exact rfl; exact rfl; exact fun _ hmm => km _ hmm; exact ztk; kernel_rfl) | ((with_reducible first | apply At.c1 | apply At.c0); exact rfl; exact rfl; exact kp _ zml; exact ztk; kernel_rfl; rintro v' m' B' hm' ⟨rfl, n, hn1, sl9, rfl⟩; (try replace sl9 := sl9.mono hm'); (try (have hq0 : hm' = Mem.le_refl _ := rfl; clear hq0 hm'))) | ((with_reducible apply At.alloc (d := 9)); exact rfl; exact rfl; intro b9) | (refine zsp ?_ ?_ <;> (intro hc; (try simp only [zhcs, reduceCtorEq] at hc); (try (exfalso; first | (first | omega | exact absurd hc ho1) | contradiction | omega | exact absurd rfl hc | exact absurd (by decide) hc))))))
      all_goals ((with_reducible refine At.reachk ((⟨2, m', ⟨T.a, n, T.c⟩⟩ : US)) ?_ ?_ ?_ ?_); exact zsubs; exact zml; exact zente; exact ⟨⟨zml, ⟨hT.a.mono zml, hn _ n hn1 sl9, hT.c.mono zml⟩, .inr (.inl ⟨rfl, rfl, rfl, hs n hn1⟩)⟩, (by decide : 3 - 2 < 3 - 1)⟩)
    · have hs : T.b.l = upL K 1 T.a.l T.b.l i j := (upL_not (k := 1) ho1 hr ho2 ho3).symm
      have kp := fun (m' : Mem) (h : m1.le m') => putN (kp m' h) ho3
      clear d1 d2 oi oj
      generalize i * K.a / K.b = o at *
      generalize j * K.a / K.b = nw at *
      (repeat' (first | refine zss ?_ | ((first | (with_reducible first | apply At.val | apply AtQ.val)); (first | exact pr_indexArr (k := 0) (by rfl) (by rfl) (by rfl) (by rfl) (by decide) | exact pr_indexArr (k := 1) (by rfl) (by rfl) (by rfl) (by rfl) (by decide) | exact pr_mul (by rfl) (by rfl) wi | exact pr_mul (by rfl) (by rfl) wj | exact pr_quo (by rfl) (by rfl) (by omega) q1 | exact pr_quo (by rfl) (by rfl) (by omega) q2); exact rfl) | refine zs0 ?_ | ((with_reducible first | apply AtM1.cr | apply AtQ.cr | apply At.cr); exact rfl; exact rfl; exact fun _ hmm => km _ hmm; exact ztk; kernel_rfl) | ((with_reducible first | apply At.c1 | apply At.c0); exact rfl; exact rfl; exact kp _ zml; exact ztk; kernel_rfl; rintro v' m' B' hm' ⟨rfl, rfl⟩; (try replace sl9 := sl9.mono hm'); (try (have hq0 : hm' = Mem.le_refl _ := rfl; clear hq0 hm'))) | ((with_reducible apply At.alloc (d := 9)); exact rfl; exact rfl; intro b9) | (refine zsp ?_ ?_ <;> (intro hc; (try simp only [zhcs, reduceCtorEq] at hc); (try (exfalso; first | (first | omega | exact absurd hc ho1) | contradiction | omega | exact absurd rfl hc | exact absurd (by decide) hc))))))
      all_goals ((with_reducible refine At.reachk ((⟨2, m', T⟩ : US)) ?_ ?_ ?_ ?_); exact zsubs; exact zml; exact zente; exact ⟨⟨zml, hT.mono zml, .inr (.inl ⟨rfl, rfl, rfl, hs⟩)⟩, (by decide : 3 - 2 < 3 - 1)⟩)
  · have hw := Kw_bd hK 2
    have hu := Kw_bd hK 1
    change 1 ≤ K.d ∧ K.d ≤ _ at hw
    change 1 ≤ K.b ∧ K.b ≤ _ at hu
    have oi := over_bd hi hw.1
    have oj := over_bd hj hw.1
    have d1 : (i * K.a).tdiv K.d = i * K.a / K.d := Int.tdiv_eq_ediv_of_nonneg hi.1
    have d2 : (j * K.a).tdiv K.d = j * K.a / K.d := Int.tdiv_eq_ediv_of_nonneg hj.1
    have q1 : IntKind.wrap .i64 ((i * K.a).tdiv K.d) = i * K.a / K.d := by rw [d1]; exact IntWalk.i64_in _ (by omega)
    have q2 : IntKind.wrap .i64 ((j * K.a).tdiv K.d) = j * K.a / K.d := by rw [d2]; exact IntWalk.i64_in _ (by omega)
    have hlc : T.c.l = t.c.l := by rw [e2]
    have fin : ∀ n : Lst Slot, n.l = upL K 2 T.b.l T.c.l i j → (⟨T.a, T.b, n⟩ : TT).ls = up K t.ls i j := fun n hn => by
      show (⟨T.a.l, T.b.l, n.l⟩ : L3) = ⟨t.a.l, upL K 1 t.a.l t.b.l i j, upL K 2 (upL K 1 t.a.l t.b.l i j) t.c.l i j⟩
      rw [hn, e1, e3, hlc]
    by_cases ho1 : i * K.a / K.d = j * K.a / K.d
    · have hs : T.c.l = upL K 2 T.b.l T.c.l i j := (upL_same (k := 2) ho1).symm
      rw [← ho1] at q2
      clear d1 d2 oi oj
      (repeat' (first | refine zss ?_ | ((first | (with_reducible first | apply At.val | apply AtQ.val)); (first | exact pr_indexArr (k := 0) (by rfl) (by rfl) (by rfl) (by rfl) (by decide) | exact pr_indexArr (k := 2) (by rfl) (by rfl) (by rfl) (by rfl) (by decide) | exact pr_mul (by rfl) (by rfl) wi | exact pr_mul (by rfl) (by rfl) wj | exact pr_quo (by rfl) (by rfl) (by omega) q1 | exact pr_quo (by rfl) (by rfl) (by omega) q2); exact rfl) | refine zs0 ?_ | ((with_reducible apply At.alloc (d := 9)); exact rfl; exact rfl; intro b9) | (refine zsp ?_ ?_ <;> (intro hc; (try simp only [zhcs, reduceCtorEq] at hc); (try (exfalso; first | (first | omega | exact absurd rfl hc) | contradiction | omega | exact absurd rfl hc | exact absurd (by decide) hc))))))
      all_goals ((with_reducible refine At.reachk ((⟨3, m1, T⟩ : US)) ?_ ?_ ?_ ?_); exact zsubs; exact zml; exact zente; exact ⟨⟨zml, hT, .inr (.inr ⟨rfl, fin _ hs⟩)⟩, (by decide : 3 - 3 < 3 - 2)⟩)
    have km := fun (m' : Mem) (h : m1.le m') => made2 (m := m') q K T (i * K.a / K.d) (hT.mono h) hK (okT_dis (e3 ▸ upL_ok (k := 1) h1)) oi.1 oi.2
    obtain ⟨r, hr⟩ : ∃ r, madeC K T 2 (i * K.a / K.d) = r := ⟨_, rfl⟩
    have hri : Cell.In r.1 := hr ▸ foldC_in hT.b.i _ _
    rw [hr] at km
    by_cases ho2 : r.2 = 0 ∧ 0 < r.1.n
    rotate_left
    · have hs : T.c.l = upL K 2 T.b.l T.c.l i j := (upL_no (k := 2) ho1 hr ho2).symm
      clear d1 d2 oi oj
      generalize i * K.a / K.d = o at *
      generalize j * K.a / K.d = nw at *
      (repeat' (first | refine zss ?_ | ((first | (with_reducible first | apply At.val | apply AtQ.val)); (first | exact pr_indexArr (k := 0) (by rfl) (by rfl) (by rfl) (by rfl) (by decide) | exact pr_indexArr (k := 2) (by rfl) (by rfl) (by rfl) (by rfl) (by decide) | exact pr_mul (by rfl) (by rfl) wi | exact pr_mul (by rfl) (by rfl) wj | exact pr_quo (by rfl) (by rfl) (by omega) q1 | exact pr_quo (by rfl) (by rfl) (by omega) q2); exact rfl) | refine zs0 ?_ | ((with_reducible first | apply AtM1.cr | apply AtQ.cr | apply At.cr); exact rfl; exact rfl; exact fun _ hmm => km _ hmm; exact ztk; kernel_rfl) | ((with_reducible apply At.alloc (d := 9)); exact rfl; exact rfl; intro b9) | (refine zsp ?_ ?_ <;> (intro hc; (try simp only [zhcs, reduceCtorEq] at hc); (try (exfalso; first | (first | omega | exact absurd hc ho1) | contradiction | omega | exact absurd rfl hc | exact absurd (by decide) hc))))))
      all_goals ((with_reducible refine At.reachk ((⟨3, m1, T⟩ : US)) ?_ ?_ ?_ ?_); exact zsubs; exact zml; exact zente; exact ⟨⟨zml, hT, .inr (.inr ⟨rfl, fin _ hs⟩)⟩, (by decide : 3 - 3 < 3 - 2)⟩)
    have kp := fun (m' : Mem) (h : m1.le m') => put2 (m := m') q K T (i * K.a / K.d) r.1 (hT.mono h) (by omega) hri.1
    by_cases ho3 : putE T.c.l K.d (i * K.a / K.d) r.1 = 0
    · have hs : ∀ n : Lst Slot, n.l = putO T.c.l K.d (i * K.a / K.d) r.1 → n.l = upL K 2 T.b.l T.c.l i j := fun n hn => hn.trans (upL_yes (k := 2) ho1 hr ho2 ho3).symm
      have hn : ∀ (m' : Mem) (n : Lst Slot), n.l = putO T.c.l K.d (i * K.a / K.d) r.1 → Sl m' cells 15 n.p n.c n.l → TT.OkL m' n := fun m' n hn sl => ⟨sl, by rw [hn]; exact putO_in hT.c.i hri (by omega), by rw [hn]; exact Nat.le_trans (putO_le _ _ _ _) hT.c.n⟩
      have kp := fun (m' : Mem) (h : m1.le m') => putY (kp m' h) ho3
      change ∀ m' (h : m1.le m'), Ct _ _ _ _ _ (fun v m' B => v = .int .i64 0 ∧ ∃ n : Lst Slot, n.l = putO T.c.l K.d (i * K.a / K.d) r.1 ∧ Sl m' cells 15 n.p n.c n.l ∧ B = kt q K ⟨T.a, T.b, n⟩) at kp
      clear d1 d2 oi oj
      generalize i * K.a / K.d = o at *
      generalize j * K.a / K.d = nw at *
      (repeat' (first | refine zss ?_ | ((first | (with_reducible first | apply At.val | apply AtQ.val)); (first | exact pr_indexArr (k := 0) (by rfl) (by rfl) (by rfl) (by rfl) (by decide) | exact pr_indexArr (k := 2) (by rfl) (by rfl) (by rfl) (by rfl) (by decide) | exact pr_mul (by rfl) (by rfl) wi | exact pr_mul (by rfl) (by rfl) wj | exact pr_quo (by rfl) (by rfl) (by omega) q1 | exact pr_quo (by rfl) (by rfl) (by omega) q2); exact rfl) | refine zs0 ?_ | ((with_reducible first | apply AtM1.cr | apply AtQ.cr | apply At.cr); exact rfl; exact rfl; exact fun _ hmm => km _ hmm; exact ztk; kernel_rfl) | ((with_reducible first | apply At.c1 | apply At.c0); exact rfl; exact rfl; exact kp _ zml; exact ztk; kernel_rfl; rintro v' m' B' hm' ⟨rfl, n, hn1, sl9, rfl⟩; (try replace sl9 := sl9.mono hm'); (try (have hq0 : hm' = Mem.le_refl _ := rfl; clear hq0 hm'))) | ((with_reducible apply At.alloc (d := 9)); exact rfl; exact rfl; intro b9) | (refine zsp ?_ ?_ <;> (intro hc; (try simp only [zhcs, reduceCtorEq] at hc); (try (exfalso; first | (first | omega | exact absurd hc ho1) | contradiction | omega | exact absurd rfl hc | exact absurd (by decide) hc))))))
      all_goals ((with_reducible refine At.reachk ((⟨3, m', ⟨T.a, T.b, n⟩⟩ : US)) ?_ ?_ ?_ ?_); exact zsubs; exact zml; exact zente; exact ⟨⟨zml, ⟨hT.a.mono zml, hT.b.mono zml, hn _ n hn1 sl9⟩, .inr (.inr ⟨rfl, fin _ (hs n hn1)⟩)⟩, (by decide : 3 - 3 < 3 - 2)⟩)
    · have hs : T.c.l = upL K 2 T.b.l T.c.l i j := (upL_not (k := 2) ho1 hr ho2 ho3).symm
      have kp := fun (m' : Mem) (h : m1.le m') => putN (kp m' h) ho3
      clear d1 d2 oi oj
      generalize i * K.a / K.d = o at *
      generalize j * K.a / K.d = nw at *
      (repeat' (first | refine zss ?_ | ((first | (with_reducible first | apply At.val | apply AtQ.val)); (first | exact pr_indexArr (k := 0) (by rfl) (by rfl) (by rfl) (by rfl) (by decide) | exact pr_indexArr (k := 2) (by rfl) (by rfl) (by rfl) (by rfl) (by decide) | exact pr_mul (by rfl) (by rfl) wi | exact pr_mul (by rfl) (by rfl) wj | exact pr_quo (by rfl) (by rfl) (by omega) q1 | exact pr_quo (by rfl) (by rfl) (by omega) q2); exact rfl) | refine zs0 ?_ | ((with_reducible first | apply AtM1.cr | apply AtQ.cr | apply At.cr); exact rfl; exact rfl; exact fun _ hmm => km _ hmm; exact ztk; kernel_rfl) | ((with_reducible first | apply At.c1 | apply At.c0); exact rfl; exact rfl; exact kp _ zml; exact ztk; kernel_rfl; rintro v' m' B' hm' ⟨rfl, rfl⟩; (try replace sl9 := sl9.mono hm'); (try (have hq0 : hm' = Mem.le_refl _ := rfl; clear hq0 hm'))) | ((with_reducible apply At.alloc (d := 9)); exact rfl; exact rfl; intro b9) | (refine zsp ?_ ?_ <;> (intro hc; (try simp only [zhcs, reduceCtorEq] at hc); (try (exfalso; first | (first | omega | exact absurd hc ho1) | contradiction | omega | exact absurd rfl hc | exact absurd (by decide) hc))))))
      all_goals ((with_reducible refine At.reachk ((⟨3, m', T⟩ : US)) ?_ ?_ ?_ ?_); exact zsubs; exact zml; exact zente; exact ⟨⟨zml, hT.mono zml, .inr (.inr ⟨rfl, fin _ hs⟩)⟩, (by decide : 3 - 3 < 3 - 2)⟩)
  · (repeat' (first | refine zss ?_ | refine zs0 ?_ | ((with_reducible apply At.alloc (d := 9)); exact rfl; exact rfl; intro b9) | (refine zsp ?_ ?_ <;> (intro hc; (try simp only [zhcs, reduceCtorEq] at hc); (try (exfalso; first | omega | contradiction | omega | exact absurd rfl hc | exact absurd (by decide) hc))))))
    all_goals ((first | (with_reducible apply At.retB0 (B := kt q K T)) | (with_reducible apply At.retR0 (B := kt q K T))); exact rfl; exact zml; exact zkp; exact ⟨rfl, T, hT, e1, rfl⟩)
end Fo
end Go.Proofs.YtkoijdmlehkhbaaGreatDoor
namespace Go.Proofs.YtkoijdmlehkhbaaGreatDoor
open Go Go.J
attribute [local irreducible] At AtQ AtM AtM1 PR Ct Pu Rd Res.blk Res.own Res.ex RVs RV
namespace Fo
open Slot Win Ti
def emp (K : Cfg) : L3 := if K.ok then ⟨newL K.x, newL K.y, newL K.w⟩ else ⟨[], [], []⟩
theorem z_in : Slot.In Slot.z := by unfold Slot.In; decide
theorem newL_in (n : Int) : ∀ s ∈ newL n, Slot.In s := fun s hs => by
  unfold newL at hs
  split at hs
  · exact absurd hs List.not_mem_nil
  · rw [(List.mem_replicate.1 hs).2]; exact z_in
theorem newL_len (n : Int) : (newL n).length ≤ 1000000 := by
  unfold newL
  split
  · exact Nat.zero_le _
  · rw [List.length_replicate]; omega
theorem okL_new {m : Mem} {n : Int} {p : Option Addr} {c : Nat} (h : Sl m cells 15 p c (newL n)) : TT.OkL m ⟨p, c, newL n⟩ := ⟨h, newL_in n, newL_len n⟩
theorem okL_nil (m : Mem) : TT.OkL m Lst.nil := ⟨Sl.empty m inferInstance, fun _ h => absurd h List.not_mem_nil, Nat.zero_le _⟩
theorem ok_z (m : Mem) : TT.z.Ok m := ⟨okL_nil m, okL_nil m, okL_nil m⟩
theorem cfg_n {K : Cfg} (h : K.ok) : (1 ≤ K.x ∧ K.x ≤ 4096) ∧ (1 ≤ K.y ∧ K.y ≤ 4096) ∧ (1 ≤ K.w ∧ K.w ≤ 4096) := ⟨h.hx, h.hy, h.hw⟩
set_option maxRecDepth 100000 in
theorem empty {m : Mem} (K : Cfg) : Ct Tryz.prog 60 #[K.v] m [] (fun v m' B => B = [] ∧ ∃ t : TT, v = t.v ∧ t.Ok m' ∧ t.ls = emp K) := by
  have k0 := Cfg.check K
  unfold Cfg.chk at k0
  unfold emp
  by_cases h0 : K.ok
  rotate_left
  · rw [if_neg h0] at k0 ⊢
    refine Ct.enterV (by rfl) Tryz.func60 rfl Tryz.ntmps60 rfl (fun w0 Rest => ?_)
    (repeat' (first | refine zss ?_ | refine zs0 ?_ | ((with_reducible first | apply AtM1.callp | apply AtQ.callp | apply At.callp); kernel_rfl; exact rfl; exact rfl; exact k0) | ((with_reducible apply At.box (d := 1)); exact rfl; exact rfl; exact rfl; intro b1) | ((with_reducible apply At.alloc (d := 2)); exact rfl; exact rfl; intro b2) | ((with_reducible apply At.alloc (d := 3)); exact rfl; exact rfl; intro b3) | (refine zsp ?_ ?_ <;> (intro hc; (try simp only [zhcs, reduceCtorEq] at hc); (try (exfalso; first | omega | contradiction | omega | exact absurd rfl hc | exact absurd (by decide) hc))))))
    all_goals ((with_reducible apply At.retV (B := [])); exact rfl; (repeat' (first | exact RVs.nil | (with_reducible apply RVs.cons) | exact rv_tmp (by rfl) | exact rv_cellN (by rfl) (by repeat constructor) (by rfl) (by rfl) (by rfl) | exact rv_cell1 (by rfl) (by repeat constructor) (by rfl) (by rfl))); exact zml; exact zkp; exact ⟨rfl, TT.z, rfl, ok_z _, rfl⟩)
  rw [if_pos h0] at k0 ⊢
  have hn := cfg_n h0
  have n0 := fun (m : Mem) => newS (m := m) K.x (by omega)
  have n1 := fun (m : Mem) => newS (m := m) K.y (by omega)
  have n2 := fun (m : Mem) => newS (m := m) K.w (by omega)
  clear hn
  refine Ct.enterV (by rfl) Tryz.func60 rfl Tryz.ntmps60 rfl (fun w0 Rest => ?_)
  (repeat' (first | refine zss ?_ | refine zs0 ?_ | ((with_reducible first | apply AtM1.callp | apply AtQ.callp | apply At.callp); kernel_rfl; exact rfl; exact rfl; exact k0) | ((with_reducible apply At.box (d := 1)); exact rfl; exact rfl; exact rfl; intro b1) | ((with_reducible apply At.alloc (d := 2)); exact rfl; exact rfl; intro b2) | ((with_reducible apply At.alloc (d := 3)); exact rfl; exact rfl; intro b3) | (refine zsp ?_ ?_ <;> (intro hc; (try simp only [zhcs, reduceCtorEq] at hc); (try (exfalso; first | omega | contradiction | omega | exact absurd rfl hc | exact absurd (by decide) hc))))))
  (refine At.loopk (σ := US) [2, 3, 11] (fun s F0 => (12, .int .i64 (s.k : Int)) :: F0) (fun s => s.m) (fun s => .blk b3 55 s.t.cells :: .blk b2 55 TT.z.cells :: Rest) (fun s => m.le s.m ∧ s.t.Ok s.m ∧ ((s.k = 0 ∧ s.t = TT.z) ∨ (s.k = 1 ∧ s.t.a.l = newL K.x) ∨ (s.k = 2 ∧ s.t.a.l = newL K.x ∧ s.t.b.l = newL K.y) ∨ (s.k = 3 ∧ s.t.ls = ⟨newL K.x, newL K.y, newL K.w⟩))) (fun s => 3 - s.k) ⟨0, m, TT.z⟩ (by rfl) ?_ zsubs zml zente ?_)
  · exact ⟨Mem.le_refl _, ok_z _, .inl ⟨rfl, rfl⟩⟩
  rintro ⟨k, m1, T⟩ ⟨hm1, hT, hk⟩
  dsimp only at hm1 hT hk ⊢
  rcases hk with ⟨rfl, rfl⟩ | ⟨rfl, e1⟩ | ⟨rfl, e1, e2⟩ | ⟨rfl, e1⟩
  · (repeat' (first | refine zss ?_ | ((first | (with_reducible first | apply At.val | apply AtQ.val)); (first | exact pr_index_agg (k := 0) (by rfl) (by rfl) (by rfl) (by rfl) (by rfl) (by rfl) (by rfl) | exact pr_indexArr (k := 0) (by rfl) (by rfl) (by rfl) (by rfl) (by decide)); exact rfl) | refine zs0 ?_ | ((with_reducible first | apply At.c1 | apply At.c0); exact rfl; exact rfl; exact n0 _; exact ztk; kernel_rfl; rintro v' m' B' hm' ⟨rfl, p2, c2, rfl, sl9⟩; (try replace sl9 := sl9.mono hm'); (try (have hq0 : hm' = Mem.le_refl _ := rfl; clear hq0 hm'))) | ((with_reducible apply At.box (d := 1)); exact rfl; exact rfl; exact rfl; intro b1) | ((with_reducible apply At.alloc (d := 2)); exact rfl; exact rfl; intro b2) | ((with_reducible apply At.alloc (d := 3)); exact rfl; exact rfl; intro b3) | (refine zsp ?_ ?_ <;> (intro hc; (try simp only [zhcs, reduceCtorEq] at hc); (try (exfalso; first | omega | contradiction | omega | exact absurd rfl hc | exact absurd (by decide) hc))))))
    all_goals ((with_reducible refine At.reachk ((⟨1, m', ⟨⟨p2, c2, newL K.x⟩, Lst.nil, Lst.nil⟩⟩ : US)) ?_ ?_ ?_ ?_); exact zsubs; exact zml; exact zente; exact ⟨⟨zml, ⟨okL_new sl9, okL_nil _, okL_nil _⟩, .inr (.inl ⟨rfl, rfl⟩)⟩, (by decide : 3 - 1 < 3 - 0)⟩)
  · (repeat' (first | refine zss ?_ | ((first | (with_reducible first | apply At.val | apply AtQ.val)); (first | exact pr_index_agg (k := 1) (by rfl) (by rfl) (by rfl) (by rfl) (by rfl) (by rfl) (by rfl) | exact pr_indexArr (k := 1) (by rfl) (by rfl) (by rfl) (by rfl) (by decide)); exact rfl) | refine zs0 ?_ | ((with_reducible first | apply At.c1 | apply At.c0); exact rfl; exact rfl; exact n1 _; exact ztk; kernel_rfl; rintro v' m' B' hm' ⟨rfl, p2, c2, rfl, sl9⟩; (try replace sl9 := sl9.mono hm'); (try (have hq0 : hm' = Mem.le_refl _ := rfl; clear hq0 hm'))) | ((with_reducible apply At.box (d := 1)); exact rfl; exact rfl; exact rfl; intro b1) | ((with_reducible apply At.alloc (d := 2)); exact rfl; exact rfl; intro b2) | ((with_reducible apply At.alloc (d := 3)); exact rfl; exact rfl; intro b3) | (refine zsp ?_ ?_ <;> (intro hc; (try simp only [zhcs, reduceCtorEq] at hc); (try (exfalso; first | omega | contradiction | omega | exact absurd rfl hc | exact absurd (by decide) hc))))))
    all_goals ((with_reducible refine At.reachk ((⟨2, m', ⟨T.a, ⟨p2, c2, newL K.y⟩, T.c⟩⟩ : US)) ?_ ?_ ?_ ?_); exact zsubs; exact zml; exact zente; exact ⟨⟨zml, ⟨hT.a.mono zml, okL_new sl9, hT.c.mono zml⟩, .inr (.inr (.inl ⟨rfl, e1, rfl⟩))⟩, (by decide : 3 - 2 < 3 - 1)⟩)
  · (repeat' (first | refine zss ?_ | ((first | (with_reducible first | apply At.val | apply AtQ.val)); (first | exact pr_index_agg (k := 2) (by rfl) (by rfl) (by rfl) (by rfl) (by rfl) (by rfl) (by rfl) | exact pr_indexArr (k := 2) (by rfl) (by rfl) (by rfl) (by rfl) (by decide)); exact rfl) | refine zs0 ?_ | ((with_reducible first | apply At.c1 | apply At.c0); exact rfl; exact rfl; exact n2 _; exact ztk; kernel_rfl; rintro v' m' B' hm' ⟨rfl, p2, c2, rfl, sl9⟩; (try replace sl9 := sl9.mono hm'); (try (have hq0 : hm' = Mem.le_refl _ := rfl; clear hq0 hm'))) | ((with_reducible apply At.box (d := 1)); exact rfl; exact rfl; exact rfl; intro b1) | ((with_reducible apply At.alloc (d := 2)); exact rfl; exact rfl; intro b2) | ((with_reducible apply At.alloc (d := 3)); exact rfl; exact rfl; intro b3) | (refine zsp ?_ ?_ <;> (intro hc; (try simp only [zhcs, reduceCtorEq] at hc); (try (exfalso; first | omega | contradiction | omega | exact absurd rfl hc | exact absurd (by decide) hc))))))
    all_goals ((with_reducible refine At.reachk ((⟨3, m', ⟨T.a, T.b, ⟨p2, c2, newL K.w⟩⟩⟩ : US)) ?_ ?_ ?_ ?_); exact zsubs; exact zml; exact zente; exact ⟨⟨zml, ⟨hT.a.mono zml, hT.b.mono zml, okL_new sl9⟩, .inr (.inr (.inr ⟨rfl, by show (⟨T.a.l, T.b.l, newL K.w⟩ : L3) = _; rw [e1, e2]⟩))⟩, (by decide : 3 - 3 < 3 - 2)⟩)
  · (repeat' (first | refine zss ?_ | refine zs0 ?_ | ((with_reducible apply At.box (d := 1)); exact rfl; exact rfl; exact rfl; intro b1) | ((with_reducible apply At.alloc (d := 2)); exact rfl; exact rfl; intro b2) | ((with_reducible apply At.alloc (d := 3)); exact rfl; exact rfl; intro b3) | (refine zsp ?_ ?_ <;> (intro hc; (try simp only [zhcs, reduceCtorEq] at hc); (try (exfalso; first | omega | contradiction | omega | exact absurd rfl hc | exact absurd (by decide) hc))))))
    all_goals ((with_reducible apply At.retV (B := [])); exact rfl; (repeat' (first | exact RVs.nil | (with_reducible apply RVs.cons) | exact rv_tmp (by rfl) | exact rv_cellN (by rfl) (by repeat constructor) (by rfl) (by rfl) (by rfl) | exact rv_cell1 (by rfl) (by repeat constructor) (by rfl) (by rfl))); exact zml; exact zkp; exact ⟨rfl, T, rfl, hT, e1⟩)
def fk (K : Cfg) (t : L3) : Prop := Se.fok K t.a t.b t.c
instance (K : Cfg) (t : L3) : Decidable (fk K t) := by unfold fk; infer_instance
theorem openY {m : Mem} (K : Cfg) (t : TT) (ho : t.Ok m) (h : fk K t.ls) : Ct Tryz.prog 160 #[K.v, t.v] m [] (fun v m' B => m = m' ∧ ∃ q, v = .tuple #[pt q, .int .i64 0] ∧ B = kt q K t) :=
  Ct.mono (Se.openF K t.a t.b t.c ho.a.n ho.b.n ho.c.n ho.a.i ho.b.i ho.c.i ho.a.sl ho.b.sl ho.c.sl) fun v m' B _ ⟨h1, h2⟩ => ⟨h1, (h2.resolve_right fun k => k.1 h).2⟩
theorem openN {m : Mem} (K : Cfg) (t : TT) (ho : t.Ok m) (h : ¬ fk K t.ls) : Ct Tryz.prog 160 #[K.v, t.v] m [] (fun v m' B => m = m' ∧ v = .tuple #[.pointer none, .int .i64 2] ∧ B = []) :=
  Ct.mono (Se.openF K t.a t.b t.c ho.a.n ho.b.n ho.c.n ho.a.i ho.b.i ho.c.i ho.a.sl ho.b.sl ho.c.sl) fun v m' B _ ⟨h1, h2⟩ => ⟨h1, (h2.resolve_left fun k => h k.1).2⟩
def l3z : L3 := ⟨[], [], []⟩
theorem bgn_bd {w i : Int} (h : bgn w i = true) (hw : 1 ≤ w) : 0 ≤ i * w ∧ i * w ≤ 35184372088831 := by
  have h := of_decide_eq_true h
  have h1 := Int.ediv_mul_le 35184372088831 (show w ≠ 0 by omega)
  have h2 := Int.mul_le_mul_of_nonneg_right h.2 (show 0 ≤ w by omega)
  have h3 := Int.mul_nonneg h.1 (show 0 ≤ w by omega)
  omega
def closeE (K : Cfg) (t : L3) (s : Slot) (j : Int) : Int := if ¬ fk K t then 2 else if s ≠ z ∧ ¬ fits s.c K.a s.w then 2 else if s = z ∨ s.w = j then 0 else if j < s.w ∨ bgn K.a j = false then 1 else 0
def closeT (K : Cfg) (t : L3) (s : Slot) (j : Int) : L3 := if closeE K t s j ≠ 0 then l3z else if s = z ∨ s.w = j then t else up K ⟨putO t.a K.a s.w s.c, t.b, t.c⟩ s.w j
theorem close_ {m : Mem} (K : Cfg) (t : TT) (s : Slot) (j : Int) (ho : t.Ok m) (hs : Slot.In s) :
    Ct Tryz.prog 119 #[K.v, t.v, s.v, .int .i64 j] m [] (fun v m' B => B = [] ∧ ∃ t' : TT, v = .tuple #[t'.v, .int .i64 (closeE K t.ls s j)] ∧ t'.Ok m' ∧ t'.ls = closeT K t.ls s j) := by
  by_cases h : fk K t.ls
  rotate_left
  · have ko := fun (m' : Mem) (h' : m.le m') => openN (m := m') K t (ho.mono h') h
    have e1 : closeE K t.ls s j = 2 := if_pos h
    have e2 : closeT K t.ls s j = l3z := if_pos (by rw [e1]; decide)
    rw [e1, e2]
    refine Ct.enterV (by rfl) Tryz.func119 rfl Tryz.ntmps119 rfl (fun w0 Rest => ?_)
    (repeat' (first | refine zss ?_ | ((first | (with_reducible first | apply At.val | apply AtQ.val)); (first | exact pr_buildArr (by rfl) (by rfl) | exact pr_sleq (b := z) (by rfl) (by rfl)); exact rfl) | refine zs0 ?_ | ((with_reducible first | apply At.c1 | apply At.c0); exact rfl; exact rfl; exact ko _ zml; exact ztk; kernel_rfl; rintro v' m' B' hm' ⟨rfl, rfl, rfl⟩; (try replace sl9 := sl9.mono hm'); (try (have hq0 : hm' = Mem.le_refl _ := rfl; clear hq0 hm'))) | ((with_reducible apply At.box (d := 4)); exact rfl; exact rfl; exact rfl; intro b4) | ((with_reducible apply At.box (d := 5)); exact rfl; exact rfl; exact rfl; intro b5) | ((with_reducible apply At.box (d := 6)); exact rfl; exact rfl; exact rfl; intro b6) | ((with_reducible apply At.alloc (d := 8)); exact rfl; exact rfl; intro b8) | (refine zsp ?_ ?_ <;> (intro hc; (try simp only [zhcs, reduceCtorEq] at hc); (try (exfalso; first | contradiction | omega | exact absurd rfl hc | exact absurd (by decide) hc))))))
    all_goals ((with_reducible apply At.retV (B := [])); exact rfl; (repeat' (first | exact RVs.nil | (with_reducible apply RVs.cons) | exact rv_tmp (by rfl) | exact rv_cellN (by rfl) (by repeat constructor) (by rfl) (by rfl) (by rfl) | exact rv_cell1 (by rfl) (by repeat constructor) (by rfl) (by rfl))); exact zml; exact zkp; exact ⟨rfl, TT.z, rfl, ok_z _, rfl⟩)
  have ko := fun (m' : Mem) (h' : m.le m') => openY (m := m') K t (ho.mono h') h
  have hw : 1 ≤ K.a ∧ K.a ≤ 1099511627776 := h.1.ha
  have kf := fitsT s.c K.a s.w hs.2.1
  by_cases h1 : s = z
  · have e1 : closeE K t.ls s j = 0 := (if_neg (fun k => k h)).trans ((if_neg (fun k => k.1 h1)).trans (if_pos (.inl h1)))
    have e2 : closeT K t.ls s j = t.ls := (if_neg (by rw [e1]; decide)).trans (if_pos (.inl h1))
    rw [e1, e2]
    have pq : ∀ {n' : Nat} {F : Fr} {C : World → Prop} {x y : Operand} {u : TypeId}, ev F x = some s.v → ev F y = some z.v → PR Tryz.prog n' F C (.binOp .eql 61 x y u) (.bool true) := fun hx hy => by rw [← show decide (s = z) = true from decide_eq_true h1]; exact pr_sleq hx hy
    have ho' := fun (m' : Mem) (h' : m.le m') => ho.mono h'
    clear ho
    refine Ct.enterV (by rfl) Tryz.func119 rfl Tryz.ntmps119 rfl (fun w0 Rest => ?_)
    (repeat' (first | refine zss ?_ | ((first | (with_reducible first | apply At.val | apply AtQ.val)); (first | exact pr_buildArr (by rfl) (by rfl) | exact pq (by rfl) (by rfl) | exact pr_indexArr (k := 0) (by rfl) (by rfl) (by rfl) (by rfl) (by decide)); exact rfl) | refine zs0 ?_ | ((with_reducible first | apply At.c1 | apply At.c0); exact rfl; exact rfl; exact ko _ zml; exact ztk; kernel_rfl; rintro v' m' B' hm' ⟨rfl, q, rfl, rfl⟩; (try replace sl9 := sl9.mono hm'); (try (have hq0 : hm' = Mem.le_refl _ := rfl; clear hq0 hm'))) | ((with_reducible apply At.box (d := 4)); exact rfl; exact rfl; exact rfl; intro b4) | ((with_reducible apply At.box (d := 5)); exact rfl; exact rfl; exact rfl; intro b5) | ((with_reducible apply At.box (d := 6)); exact rfl; exact rfl; exact rfl; intro b6) | ((with_reducible apply At.alloc (d := 8)); exact rfl; exact rfl; intro b8) | (refine zsp ?_ ?_ <;> (intro hc; (try simp only [zhcs, reduceCtorEq] at hc); (try (exfalso; first | omega | contradiction | omega | exact absurd rfl hc | exact absurd (by decide) hc))))))
    all_goals ((with_reducible apply At.retV (B := [])); exact rfl; (repeat' (first | exact RVs.nil | (with_reducible apply RVs.cons) | exact rv_tmp (by rfl) | exact rv_cellN (by rfl) (by repeat constructor) (by rfl) (by rfl) (by rfl) | exact rv_cell1 (by rfl) (by repeat constructor) (by rfl) (by rfl))); exact zml; exact zkp; exact ⟨rfl, t, rfl, ho' _ zml, rfl⟩)
  have pq : ∀ {n' : Nat} {F : Fr} {C : World → Prop} {x y : Operand} {u : TypeId}, ev F x = some s.v → ev F y = some z.v → PR Tryz.prog n' F C (.binOp .eql 61 x y u) (.bool false) := fun hx hy => by rw [← show decide (s = z) = false from decide_eq_false h1]; exact pr_sleq hx hy
  by_cases h2 : fits s.c K.a s.w
  rotate_left
  · rw [decide_eq_false h2] at kf
    have e1 : closeE K t.ls s j = 2 := (if_neg (fun k => k h)).trans (if_pos ⟨h1, h2⟩)
    have e2 : closeT K t.ls s j = l3z := if_pos (by rw [e1]; decide)
    rw [e1, e2]
    clear ho
    refine Ct.enterV (by rfl) Tryz.func119 rfl Tryz.ntmps119 rfl (fun w0 Rest => ?_)
    (repeat' (first | refine zss ?_ | ((first | (with_reducible first | apply At.val | apply AtQ.val)); (first | exact pr_buildArr (by rfl) (by rfl) | exact pq (by rfl) (by rfl) | exact pr_indexArr (k := 0) (by rfl) (by rfl) (by rfl) (by rfl) (by decide)); exact rfl) | refine zs0 ?_ | ((with_reducible first | apply At.c1 | apply At.c0); exact rfl; exact rfl; exact ko _ zml; exact ztk; kernel_rfl; rintro v' m' B' hm' ⟨rfl, q, rfl, rfl⟩; (try replace sl9 := sl9.mono hm'); (try (have hq0 : hm' = Mem.le_refl _ := rfl; clear hq0 hm'))) | ((with_reducible first | apply AtM1.callp | apply AtQ.callp | apply At.callp); kernel_rfl; exact rfl; exact rfl; exact kf) | ((with_reducible apply At.box (d := 4)); exact rfl; exact rfl; exact rfl; intro b4) | ((with_reducible apply At.box (d := 5)); exact rfl; exact rfl; exact rfl; intro b5) | ((with_reducible apply At.box (d := 6)); exact rfl; exact rfl; exact rfl; intro b6) | ((with_reducible apply At.alloc (d := 8)); exact rfl; exact rfl; intro b8) | (refine zsp ?_ ?_ <;> (intro hc; (try simp only [zhcs, reduceCtorEq] at hc); (try (exfalso; first | omega | contradiction | omega | exact absurd rfl hc | exact absurd (by decide) hc))))))
    all_goals ((with_reducible apply At.retV (B := [])); exact rfl; (repeat' (first | exact RVs.nil | (with_reducible apply RVs.cons) | exact rv_tmp (by rfl) | exact rv_cellN (by rfl) (by repeat constructor) (by rfl) (by rfl) (by rfl) | exact rv_cell1 (by rfl) (by repeat constructor) (by rfl) (by rfl))); exact zml; exact zkp; exact ⟨rfl, TT.z, rfl, ok_z _, rfl⟩)
  rw [decide_eq_true h2] at kf
  have nb : ¬ (s ≠ z ∧ ¬ fits s.c K.a s.w) := fun k => k.2 h2
  by_cases h3 : s.w = j
  · have e1 : closeE K t.ls s j = 0 := (if_neg (fun k => k h)).trans ((if_neg nb).trans (if_pos (.inr h3)))
    have e2 : closeT K t.ls s j = t.ls := (if_neg (by rw [e1]; decide)).trans (if_pos (.inr h3))
    rw [e1, e2]
    have ho' := fun (m' : Mem) (h' : m.le m') => ho.mono h'
    clear ho
    refine Ct.enterV (by rfl) Tryz.func119 rfl Tryz.ntmps119 rfl (fun w0 Rest => ?_)
    (repeat' (first | refine zss ?_ | ((first | (with_reducible first | apply At.val | apply AtQ.val)); (first | exact pr_buildArr (by rfl) (by rfl) | exact pq (by rfl) (by rfl) | exact pr_indexArr (k := 0) (by rfl) (by rfl) (by rfl) (by rfl) (by decide)); exact rfl) | refine zs0 ?_ | ((with_reducible first | apply At.c1 | apply At.c0); exact rfl; exact rfl; exact ko _ zml; exact ztk; kernel_rfl; rintro v' m' B' hm' ⟨rfl, q, rfl, rfl⟩; (try replace sl9 := sl9.mono hm'); (try (have hq0 : hm' = Mem.le_refl _ := rfl; clear hq0 hm'))) | ((with_reducible first | apply AtM1.callp | apply AtQ.callp | apply At.callp); kernel_rfl; exact rfl; exact rfl; exact kf) | ((with_reducible apply At.box (d := 4)); exact rfl; exact rfl; exact rfl; intro b4) | ((with_reducible apply At.box (d := 5)); exact rfl; exact rfl; exact rfl; intro b5) | ((with_reducible apply At.box (d := 6)); exact rfl; exact rfl; exact rfl; intro b6) | ((with_reducible apply At.alloc (d := 8)); exact rfl; exact rfl; intro b8) | (refine zsp ?_ ?_ <;> (intro hc; (try simp only [zhcs, reduceCtorEq] at hc); (try (exfalso; first | (first | omega | exact absurd h3 hc) | contradiction | omega | exact absurd rfl hc | exact absurd (by decide) hc))))))
    all_goals ((with_reducible apply At.retV (B := [])); exact rfl; (repeat' (first | exact RVs.nil | (with_reducible apply RVs.cons) | exact rv_tmp (by rfl) | exact rv_cellN (by rfl) (by repeat constructor) (by rfl) (by rfl) (by rfl) | exact rv_cell1 (by rfl) (by repeat constructor) (by rfl) (by rfl))); exact zml; exact zkp; exact ⟨rfl, t, rfl, ho' _ zml, rfl⟩)
  have nc : ¬ (s = z ∨ s.w = j) := fun k => k.elim h1 h3
  have kb := fun (m : Mem) (q : Nat) => begins0 (m := m) q K t j hw
  by_cases h4 : j < s.w ∨ bgn K.a j = false
  · have e1 : closeE K t.ls s j = 1 := (if_neg (fun k => k h)).trans ((if_neg nb).trans ((if_neg nc).trans (if_pos h4)))
    have e2 : closeT K t.ls s j = l3z := if_pos (by rw [e1]; decide)
    rw [e1, e2]
    clear ho
    by_cases h5 : bgn K.a j = false
    · rw [h5] at kb
      refine Ct.enterV (by rfl) Tryz.func119 rfl Tryz.ntmps119 rfl (fun w0 Rest => ?_)
      (repeat' (first | refine zss ?_ | ((first | (with_reducible first | apply At.val | apply AtQ.val)); (first | exact pr_buildArr (by rfl) (by rfl) | exact pq (by rfl) (by rfl) | exact pr_indexArr (k := 0) (by rfl) (by rfl) (by rfl) (by rfl) (by decide)); exact rfl) | refine zs0 ?_ | ((with_reducible first | apply At.c1 | apply At.c0); exact rfl; exact rfl; exact ko _ zml; exact ztk; kernel_rfl; rintro v' m' B' hm' ⟨rfl, q, rfl, rfl⟩; (try replace sl9 := sl9.mono hm'); (try (have hq0 : hm' = Mem.le_refl _ := rfl; clear hq0 hm'))) | ((with_reducible first | apply AtM1.callp | apply AtQ.callp | apply At.callp); kernel_rfl; exact rfl; exact rfl; exact kf) | ((with_reducible first | apply AtM1.cr | apply AtQ.cr | apply At.cr); exact rfl; exact rfl; exact fun _ hmm => kb _ q; exact ztk; kernel_rfl) | ((with_reducible apply At.box (d := 4)); exact rfl; exact rfl; exact rfl; intro b4) | ((with_reducible apply At.box (d := 5)); exact rfl; exact rfl; exact rfl; intro b5) | ((with_reducible apply At.box (d := 6)); exact rfl; exact rfl; exact rfl; intro b6) | ((with_reducible apply At.alloc (d := 8)); exact rfl; exact rfl; intro b8) | (refine zsp ?_ ?_ <;> (intro hc; (try simp only [zhcs, reduceCtorEq] at hc); (try (exfalso; first | (first | omega | exact absurd hc h3) | contradiction | omega | exact absurd rfl hc | exact absurd (by decide) hc))))))
      all_goals ((with_reducible apply At.retV (B := [])); exact rfl; (repeat' (first | exact RVs.nil | (with_reducible apply RVs.cons) | exact rv_tmp (by rfl) | exact rv_cellN (by rfl) (by repeat constructor) (by rfl) (by rfl) (by rfl) | exact rv_cell1 (by rfl) (by repeat constructor) (by rfl) (by rfl))); exact zml; exact zkp; exact ⟨rfl, TT.z, rfl, ok_z _, rfl⟩)
    · replace h4 : j < s.w := h4.resolve_right h5
      refine Ct.enterV (by rfl) Tryz.func119 rfl Tryz.ntmps119 rfl (fun w0 Rest => ?_)
      (repeat' (first | refine zss ?_ | ((first | (with_reducible first | apply At.val | apply AtQ.val)); (first | exact pr_buildArr (by rfl) (by rfl) | exact pq (by rfl) (by rfl) | exact pr_indexArr (k := 0) (by rfl) (by rfl) (by rfl) (by rfl) (by decide)); exact rfl) | refine zs0 ?_ | ((with_reducible first | apply At.c1 | apply At.c0); exact rfl; exact rfl; exact ko _ zml; exact ztk; kernel_rfl; rintro v' m' B' hm' ⟨rfl, q, rfl, rfl⟩; (try replace sl9 := sl9.mono hm'); (try (have hq0 : hm' = Mem.le_refl _ := rfl; clear hq0 hm'))) | ((with_reducible first | apply AtM1.callp | apply AtQ.callp | apply At.callp); kernel_rfl; exact rfl; exact rfl; exact kf) | ((with_reducible first | apply AtM1.cr | apply AtQ.cr | apply At.cr); exact rfl; exact rfl; exact fun _ hmm => kb _ q; exact ztk; kernel_rfl) | ((with_reducible apply At.box (d := 4)); exact rfl; exact rfl; exact rfl; intro b4) | ((with_reducible apply At.box (d := 5)); exact rfl; exact rfl; exact rfl; intro b5) | ((with_reducible apply At.box (d := 6)); exact rfl; exact rfl; exact rfl; intro b6) | ((with_reducible apply At.alloc (d := 8)); exact rfl; exact rfl; intro b8) | (refine zsp ?_ ?_ <;> (intro hc; (try simp only [zhcs, reduceCtorEq] at hc); (try (exfalso; first | (first | omega | exact absurd hc h3) | contradiction | omega | exact absurd rfl hc | exact absurd (by decide) hc))))))
      all_goals ((with_reducible apply At.retV (B := [])); exact rfl; (repeat' (first | exact RVs.nil | (with_reducible apply RVs.cons) | exact rv_tmp (by rfl) | exact rv_cellN (by rfl) (by repeat constructor) (by rfl) (by rfl) (by rfl) | exact rv_cell1 (by rfl) (by repeat constructor) (by rfl) (by rfl))); exact zml; exact zkp; exact ⟨rfl, TT.z, rfl, ok_z _, rfl⟩)
  have h5 : bgn K.a j = true := by cases e : bgn K.a j; exact absurd (.inr e) h4; rfl
  rw [h5] at kb
  have e1 : closeE K t.ls s j = 0 := (if_neg (fun k => k h)).trans ((if_neg nb).trans ((if_neg nc).trans (if_neg h4)))
  have e2 : closeT K t.ls s j = up K ⟨putO t.a.l K.a s.w s.c, t.b.l, t.c.l⟩ s.w j := (if_neg (by rw [e1]; decide)).trans (if_neg nc)
  rw [e1, e2]
  have hj := bgn_bd h5 hw.1
  have hf := fits_i h2
  have hi1 : 0 ≤ s.w * K.a := Int.mul_nonneg (by omega) (by omega)
  have hi2 : s.w * K.a ≤ 35184372088832 := by
    have := Int.mul_le_mul_of_nonneg_right (show s.w ≤ j by omega) (show 0 ≤ K.a by omega)
    omega
  have hpe : putE t.a.l K.a s.w s.c = 0 := if_pos ⟨h.2.1.2, h2⟩
  have kp := fun (m' : Mem) (q : Nat) (h' : m.le m') => putY (put0 (m := m') q K t s.w s.c (ho.mono h') hs.1 hs.2.1) hpe
  change ∀ m' q (h' : m.le m'), Ct _ _ _ _ _ (fun v m' B => v = .int .i64 0 ∧ ∃ n : Lst Slot, n.l = putO t.a.l K.a s.w s.c ∧ Sl m' cells 15 n.p n.c n.l ∧ B = kt q K ⟨n, t.b, t.c⟩) at kp
  have hn : ∀ (m' : Mem) (n : Lst Slot), n.l = putO t.a.l K.a s.w s.c → m.le m' → Sl m' cells 15 n.p n.c n.l → (⟨n, t.b, t.c⟩ : TT).Ok m' := fun m' n hn hm sl => ⟨⟨sl, by rw [hn]; exact putO_in ho.a.i (slot_cell hs) hs.1, by rw [hn]; exact Nat.le_trans (putO_le _ _ _ _) ho.a.n⟩, ho.b.mono hm, ho.c.mono hm⟩
  have ku := fun (m' : Mem) (q : Nat) (n : Lst Slot) (hn1 : n.l = putO t.a.l K.a s.w s.c) (ho' : (⟨n, t.b, t.c⟩ : TT).Ok m') => upF (m := m') q K ⟨n, t.b, t.c⟩ s.w j ho' h.1 (by show okT n.l K.a; rw [hn1]; exact putO_ok hpe) h.2.2.1.2 h.2.2.2.2 (by omega) (by omega)
  clear hj hf hi1 hi2 hw ho hpe e1 e2
  refine Ct.enterV (by rfl) Tryz.func119 rfl Tryz.ntmps119 rfl (fun w0 Rest => ?_)
  (repeat' (first | refine zss ?_ | ((first | (with_reducible first | apply At.val | apply AtQ.val)); (first | exact pr_buildArr (by rfl) (by rfl) | exact pq (by rfl) (by rfl) | exact pr_indexArr (k := 0) (by rfl) (by rfl) (by rfl) (by rfl) (by decide)); exact rfl) | refine zs0 ?_ | ((with_reducible first | apply At.c1 | apply At.c0); exact rfl; exact rfl; exact ko _ zml; exact ztk; kernel_rfl; rintro v' m' B' hm' ⟨rfl, q, rfl, rfl⟩; (try replace sl9 := sl9.mono hm'); (try (have hq0 : hm' = Mem.le_refl _ := rfl; clear hq0 hm'))) | ((with_reducible first | apply AtM1.callp | apply AtQ.callp | apply At.callp); kernel_rfl; exact rfl; exact rfl; exact kf) | ((with_reducible first | apply AtM1.cr | apply AtQ.cr | apply At.cr); exact rfl; exact rfl; exact fun _ hmm => kb _ q; exact ztk; kernel_rfl) | ((with_reducible first | apply At.c1 | apply At.c0); exact rfl; exact rfl; exact kp _ q zml; exact ztk; kernel_rfl; rintro v' m' B' hm' ⟨rfl, n, hn1, sl9, rfl⟩; (try replace sl9 := sl9.mono hm'); (try (have hq0 : hm' = Mem.le_refl _ := rfl; clear hq0 hm'))) | ((with_reducible first | apply At.c1 | apply At.c0); exact rfl; exact rfl; exact ku _ q n hn1 (hn _ n hn1 zml sl9); exact ztk; kernel_rfl; rintro v' m' B' hm' ⟨rfl, t', ht1, ht2, rfl⟩; (try replace sl9 := sl9.mono hm'); (try (have hq0 : hm' = Mem.le_refl _ := rfl; clear hq0 hm'))) | ((with_reducible apply At.box (d := 4)); exact rfl; exact rfl; exact rfl; intro b4) | ((with_reducible apply At.box (d := 5)); exact rfl; exact rfl; exact rfl; intro b5) | ((with_reducible apply At.box (d := 6)); exact rfl; exact rfl; exact rfl; intro b6) | ((with_reducible apply At.alloc (d := 8)); exact rfl; exact rfl; intro b8) | (refine zsp ?_ ?_ <;> (intro hc; (try simp only [zhcs, reduceCtorEq] at hc); (try (exfalso; first | (first | omega | exact absurd hc h3) | contradiction | omega | exact absurd rfl hc | exact absurd (by decide) hc))))))
  all_goals ((with_reducible apply At.retV (B := [])); exact rfl; (repeat' (first | exact RVs.nil | (with_reducible apply RVs.cons) | exact rv_tmp (by rfl) | exact rv_cellN (by rfl) (by repeat constructor) (by rfl) (by rfl) (by rfl) | exact rv_cell1 (by rfl) (by repeat constructor) (by rfl) (by rfl))); exact zml; exact zkp; exact ⟨rfl, t', rfl, ht1, by rw [ht2, ← hn1]; rfl⟩)
def sml (t : L3) : Prop := t.a.length ≤ 40 ∧ t.b.length ≤ 40 ∧ t.c.length ≤ 40
instance (t : L3) : Decidable (sml t) := by unfold sml; infer_instance
end Fo
end Go.Proofs.YtkoijdmlehkhbaaGreatDoor
namespace Go.Proofs.YtkoijdmlehkhbaaGreatDoor
open Go Go.J
namespace Gr
open Cell Ti Fo
def lastT (es : List Ev) : Int := (es.getLast?.map Ev.T).getD 0
theorem lastT_snoc (es : List Ev) (e : Ev) : lastT (es ++ [e]) = e.T := by
  unfold lastT
  rw [List.getLast?_append, List.getLast?_singleton]
  rfl
theorem lastT_get {es : List Ev} (h : es ≠ []) : lastT es = (es.getLast h).T := by
  unfold lastT
  rw [List.getLast?_eq_some_getLast h]
  rfl
theorem le_last {es : List Ev} (hG : Good es) {e : Ev} (he : e ∈ es) : e.T ≤ lastT es := by
  have hn : es ≠ [] := List.ne_nil_of_mem he
  rw [lastT_get hn]
  obtain ⟨i, hi, rfl⟩ := List.mem_iff_getElem.1 he
  rw [List.getLast_eq_getElem hn]
  rcases Nat.lt_or_ge i (es.length - 1) with h | h
  · exact Int.le_of_lt (List.pairwise_iff_getElem.1 hG.2 i _ hi (by omega) h)
  · have : i = es.length - 1 := by omega
    subst this
    exact Int.le_refl _
theorem le_win {es : List Ev} (hG : Good es) {w : Int} (hw : 1 ≤ w) {e : Ev} (he : e ∈ es) : e.T / w ≤ lastT es / w := Int.ediv_le_ediv (by omega) (le_last hG he)
theorem win_last {es : List Ev} (h : es ≠ []) (w : Int) : win w (lastT es / w) es ≠ [] := by
  refine List.ne_nil_of_mem (a := es.getLast h) (win_mem.2 ⟨List.getLast_mem h, ?_⟩)
  rw [lastT_get h]
theorem last_bd {es : List Ev} (hG : Good es) (h : es ≠ []) : 0 ≤ lastT es ∧ lastT es ≤ 35184372088831 := by
  have := (hG.1 _ (List.getLast_mem h)).1
  rw [lastT_get h]
  unfold Ev.ok at this
  omega
theorem div_lvl {x a f : Int} (ha : 0 < a) : x / a * a / (a * f) = x / (a * f) := by
  rw [Int.mul_comm (x / a) a, Int.mul_ediv_mul_of_pos _ _ ha, ← div_div ha]
/-- the window that is over is made of the tier below -/
theorem made_win {wl nl f v : Int} {es : List Ev} {lo : List Slot} (hG : Good es) (hn : es ≠ []) (hw : 1 ≤ wl) (hf : 1 ≤ f) (hfn : f ≤ nl) (h : Lv wl nl es (lastT es / wl + 1) lo) :
    foldC lo (lastT es / (wl * f) * f) ((lastT es / (wl * f) + 1) * f) = (G (wl * f) es (lastT es / (wl * f)), 0) := by
  have hb := last_bd hG hn
  have hov : 0 ≤ lastT es / (wl * f) := Int.ediv_nonneg hb.1 (Int.mul_nonneg (by omega) (by omega))
  refine foldC_win (by omega) (by omega) hov hG h.ok (fun s hs ks => (h.snd s hs ks).2) fun e he heq => ?_
  rw [div_div (by omega), div_range (by omega)] at heq
  have hl : lastT es / wl < (lastT es / (wl * f) + 1) * f := ((div_range (by omega)).1 (div_div (t := lastT es) (by omega)).symm).2
  rw [Int.add_mul, Int.one_mul] at hl
  have hle := le_win hG hw he
  have hm := h.cmp e he (by omega) (by omega)
  have hfe : Full (G wl es (e.T / wl)) := (cel_full (hG.sub (win_sub wl _ es)) (List.ne_nil_of_mem (win_mem.2 ⟨he, rfl⟩))).1
  exact ⟨_, hm, keep_full hfe, rfl⟩
def opn (K : Cfg) (es : List Ev) : Slot := if es = [] then Slot.z else ⟨lastT es / K.a, G K.a es (lastT es / K.a)⟩
/-- what a stack has, and which window is open -/
structure Inv (K : Cfg) (es : List Ev) (T : L3) (o : Slot) : Prop where
  ok : K.ok
  g : Good es
  a : Lv K.a K.x es (lastT es / K.a) T.a
  b : Lv K.b K.y es (lastT es / K.b) T.b
  c : Lv K.d K.w es (lastT es / K.d) T.c
  op : o = opn K es
theorem Inv.new {K : Cfg} (h : K.ok) : Inv K [] (emp K) Slot.z := by
  have e : emp K = ⟨newL K.x, newL K.y, newL K.w⟩ := if_pos h
  rw [e]
  exact ⟨h, ⟨fun _ h => absurd h List.not_mem_nil, List.Pairwise.nil⟩, Lv.new h.hx h.ha, Lv.new h.hy h.hb, Lv.new h.hw h.hd, rfl⟩
/-- a greater tier's width is so many times that of the one below -/
theorem cfg_f {K : Cfg} (h : K.ok) : (∃ f, K.b / K.a = f ∧ K.b = K.a * f ∧ 1 ≤ f ∧ f ≤ K.x) ∧ (∃ f, K.d / K.b = f ∧ K.d = K.b * f ∧ 1 ≤ f ∧ f ≤ K.y) := by
  have ha := h.ha
  have hb := h.hb
  have hd := h.hd
  have h1 := Int.ediv_mul_cancel_of_emod_eq_zero h.hba.1
  have h2 := Int.ediv_mul_cancel_of_emod_eq_zero h.hdb.1
  refine ⟨⟨K.b / K.a, rfl, by rw [Int.mul_comm]; exact h1.symm, ?_, h.hba.2⟩, ⟨K.d / K.b, rfl, by rw [Int.mul_comm]; exact h2.symm, ?_, h.hdb.2⟩⟩
  · refine Int.not_lt.1 fun hlt => ?_
    have : K.b / K.a * K.a ≤ 0 := Int.mul_nonpos_of_nonpos_of_nonneg (by omega) (by omega)
    omega
  · refine Int.not_lt.1 fun hlt => ?_
    have : K.d / K.b * K.b ≤ 0 := Int.mul_nonpos_of_nonpos_of_nonneg (by omega) (by omega)
    omega
theorem Inv.fk {K : Cfg} {es : List Ev} {T : L3} {o : Slot} (h : Inv K es T o) : fk K T := ⟨h.ok, ⟨h.a.len, h.a.ok⟩, ⟨h.b.len, h.b.ok⟩, ⟨h.c.len, h.c.ok⟩⟩
theorem Inv.open_ {K : Cfg} {es : List Ev} {T : L3} {o : Slot} (h : Inv K es T o) (hn : es ≠ []) : o = ⟨lastT es / K.a, G K.a es (lastT es / K.a)⟩ ∧ Full o.c ∧ fits o.c K.a o.w ∧ o ≠ Slot.z := by
  have e : o = ⟨lastT es / K.a, G K.a es (lastT es / K.a)⟩ := h.op.trans (if_neg hn)
  have hf : Full (G K.a es (lastT es / K.a)) := (cel_full (h.g.sub (win_sub K.a _ es)) (win_last hn K.a)).1
  have hk := keep_full (i := lastT es / K.a) hf
  subst e
  exact ⟨rfl, hf, G_fits h.g h.ok.ha (win_last hn K.a), keep_ne.1 hk⟩
/-- the window that is open is closed: a later one is open -/
theorem Inv.close {K : Cfg} {es : List Ev} {T : L3} {o : Slot} (h : Inv K es T o) (hn : es ≠ []) {j : Int} (hj : lastT es / K.a < j) (hb : bgn K.a j = true) :
    closeE K T o j = 0 ∧ ∃ T', closeT K T o j = T' ∧ Lv K.a K.x es j T'.a ∧ Lv K.b K.y es (j * K.a / K.b) T'.b ∧ Lv K.d K.w es (j * K.a / K.d) T'.c := by
  obtain ⟨ho, hfu, hfi, hz⟩ := h.open_ hn
  have ha := h.ok.ha
  have hbb := h.ok.hb
  have hd := h.ok.hd
  obtain ⟨⟨f1, ef1, eb, g1, g2⟩, ⟨f2, ef2, ed, g3, g4⟩⟩ := cfg_f h.ok
  have how : o.w = lastT es / K.a := by rw [ho]
  have hoc : o.c = G K.a es (lastT es / K.a) := by rw [ho]
  have hE : closeE K T o j = 0 := (if_neg (fun k => k h.fk)).trans ((if_neg (fun k => k.2 hfi)).trans ((if_neg (fun k => k.elim hz (fun k => by omega))).trans (if_neg (fun k => k.elim (fun k => by omega) (fun k => by rw [hb] at k; cases k)))))
  have hT : closeT K T o j = up K ⟨putO T.a K.a o.w o.c, T.b, T.c⟩ o.w j := (if_neg (by rw [hE]; exact fun k => k rfl)).trans (if_neg (fun k => k.elim hz (fun k => by omega)))
  refine ⟨hE, _, hT, ?_⟩
  rw [how, hoc]
  obtain ⟨p1, p2⟩ := h.a.put h.g (win_last hn K.a) (fun e he => le_win h.g ha.1 he)
  have o1 : lastT es / K.a * K.a / K.b = lastT es / K.b := by rw [eb]; exact div_lvl (by omega)
  have o2 : lastT es / K.a * K.a / K.d = lastT es / K.d := by rw [ed, eb, Int.mul_assoc]; exact div_lvl (by omega)
  have q1 : lastT es / K.b ≤ j * K.a / K.b := by rw [← o1]; exact Int.ediv_le_ediv (by omega) (Int.mul_le_mul_of_nonneg_right (by omega) (by omega))
  have lvl1 : (lastT es / K.b = j * K.a / K.b → upL K 1 (putO T.a K.a (lastT es / K.a) (G K.a es (lastT es / K.a))) T.b (lastT es / K.a) j = T.b) ∧
      (lastT es / K.b < j * K.a / K.b → ∀ c', lastT es / K.b < c' → Lv K.b K.y es c' (upL K 1 (putO T.a K.a (lastT es / K.a) (G K.a es (lastT es / K.a))) T.b (lastT es / K.a) j)) := by
    refine ⟨fun he => upL_same (k := 1) (by show lastT es / K.a * K.a / K.b = _; rw [o1]; exact he), fun hlt => ?_⟩
    have hm := made_win (v := K.a) h.g hn ha.1 g1 g2 (p2 _ (Int.lt_succ _))
    rw [← eb] at hm
    have hr : foldC (putO T.a K.a (lastT es / K.a) (G K.a es (lastT es / K.a))) (lastT es / K.a * K.a / Kw K 1 * (Kw K 1 / Kw K (1 - 1))) ((lastT es / K.a * K.a / Kw K 1 + 1) * (Kw K 1 / Kw K (1 - 1))) = (G K.b es (lastT es / K.b), 0) := by
      show foldC _ (lastT es / K.a * K.a / K.b * (K.b / K.a)) ((lastT es / K.a * K.a / K.b + 1) * (K.b / K.a)) = _
      rw [o1, ef1]; exact hm
    obtain ⟨s1, s2⟩ := h.b.put h.g (win_last hn K.b) (fun e he => le_win h.g hbb.1 he)
    have hgn : 0 < (G K.b es (lastT es / K.b)).n := by rw [G_n]; have := List.length_pos_iff.2 (win_last hn K.b); omega
    have he := upL_yes (k := 1) (l := T.b) (j := j) (by show ¬ lastT es / K.a * K.a / K.b = j * K.a / K.b; rw [o1]; omega) hr ⟨rfl, hgn⟩ (by show putE T.b K.b (lastT es / K.a * K.a / K.b) _ = 0; rw [o1]; exact s1)
    intro c' hc
    rw [he]
    show Lv K.b K.y es c' (putO T.b K.b (lastT es / K.a * K.a / K.b) _)
    rw [o1]
    exact s2 c' hc
  refine ⟨p2 j hj, ?_, ?_⟩
  · show Lv K.b K.y es (j * K.a / K.b) (upL K 1 _ T.b _ j)
    rcases Int.lt_or_eq_of_le q1 with hlt | heq
    · exact lvl1.2 hlt _ hlt
    · rw [lvl1.1 heq, ← heq]; exact h.b
  · show Lv K.d K.w es (j * K.a / K.d) (upL K 2 (upL K 1 _ T.b _ j) T.c _ j)
    have q2 : lastT es / K.d ≤ j * K.a / K.d := by rw [← o2]; exact Int.ediv_le_ediv (by omega) (Int.mul_le_mul_of_nonneg_right (by omega) (by omega))
    rcases Int.lt_or_eq_of_le q2 with hlt | heq
    · have hlt1 : lastT es / K.b < j * K.a / K.b := by
        refine Int.not_le.1 fun hle => ?_
        have := Int.ediv_le_ediv (show 0 < f2 by omega) hle
        rw [← div_div (by omega), ← div_div (by omega), ← ed] at this
        omega
      have hm := made_win (v := K.b) h.g hn hbb.1 g3 g4 (lvl1.2 hlt1 _ (Int.lt_succ _))
      rw [← ed] at hm
      generalize upL K 1 (putO T.a K.a (lastT es / K.a) (G K.a es (lastT es / K.a))) T.b (lastT es / K.a) j = B at hm ⊢
      have hr : foldC B (lastT es / K.a * K.a / Kw K 2 * (Kw K 2 / Kw K (2 - 1))) ((lastT es / K.a * K.a / Kw K 2 + 1) * (Kw K 2 / Kw K (2 - 1))) = (G K.d es (lastT es / K.d), 0) := by
        show foldC _ (lastT es / K.a * K.a / K.d * (K.d / K.b)) ((lastT es / K.a * K.a / K.d + 1) * (K.d / K.b)) = _
        rw [o2, ef2]; exact hm
      obtain ⟨s1, s2⟩ := h.c.put h.g (win_last hn K.d) (fun e he => le_win h.g hd.1 he)
      have hgn : 0 < (G K.d es (lastT es / K.d)).n := by rw [G_n]; have := List.length_pos_iff.2 (win_last hn K.d); omega
      have he := upL_yes (k := 2) (l := T.c) (j := j) (by show ¬ lastT es / K.a * K.a / K.d = j * K.a / K.d; rw [o2]; omega) hr ⟨rfl, hgn⟩ (by show putE T.c K.d (lastT es / K.a * K.a / K.d) _ = 0; rw [o2]; exact s1)
      rw [he]
      show Lv K.d K.w es _ (putO T.c K.d (lastT es / K.a * K.a / K.d) _)
      rw [o2]
      exact s2 _ hlt
    · rw [upL_same (k := 2) (by show lastT es / K.a * K.a / K.d = _; rw [o2]; exact heq), ← heq]; exact h.c
theorem good_last {es : List Ev} {e : Ev} (h : Good (es ++ [e])) : Good es ∧ (e.ok ∧ e.V < 18446744073709551616) ∧ ∀ x ∈ es, x.T < e.T :=
  ⟨h.sub (List.sublist_append_left _ _), h.1 e (List.mem_append_right _ (List.mem_singleton.2 rfl)), fun x hx => (List.pairwise_append.1 h.2).2.2 x hx e (List.mem_singleton.2 rfl)⟩
theorem bgn_ev {e : Ev} (h : e.ok) {w : Int} (hw : 1 ≤ w) : bgn w (e.T / w) = true := by
  unfold Ev.ok at h
  exact decide_eq_true ⟨Int.ediv_nonneg (by omega) (by omega), Int.ediv_le_ediv (by omega) (by omega)⟩
/-- one more event -/
theorem Inv.step {K : Cfg} {es : List Ev} {T : L3} {o : Slot} {e : Ev} (h : Inv K es T o) (hG : Good (es ++ [e])) :
    ∃ T' o', ((0 < o.c.n ∧ o.w ≠ e.T / K.a) → closeE K T o (e.T / K.a) = 0 ∧ closeT K T o (e.T / K.a) = T' ∧ o' = Slot.z) ∧ (¬ (0 < o.c.n ∧ o.w ≠ e.T / K.a) → T' = T ∧ o' = o) ∧
      addE o'.c e = (add o'.c e, 0) ∧ Inv K (es ++ [e]) T' ⟨e.T / K.a, add o'.c e⟩ := by
  obtain ⟨hg, ⟨heo, hev⟩, hlt⟩ := good_last hG
  have ha := h.ok.ha
  have hbb := h.ok.hb
  have hd := h.ok.hd
  obtain ⟨⟨f1, ef1, eb, g1, g2⟩, ⟨f2, ef2, ed, g3, g4⟩⟩ := cfg_f h.ok
  have hTp : 0 ≤ e.T := by unfold Ev.ok at heo; omega
  have haddE : ∀ c : Cell, (c = z ∨ (Full c ∧ c.L.T < e.T)) → addE c e = (add c e, 0) := fun c hc => (if_pos heo).trans (add_full hc heo hev).2.2
  have hop : opn K (es ++ [e]) = ⟨e.T / K.a, G K.a (es ++ [e]) (e.T / K.a)⟩ := by
    unfold opn
    rw [if_neg (by simp), lastT_snoc]
  have hGw : G K.a (es ++ [e]) (e.T / K.a) = add (G K.a es (e.T / K.a)) e := by
    unfold G
    rw [win_snoc' rfl]
    unfold cel
    rw [List.foldl_append]; rfl
  by_cases hn : es = []
  · subst hn
    have ho : o = Slot.z := h.op
    subst ho
    have hz0 : ∀ w : Int, 1 ≤ w → lastT [] / w ≤ e.T / w := fun w hw => by
      rw [show lastT [] = 0 from rfl, Int.zero_ediv]
      exact Int.ediv_nonneg hTp (by omega)
    refine ⟨T, Slot.z, fun k => absurd k.1 (by decide), fun _ => ⟨rfl, rfl⟩, haddE _ (.inl rfl), h.ok, hG, ?_, ?_, ?_, ?_⟩
    · rw [lastT_snoc]
      exact (h.a.later (hz0 K.a ha.1) (fun _ h => absurd h List.not_mem_nil)).add (Int.le_refl _)
    · rw [lastT_snoc]
      exact (h.b.later (hz0 K.b hbb.1) (fun _ h => absurd h List.not_mem_nil)).add (Int.le_refl _)
    · rw [lastT_snoc]
      exact (h.c.later (hz0 K.d hd.1) (fun _ h => absurd h List.not_mem_nil)).add (Int.le_refl _)
    · rw [hop, hGw]; rfl
  obtain ⟨ho, hfu, hfi, hz⟩ := h.open_ hn
  have hll : lastT es < e.T := by rw [lastT_get hn]; exact hlt _ (List.getLast_mem hn)
  have how : o.w = lastT es / K.a := by rw [ho]
  have hoc : o.c = G K.a es (lastT es / K.a) := by rw [ho]
  have hon : 0 < o.c.n := by have := hfu.n; omega
  by_cases hw : lastT es / K.a = e.T / K.a
  · refine ⟨T, o, fun k => absurd hw (by rw [← how]; exact k.2), fun _ => ⟨rfl, rfl⟩, haddE _ (.inr ⟨hfu, ?_⟩), h.ok, hG, ?_, ?_, ?_, ?_⟩
    · rw [hoc]
      obtain ⟨_, _, k3, _⟩ := cel_full (h.g.sub (win_sub K.a _ es)) (win_last hn K.a)
      exact hlt _ (win_mem.1 k3).1
    · rw [lastT_snoc, ← hw]
      exact h.a.add (by omega)
    · have e1 : lastT es / K.b = e.T / K.b := by rw [eb, div_div (by omega), div_div (by omega), hw]
      rw [lastT_snoc, ← e1]
      exact h.b.add (by omega)
    · have e0 : lastT es / K.b = e.T / K.b := by rw [eb, div_div (by omega), div_div (by omega), hw]
      have e1 : lastT es / K.d = e.T / K.d := by rw [ed, div_div (by omega), div_div (by omega), e0]
      rw [lastT_snoc, ← e1]
      exact h.c.add (by omega)
    · rw [hop, hGw, hoc, hw]
  · have hwlt : lastT es / K.a < e.T / K.a := by
      have := Int.ediv_le_ediv (show 0 < K.a by omega) (Int.le_of_lt hll)
      omega
    obtain ⟨hE, T', hT, l0, l1, l2⟩ := h.close hn hwlt (bgn_ev heo ha.1)
    have o1 : e.T / K.a * K.a / K.b = e.T / K.b := by rw [eb]; exact div_lvl (by omega)
    have o2 : e.T / K.a * K.a / K.d = e.T / K.d := by rw [ed, eb, Int.mul_assoc]; exact div_lvl (by omega)
    rw [o1] at l1
    rw [o2] at l2
    refine ⟨T', Slot.z, fun _ => ⟨hE, hT, rfl⟩, fun k => absurd ⟨hon, by rw [how]; exact hw⟩ k, haddE _ (.inl rfl), h.ok, hG, ?_, ?_, ?_, ?_⟩
    · rw [lastT_snoc]; exact l0.add (Int.le_refl _)
    · rw [lastT_snoc]; exact l1.add (Int.le_refl _)
    · rw [lastT_snoc]; exact l2.add (Int.le_refl _)
    · have hnone : win K.a (e.T / K.a) es = [] := by
        refine List.eq_nil_iff_forall_not_mem.2 fun x hx => ?_
        obtain ⟨h1, h2⟩ := win_mem.1 hx
        have := le_win h.g ha.1 h1
        omega
      rw [hop, hGw]
      show _ = (⟨_, add (G K.a es (e.T / K.a)) e⟩ : Slot)
      unfold G
      rw [hnone]
      rfl
end Gr
end Go.Proofs.YtkoijdmlehkhbaaGreatDoor
namespace Go.Proofs.YtkoijdmlehkhbaaGreatDoor
open Go Go.J
namespace Gr
open Cell Ti Fo
theorem getLast_snoc {α : Type} {l a : List α} {x : α} (h : l ≠ []) (e : l = a ++ [x]) : l.getLast h = x := by
  subst e
  exact List.getLast_concat
theorem win_getLast {es : List Ev} (h : es ≠ []) {w : Int} (hn : win w (lastT es / w) es ≠ []) : (win w (lastT es / w) es).getLast hn = es.getLast h := by
  have e : es = es.dropLast ++ [es.getLast h] := (List.dropLast_concat_getLast h).symm
  have hl : (es.getLast h).T / w = lastT es / w := by rw [lastT_get h]
  have : win w (lastT es / w) es = win w (lastT es / w) es.dropLast ++ [es.getLast h] := by
    have := win_snoc' (es := es.dropLast) hl
    rwa [← e] at this
  exact getLast_snoc hn this
theorem Inv.lastC {K : Cfg} {es : List Ev} {T : L3} {o : Slot} (h : Inv K es T o) (hn : es ≠ []) : o.c.L.T = lastT es := by
  have hw := win_last hn K.a
  obtain ⟨-, -, -, e⟩ := cel_full (h.g.sub (win_sub K.a (lastT es / K.a) es)) hw
  rw [(h.open_ hn).1]
  show (cel _).L.T = _
  rw [e, win_getLast hn hw, lastT_get hn]
/-- a window that a tier has -/
theorem Lv.at {w n c : Int} {es : List Ev} {l : List Slot} (h : Lv w n es c l) {x : Slot} (hx : x ∈ alls l) : Full x.c ∧ x.c = G w es x.w ∧ x.w < c ∧ 0 ≤ x.w ∧ es ≠ [] := by
  obtain ⟨hm, hk⟩ := alls_mem.1 hx
  obtain ⟨h1, h2⟩ := h.snd x hm hk
  obtain ⟨i, hi, ei⟩ := List.mem_iff_getElem.1 hm
  have ok := h.ok.2.2 i hi
  unfold okS at ok
  rw [getElem!_pos l i hi, ei] at ok
  have hf := fits_i (ok.resolve_left (keep_ne.1 hk)).2
  refine ⟨hf.2.2.1, h2, h1, hf.1, fun e => ?_⟩
  rw [e] at h2
  have h3 : x.c = z := h2
  have h4 := hf.2.2.1
  rw [h3] at h4
  exact absurd rfl h4.ne
end Gr
end Go.Proofs.YtkoijdmlehkhbaaGreatDoor
namespace Go.Proofs.YtkoijdmlehkhbaaGreatDoor
open Go Go.J
namespace Gr
open Cell Ti Fo
/-- no later window took the place of this one -/
def Kp (w n c : Int) (es : List Ev) (i : Int) : Prop := ∀ x ∈ es, i < x.T / w → x.T / w < c → x.T / w % n ≠ i % n
instance (w n c : Int) (es : List Ev) (i : Int) : Decidable (Kp w n c es i) := by unfold Kp; infer_instance
/-- the events of those windows of a range that are told of -/
def sel (w n c : Int) (es : List Ev) (i j : Int) : List Ev := es.filter fun e => decide ((i ≤ e.T / w ∧ e.T / w < j) ∧ Kp w n c es (e.T / w))
theorem foldC_gen {w n c i j : Int} {es : List Ev} {l : List Slot} (h : Lv w n es c l) (hG : Good es) (hw : 1 ≤ w) (hi : 0 ≤ i) (hij : i ≤ j) :
    ∃ ws : List Int, ws.Pairwise (· < ·) ∧ (∀ v ∈ ws, v < c) ∧ (∀ e ∈ es, e.T / w ∈ ws ↔ (i ≤ e.T / w ∧ e.T / w < j) ∧ e.T / w < c ∧ Kp w n c es (e.T / w)) ∧
      foldC l i j = (cel (ws.map fun v => win w v es).flatten, 0) := by
  unfold foldC
  rw [if_neg (by omega)]
  generalize hA : (alls l).filter (fun s => decide (i ≤ s.w ∧ s.w < j)) = A
  have mem : ∀ s, s ∈ A ↔ (s ∈ l ∧ keep s = true) ∧ i ≤ s.w ∧ s.w < j := fun s => by
    rw [← hA, List.mem_filter, alls_mem, decide_eq_true_eq]
  have hws : (A.map Slot.w).Pairwise (· < ·) := by
    rw [List.pairwise_map, ← hA]
    exact (alls_lt h.ok).sublist List.filter_sublist
  have hc : A.map Slot.c = ((A.map Slot.w).map fun i => win w i es).map cel := by
    rw [List.map_map, List.map_map]
    exact List.map_congr_left fun s hs => (h.snd s ((mem s).1 hs).1.1 ((mem s).1 hs).1.2).2
  refine ⟨A.map Slot.w, hws, fun v hv => ?_, fun e he => ⟨fun hm => ?_, fun ⟨h1, h2, h3⟩ => ?_⟩, ?_⟩
  · obtain ⟨s, hs, rfl⟩ := List.mem_map.1 hv
    exact (h.snd s ((mem s).1 hs).1.1 ((mem s).1 hs).1.2).1
  · obtain ⟨s, hs, e1⟩ := List.mem_map.1 hm
    obtain ⟨⟨a1, a2⟩, a3⟩ := (mem s).1 hs
    rw [← e1]
    exact ⟨a3, (h.snd s a1 a2).1, h.own s a1 a2⟩
  · have hm := h.all e he h2 h3
    have hfe : Full (G w es (e.T / w)) := (cel_full (hG.sub (win_sub w _ es)) (List.ne_nil_of_mem (win_mem.2 ⟨he, rfl⟩))).1
    exact List.mem_map.2 ⟨_, (mem _).2 ⟨⟨hm, keep_full hfe⟩, h1⟩, rfl⟩
  · have hfl := flat_win (es := es) (show 0 < w by omega) hws hG
    rw [hc]
    show allC (cel []) _ = _
    rw [allC_cel _ [] (by rw [List.nil_append, hfl]; exact hG.sub List.filter_sublist), List.nil_append]
theorem mrg_cel {A B : List Ev} (h : Good (A ++ B)) : mrg (cel A) (cel B) = (cel (A ++ B), 0) := by
  have h1 := allC_cel [B] A (by rw [List.flatten_singleton]; exact h)
  rw [List.flatten_singleton] at h1
  have e : allC (cel A) ([B].map cel) = if (mrg (cel A) (cel B)).2 ≠ 0 then (z, (mrg (cel A) (cel B)).2) else ((mrg (cel A) (cel B)).1, 0) := rfl
  rw [e] at h1
  by_cases h2 : (mrg (cel A) (cel B)).2 = 0
  · rw [if_neg (fun k => k h2)] at h1
    have h3 := congrArg Prod.fst h1
    exact Prod.ext h3 h2
  · rw [if_pos h2] at h1
    exact absurd (congrArg Prod.snd h1) h2
/-- windows, and the one that is open behind them, merge to all of their events -/
theorem mrg_win {w c : Int} {es : List Ev} {ws : List Int} (hG : Good es) (hw : 1 ≤ w) (hs : ws.Pairwise (· < ·)) (hc : ∀ v ∈ ws, v < c) :
    mrg (cel (ws.map fun v => win w v es).flatten) (G w es c) = (cel (es.filter fun e => decide (e.T / w ∈ ws ++ [c])), 0) := by
  have hs2 : (ws ++ [c]).Pairwise (· < ·) := List.pairwise_append.2 ⟨hs, List.pairwise_singleton _ _, fun v hv x hx => by rw [List.mem_singleton.1 hx]; exact hc v hv⟩
  have hfl := flat_win (es := es) (show 0 < w by omega) hs2 hG
  rw [List.map_append, List.flatten_append, List.map_singleton, List.flatten_singleton] at hfl
  rw [← hfl]
  exact mrg_cel (by rw [hfl]; exact hG.sub List.filter_sublist)
/-- the window of the last event, of a greater tier -/
theorem now_step {w n f L : Int} {es : List Ev} {l : List Slot} (h : Lv w n es (L / w) l) (hG : Good es) (hw : 1 ≤ w) (hf : 1 ≤ f) (hfn : f ≤ n) (hL : 0 ≤ L) (hmax : ∀ e ∈ es, e.T ≤ L) :
    ∃ a, foldC l (L / (w * f) * f) (L / w) = (a, 0) ∧ mrg a (G w es (L / w)) = (G (w * f) es (L / (w * f)), 0) := by
  have ho : 0 ≤ L / (w * f) := Int.ediv_nonneg hL (Int.mul_nonneg (by omega) (by omega))
  have e1 := div_range (a := L / w) (o := L / (w * f)) (show 0 < f by omega)
  rw [← div_div (show 0 < w by omega)] at e1
  obtain ⟨r1, r2⟩ := e1.1 rfl
  obtain ⟨ws, hs, hc, hm, hr⟩ := foldC_gen h hG hw (Int.mul_nonneg ho (by omega)) r1
  refine ⟨_, hr, ?_⟩
  rw [mrg_win hG hw hs hc]
  have : (es.filter fun e => decide (e.T / w ∈ ws ++ [L / w])) = win (w * f) (L / (w * f)) es := by
    unfold win
    refine List.filter_congr fun e he => decide_eq_decide.2 ?_
    rw [List.mem_append, hm e he, List.mem_singleton, div_div (show 0 < w by omega) (t := e.T), div_range (show 0 < f by omega)]
    have hle : e.T / w ≤ L / w := Int.ediv_le_ediv (by omega) (hmax e he)
    rw [Int.add_mul, Int.one_mul] at r2 ⊢
    constructor
    · rintro (⟨⟨a1, a2⟩, -⟩ | a1)
      · omega
      · omega
    · rintro ⟨a1, a2⟩
      by_cases hq : e.T / w = L / w
      · exact .inr hq
      · exact .inl ⟨⟨a1, by omega⟩, by omega, fun x hx b1 b2 => mod_ne b1 (by omega)⟩
  rw [this]
  rfl
/-- a range of windows -/
theorem span_no {w n c i j : Int} {es : List Ev} {l : List Slot} (h : Lv w n es c l) (hG : Good es) (hw : 1 ≤ w) (hi : 0 ≤ i) (hij : i ≤ j) (hmax : ∀ e ∈ es, e.T / w ≤ c) (hc : c < i ∨ j ≤ c) :
    foldC l i j = (cel (sel w n c es i j), 0) := by
  obtain ⟨ws, hs, -, hm, hr⟩ := foldC_gen h hG hw hi hij
  rw [hr, flat_win (es := es) (show 0 < w by omega) hs hG]
  have : (es.filter fun e => decide (e.T / w ∈ ws)) = sel w n c es i j := by
    refine List.filter_congr fun e he => decide_eq_decide.2 ?_
    rw [hm e he]
    have := hmax e he
    exact ⟨fun h => ⟨h.1, h.2.2⟩, fun h => ⟨h.1, by omega, h.2⟩⟩
  rw [this]
theorem span_yes {w n c i j : Int} {es : List Ev} {l : List Slot} (h : Lv w n es c l) (hG : Good es) (hw : 1 ≤ w) (hi : 0 ≤ i) (hij : i ≤ j) (hmax : ∀ e ∈ es, e.T / w ≤ c) (hc : i ≤ c ∧ c < j) :
    ∃ a, foldC l i j = (a, 0) ∧ mrg a (G w es c) = (cel (sel w n c es i j), 0) := by
  obtain ⟨ws, hs, h1, hm, hr⟩ := foldC_gen h hG hw hi hij
  refine ⟨_, hr, ?_⟩
  rw [mrg_win hG hw hs h1]
  have : (es.filter fun e => decide (e.T / w ∈ ws ++ [c])) = sel w n c es i j := by
    refine List.filter_congr fun e he => decide_eq_decide.2 ?_
    rw [List.mem_append, hm e he, List.mem_singleton]
    have := hmax e he
    constructor
    · rintro (h | h)
      · exact ⟨h.1, h.2.2⟩
      · exact ⟨by omega, fun x hx b1 b2 => by omega⟩
    · rintro ⟨b1, b2⟩
      by_cases hq : e.T / w = c
      · exact .inr hq
      · exact .inl ⟨b1, by omega, b2⟩
  rw [this]
/-- what is told of windows all of which are kept does not hang on the room -/
theorem sel_kept {w n c i j : Int} {es : List Ev} (hi : c - n < i) : sel w n c es i j = es.filter fun e => decide (i ≤ e.T / w ∧ e.T / w < j) := by
  refine List.filter_congr fun e he => decide_eq_decide.2 ⟨fun h => h.1, fun h => ⟨h, fun x _ h1 h2 => mod_ne h1 (by omega)⟩⟩
end Gr
end Go.Proofs.YtkoijdmlehkhbaaGreatDoor
namespace Go.Proofs.YtkoijdmlehkhbaaGreatDoor
open Go Go.J
attribute [local irreducible] At AtQ AtM AtM1 PR Ct Pu Rd Res.blk Res.own Res.ex
namespace RingE
abbrev Elt := Ev
abbrev val (x : Elt) : Value := x.v
abbrev fi : Elt → List Value := Ev.cells
abbrev rc (b room : Nat) (p : Option Addr) (ln c fr : Nat) (lost : Int) : Res := .blk b 289 [.int .i64 room, .slice p ln c, .int .i64 fr, .int .u64 lost]
abbrev rr (b room : Nat) (p : Option Addr) (c fr : Nat) (lost : Int) (l : List Elt) : List Res := [rc b room p l.length c fr lost, .own fi 4 57 p c l]
structure St where
  p : Option Addr
  c : Nat
  fr : Nat
  l : List Elt
def inv (room : Nat) (cont : List Elt) (s : St) : Prop := s.l.length ≤ room ∧ (s.l.length < room → s.fr = 0) ∧ (s.fr < s.l.length ∨ s.fr = 0) ∧ cont = s.l.drop s.fr ++ s.l.take s.fr
def putC (room : Nat) (cont : List Elt) (x : Elt) : List Elt := if cont.length < room then cont ++ [x] else cont.drop 1 ++ [x]
/-- a ring, by what it has -/
def R (b room : Nat) (lost : Int) (cont : List Elt) : Res := .ex (inv room cont) (fun s => rr b room s.p s.c s.fr lost s.l)
theorem inv.len {room : Nat} {cont : List Elt} {s : St} (h : inv room cont s) : s.l.length = cont.length := by
  obtain ⟨h1, h2, h3, rfl⟩ := h
  simp; omega
theorem rot_get {l : List Elt} {fr k : Nat} (hk : k < l.length) (hf : fr < l.length ∨ fr = 0) : l[(fr + k) % l.length]! = (l.drop fr ++ l.take fr)[k]! := by
  rw [List.getElem!_eq_getElem?_getD, List.getElem!_eq_getElem?_getD]
  congr 1
  by_cases h : fr + k < l.length
  · rw [Nat.mod_eq_of_lt h, List.getElem?_append_left (by simp; omega), List.getElem?_drop]
  · have : (fr + k) % l.length = fr + k - l.length := by
      rw [Nat.mod_eq_sub_mod (by omega), Nat.mod_eq_of_lt (by omega)]
    rw [this, List.getElem?_append_right (by simp; omega), List.getElem?_take, if_pos (by simp; omega)]
    congr 1; simp; omega
theorem rot_put {l : List Elt} {fr : Nat} {x : Elt} (hf : fr < l.length) : (l.set fr x).drop ((fr + 1) % l.length) ++ (l.set fr x).take ((fr + 1) % l.length) = (l.drop fr ++ l.take fr).drop 1 ++ [x] := by
  by_cases h : fr + 1 = l.length
  · rw [h, Nat.mod_self]
    apply List.ext_getElem?
    intro i
    have hd : (l.drop fr).length = 1 := by simp; omega
    rw [List.drop_append_of_le_length (by omega), List.drop_eq_nil_of_le (by omega : (l.drop fr).length ≤ 1)]
    simp only [List.drop_zero, List.take_zero, List.append_nil, List.nil_append]
    rw [List.getElem?_set]
    by_cases hi : fr = i
    · subst hi
      rw [if_pos rfl, if_pos hf, List.getElem?_append_right (by simp; omega)]
      simp [Nat.min_eq_left (Nat.le_of_lt hf)]
    · rw [if_neg hi]
      by_cases hi2 : i < fr
      · rw [List.getElem?_append_left (by simp; omega), List.getElem?_take, if_pos hi2]
      · rw [List.getElem?_eq_none (by omega), List.getElem?_eq_none (by simp; omega)]
  · have hlt : fr + 1 < l.length := by omega
    rw [Nat.mod_eq_of_lt hlt]
    rw [List.drop_append_of_le_length (by simp; omega), List.drop_drop, List.drop_set_of_lt (by omega)]
    rw [show (l.set fr x).take (fr + 1) = l.take fr ++ [x] from by
      rw [List.take_add_one, List.take_set_of_le (Nat.le_refl _)]; simp [hf]]
    rw [Nat.add_comm fr 1]; simp
abbrev ptr (b : Nat) : Value := .pointer (some ⟨b, 0, none⟩)
theorem ring_place {m : Mem} (b room : Nat) (p : Option Addr) (ln c fr : Nat) (lost : Int) (i : Nat) (h0 : 0 < ln) (h1 : ln ≤ 65536) (h2 : fr ≤ 65536) (h3 : i ≤ 65536) :
    Rd Tryz.prog 206 #[ptr b, .int .i64 (i : Int)] m [rc b room p ln c fr lost] (.int .i64 ((fr + i) % ln : Nat)) := by
  unfold Rd
  refine Ct.enterV (by rfl) Tryz.func206 rfl Tryz.ntmps206 rfl (fun w0 Rest => ?_)
  (repeat' (first | refine zss ?_ | refine zsO ?_ | (refine zsp ?_ ?_ <;> (intro hc; (try simp only [zhcs, reduceCtorEq] at hc); (try (exfalso; first | contradiction | omega | exact absurd rfl hc | exact absurd (by decide) hc))))))
  all_goals (refine At.ret1 rfl (by rfl) (Mem.le_refl _) ⟨?_, rfl, rfl⟩ (Ent.refl _))
  all_goals (congr 1)
theorem ring_put_lt {m : Mem} (b room : Nat) (p : Option Addr) (c fr : Nat) (lost : Int) (l : List Elt) (x : Elt) (h0 : l.length < room) (h1 : room ≤ 65536) :
    Ct Tryz.prog 171 #[ptr b, val x] m (rr b room p c fr lost l) (fun v m' B => v = .tuple #[Ev.z.v, .bool false] ∧ m = m' ∧ ∃ p' c', B = rr b room p' c' fr lost (l ++ [x])) := by
  refine Ct.enterV (by rfl) Tryz.func171 rfl Tryz.ntmps171 rfl (fun w0 Rest => ?_)
  (repeat' (first | ((with_reducible apply At.mixed (id := 3) 11 (.q 0 (.q 1 (.q 2 (.q 3 (.q 4 (.q 5 (.l 6 (.x 7 (.q 8 (.q 9 (.x 10 .done)))))))))))); exact rfl; kernel_rfl; kernel_rfl; kernel_rfl) | ((with_reducible apply At.mixed (id := 5) 12 (.q 0 (.q 1 (.q 2 (.q 3 (.q 4 (.q 5 (.q 6 (.q 7 (.q 8 (.q 9 (.l 10 (.x 11 .done))))))))))))); exact rfl; kernel_rfl; kernel_rfl; kernel_rfl) | ((with_reducible apply At.mixed (id := 6) 11 (.q 0 (.q 1 (.q 2 (.q 3 (.q 4 (.q 5 (.q 6 (.q 7 (.q 8 (.q 9 (.x 10 .done)))))))))))); exact rfl; kernel_rfl; kernel_rfl; kernel_rfl) | refine zsx ?_ | refine zss ?_ | ((with_reducible apply AtM.bo); exact rfl; exact rfl; exact rfl) | refine zsO ?_ | refine zxO ?_ | ((with_reducible apply At.lit fi [x]); exact inferInstance; (iterate 7 exact rfl); intro _) | ((with_reducible apply At.apW (f := fi)); exact rfl; exact rfl; exact (by repeat constructor); exact inferInstance; exact zrdl; (iterate 4 exact rfl); exact zom; exact rfl; intro _ _) | ((with_reducible apply At.box (d := 3)); exact rfl; exact rfl; exact rfl; intro b3) | ((with_reducible apply At.alloc (d := 4)); exact rfl; exact rfl; intro b4) | ((with_reducible apply At.alloc (d := 6)); exact rfl; exact rfl; intro b6) | ((with_reducible apply At.alloc (d := 7)); exact rfl; exact rfl; intro b7) | (refine zsp ?_ ?_ <;> (intro hc; (try simp only [zhcs, reduceCtorEq] at hc); (try (exfalso; first | contradiction | omega | exact absurd rfl hc | exact absurd (by decide) hc))))))
  all_goals ((with_reducible apply At.retV (B := rr b room _ _ fr lost (l ++ [x]))); exact rfl; (repeat' (first | exact RVs.nil | (with_reducible apply RVs.cons) | exact rv_tmp (by rfl) | exact rv_cellN (by rfl) (by repeat constructor) (by rfl) (by rfl) (by rfl) | exact rv_cell1 (by rfl) (by repeat constructor) (by rfl) (by rfl))); exact zml; exact zkp; exact ⟨rfl, rfl, _, _, rfl⟩)
theorem ring_put_ge {m : Mem} (b room : Nat) (p : Option Addr) (c fr : Nat) (lost : Int) (l : List Elt) (x : Elt) (h0 : ¬ l.length < room) (h1 : l.length ≤ 65536) (h2 : fr < l.length) (h3 : 0 ≤ lost ∧ lost ≤ 4611686018427387904) :
    Ct Tryz.prog 171 #[ptr b, val x] m (rr b room p c fr lost l) (fun v m' B => v = .tuple #[val l[fr]!, .bool true] ∧ m = m' ∧ B = rr b room p c ((fr + 1) % l.length) (lost + 1) (l.set fr x)) := by
  refine Ct.enterV (by rfl) Tryz.func171 rfl Tryz.ntmps171 rfl (fun w0 Rest => ?_)
  (repeat' (first | ((with_reducible apply At.mixed (id := 3) 11 (.q 0 (.q 1 (.q 2 (.q 3 (.q 4 (.q 5 (.l 6 (.x 7 (.q 8 (.q 9 (.x 10 .done)))))))))))); exact rfl; kernel_rfl; kernel_rfl; kernel_rfl) | ((with_reducible apply At.mixed (id := 5) 12 (.q 0 (.q 1 (.q 2 (.q 3 (.q 4 (.q 5 (.q 6 (.q 7 (.q 8 (.q 9 (.l 10 (.x 11 .done))))))))))))); exact rfl; kernel_rfl; kernel_rfl; kernel_rfl) | ((with_reducible apply At.mixed (id := 6) 11 (.q 0 (.q 1 (.q 2 (.q 3 (.q 4 (.q 5 (.q 6 (.q 7 (.q 8 (.q 9 (.x 10 .done)))))))))))); exact rfl; kernel_rfl; kernel_rfl; kernel_rfl) | refine zsx ?_ | refine zss ?_ | ((with_reducible apply AtM.bo); exact rfl; exact rfl; exact rfl) | refine zsO ?_ | refine zxO ?_ | ((with_reducible apply At.storeW (f := fi) (x' := x)); (case hx => exact rfl); (case hy => exact rfl); (case hv => exact rfl); (case hp => exact (by repeat constructor)); (case hr => exact rfl); (case hf => exact inferInstance); (case hk => exact zom); (case hs => exact rfl); (case hq => exact rfl); (case h1 => exact rfl)) | ((with_reducible first | apply AtM1.cr | apply AtQ.cr | apply At.cr); exact rfl; exact rfl; exact fun _ hmm => ring_place b room p l.length c fr lost 1 (by omega) (by omega) (by omega) (by omega); exact ztk; kernel_rfl) | ((with_reducible apply At.box (d := 3)); exact rfl; exact rfl; exact rfl; intro b3) | ((with_reducible apply At.alloc (d := 4)); exact rfl; exact rfl; intro b4) | ((with_reducible apply At.alloc (d := 6)); exact rfl; exact rfl; intro b6) | ((with_reducible apply At.alloc (d := 7)); exact rfl; exact rfl; intro b7) | (refine zsp ?_ ?_ <;> (intro hc; (try simp only [zhcs, reduceCtorEq] at hc); (try (exfalso; first | contradiction | omega | exact absurd rfl hc | exact absurd (by decide) hc))))))
  all_goals ((with_reducible apply At.retV (B := [rc b room p l.length c ((fr + 1) % l.length) (lost + 1), .own fi 4 57 p c (l.set fr x)])); exact rfl; (repeat' (first | exact RVs.nil | (with_reducible apply RVs.cons) | exact rv_tmp (by rfl) | exact rv_cellN (by rfl) (by repeat constructor) (by rfl) (by rfl) (by rfl) | exact rv_cell1 (by rfl) (by repeat constructor) (by rfl) (by rfl))); exact zml; exact zkp; exact ⟨rfl, rfl, by simp [rr]⟩)
theorem ring_all0 {m : Mem} (b room : Nat) (p : Option Addr) (c fr : Nat) (lost : Int) (l : List Elt) (h1 : l.length ≤ 65536) (h2 : fr ≤ l.length) :
    Ct Tryz.prog 172 #[ptr b] m (rr b room p c fr lost l) (fun v m' B => m = m' ∧ ∃ p' c', v = .slice p' (l.drop fr ++ l.take fr).length c' ∧ B = .own fi 4 57 p' c' (l.drop fr ++ l.take fr) :: rr b room p c fr lost l) := by
  have hl : ([] ++ List.drop fr (List.take l.length l) ++ List.drop 0 (List.take fr l)).length = l.length := by simp; omega
  have hl2 : ([] ++ List.drop fr (List.take l.length l) ++ List.drop 0 (List.take fr l)) = l.drop fr ++ l.take fr := by simp
  refine Ct.enterV (by rfl) Tryz.func172 rfl Tryz.ntmps172 rfl (fun w0 Rest => ?_)
  refine At.own_form (E := 57) (f := fi) (sz := 4) (p := p) (c := c) (l := l) (by repeat constructor) fun hne hle hbig => ?_
  (repeat' (first | ((with_reducible apply At.mixed (id := 2) 12 (.q 0 (.q 1 (.q 2 (.q 3 (.q 4 (.q 5 (.q 6 (.q 7 (.q 8 (.q 9 (.x 10 (.q 11 .done))))))))))))); exact rfl; kernel_rfl; kernel_rfl; kernel_rfl) | ((with_reducible apply At.mixed (id := 3) 12 (.q 0 (.q 1 (.q 2 (.q 3 (.q 4 (.q 5 (.q 6 (.q 7 (.q 8 (.q 9 (.x 10 (.q 11 .done))))))))))))); exact rfl; kernel_rfl; kernel_rfl; kernel_rfl) | refine zsx ?_ | refine zss ?_ | ((with_reducible apply AtM.bo); exact rfl; exact rfl; exact rfl) | refine zsO ?_ | refine zxO ?_ | ((with_reducible apply At.makeW (fi)); exact inferInstance; (iterate 5 exact rfl); exact zom; exact rfl; intro _) | ((with_reducible apply At.apW (f := fi)); exact rfl; exact rfl; exact (by repeat constructor); exact inferInstance; exact zrdl; (iterate 4 exact rfl); exact zom; exact rfl; intro _ _) | (refine zsp ?_ ?_ <;> (intro hc; (try simp only [zhcs, reduceCtorEq] at hc); (try (exfalso; first | contradiction | omega | exact absurd rfl hc | exact absurd (by decide) hc))))))
  all_goals ((with_reducible apply At.retB1 (B := .own fi 4 57 _ _ _ :: rr b room p c fr lost l)); exact rfl; exact rfl; exact zml; exact zkp; exact ⟨rfl, _, _, by rw [hl2], by rw [hl2]⟩)
theorem R.open {m : Mem} {f : FuncId} {args : Array Value} {b room : Nat} {lost : Int} {cont : List Elt} {Q : Value → Mem → List Res → Prop} (h : ∀ s : St, inv room cont s → Ct Tryz.prog f args m (rr b room s.p s.c s.fr lost s.l) Q) : Ct Tryz.prog f args m [R b room lost cont] Q :=
  Ct.openx fun s hs => by rw [List.append_nil]; exact h s hs
theorem R.close {b room : Nat} {lost : Int} {cont : List Elt} (s : St) (hs : inv room cont s) (Rest : List Res) : Ent (rr b room s.p s.c s.fr lost s.l ++ Rest) (R b room lost cont :: Rest) := Ent.closex (A := fun s => rr b room s.p s.c s.fr lost s.l) s hs
theorem ringPut {m : Mem} (b room : Nat) (lost : Int) (cont : List Elt) (x : Elt) (h0 : 1 ≤ room) (hr : room ≤ 65536) (h3 : 0 ≤ lost ∧ lost ≤ 4611686018427387904) :
    Ct Tryz.prog 171 #[ptr b, val x] m [R b room lost cont] (fun v m' B => v = (if cont.length < room then .tuple #[Ev.z.v, .bool false] else .tuple #[val cont[0]!, .bool true]) ∧ m = m' ∧
      B = [R b room (if cont.length < room then lost else lost + 1) (putC room cont x)]) :=
  R.open fun s hs => by
    have hl := hs.len
    obtain ⟨g1, g2, g3, g4⟩ := hs
    by_cases hlt : s.l.length < room
    · refine Ct.conv (ring_put_lt b room s.p s.c s.fr lost s.l x hlt hr) fun v m' B _ ⟨h1, h2, p', c', h4⟩ => ⟨_, ⟨by rw [if_pos (by omega)]; exact h1, h2, rfl⟩, fun Rest => ?_⟩
      subst h4
      have e0 := g2 hlt
      rw [if_pos (by omega)]
      refine R.close ⟨p', c', s.fr, s.l ++ [x]⟩ ⟨by simp; omega, fun _ => e0, .inr e0, ?_⟩ Rest
      unfold putC
      rw [if_pos (by omega), g4, e0]; simp
    · refine Ct.conv (ring_put_ge b room s.p s.c s.fr lost s.l x hlt (by omega) (by omega) h3) fun v m' B _ ⟨h1, h2, h4⟩ => ⟨_, ⟨?_, h2, rfl⟩, fun Rest => ?_⟩
      · rw [if_neg (by omega), h1]
        have := rot_get (l := s.l) (fr := s.fr) (k := 0) (by omega) g3
        rw [← g4, Nat.add_zero, Nat.mod_eq_of_lt (by omega)] at this
        rw [this]
      · subst h4
        rw [if_neg (by omega)]
        have hm := Nat.mod_lt (s.fr + 1) (show 0 < s.l.length by omega)
        refine R.close ⟨s.p, s.c, (s.fr + 1) % s.l.length, s.l.set s.fr x⟩ ⟨by simp; omega, fun h => by simp at h; omega, .inl (by simpa using hm), ?_⟩ Rest
        unfold putC
        rw [if_neg (by omega), g4]
        exact (rot_put (by omega)).symm
theorem ringAll {m : Mem} (b room : Nat) (lost : Int) (cont : List Elt) (hr : room ≤ 65536) :
    Ct Tryz.prog 172 #[ptr b] m [R b room lost cont] (fun v m' B => m = m' ∧ ∃ p' c', v = .slice p' cont.length c' ∧ B = [.own fi 4 57 p' c' cont, R b room lost cont]) :=
  R.open fun s hs => by
    have hs' := hs
    obtain ⟨g1, g2, g3, g4⟩ := hs'
    refine Ct.conv (ring_all0 b room s.p s.c s.fr lost s.l (by omega) (by omega)) fun v m' B _ ⟨h1, p', c', h2, h3⟩ => ⟨_, ⟨h1, p', c', by rw [g4]; exact h2, rfl⟩, fun Rest => ?_⟩
    subst h3
    rw [← g4]
    exact Ent.cons _ (R.close s hs Rest)
theorem ring_new0 {m : Mem} (room : Int) (hr : -9223372036854775808 ≤ room ∧ room ≤ 9223372036854775807) :
    Ct Tryz.prog 205 #[.int .i64 room] m [] (fun v m' B => m = m' ∧ ((1 ≤ room ∧ room ≤ 65536 ∧ ∃ b, v = .tuple #[ptr b, .int .i64 0] ∧ B = [.blk b 289 [.int .i64 room, .slice none 0 0, .int .i64 0, .int .u64 0]]) ∨ (¬ (1 ≤ room ∧ room ≤ 65536) ∧ v = .tuple #[.pointer none, .int .i64 1] ∧ B = []))) := by
  refine Ct.enterV (by rfl) Tryz.func205 rfl Tryz.ntmps205 rfl (fun w0 Rest => ?_)
  (repeat' (first | refine zss ?_ | refine zsO ?_ | ((with_reducible apply At.box (d := 12)); exact rfl; exact rfl; exact rfl; intro b12) | (refine zsp ?_ ?_ <;> (intro hc; (try simp only [zhcs, reduceCtorEq] at hc); (try (exfalso; first | contradiction | omega | exact absurd rfl hc | exact absurd (by decide) hc))))))
  all_goals first
    | ((with_reducible apply At.retB2 (B := [])); (iterate 3 exact rfl); exact zml; exact zkp; exact ⟨rfl, .inr ⟨by omega, rfl, rfl⟩⟩)
    | ((with_reducible apply At.retB2 (B := [.blk _ _ _])); (iterate 3 exact rfl); exact zml; exact zkp; exact ⟨rfl, .inl ⟨by omega, by omega, _, rfl, rfl⟩⟩)
theorem ringNew {m : Mem} (room : Int) (hr : -9223372036854775808 ≤ room ∧ room ≤ 9223372036854775807) :
    Ct Tryz.prog 205 #[.int .i64 room] m [] (fun v m' B => m = m' ∧ ((1 ≤ room ∧ room ≤ 65536 ∧ ∃ b, v = .tuple #[ptr b, .int .i64 0] ∧ B = [R b room.toNat 0 []]) ∨ (¬ (1 ≤ room ∧ room ≤ 65536) ∧ v = .tuple #[.pointer none, .int .i64 1] ∧ B = []))) :=
  Ct.conv (ring_new0 room hr) fun v m' B _ ⟨h1, h⟩ => by
    rcases h with ⟨h2, h3, b, h4, h5⟩ | ⟨h2, h3, h4⟩
    · refine ⟨_, ⟨h1, .inl ⟨h2, h3, b, h4, rfl⟩⟩, fun Rest => ?_⟩
      subst h5
      have e : ((room.toNat : Nat) : Int) = room := Int.toNat_of_nonneg (by omega)
      have := R.close (b := b) (room := room.toNat) (lost := 0) (cont := []) ⟨none, 0, 0, []⟩ ⟨by simp, fun _ => rfl, .inr rfl, by simp⟩ Rest
      simp only [rr, rc, e] at this
      exact (Ent.cons _ (own_nil_ent fi 4 57 Rest)).trans this
    · exact ⟨_, ⟨h1, .inr ⟨h2, h3, h4⟩⟩, fun Rest => by subst h4; exact Ent.refl _⟩
end RingE
end Go.Proofs.YtkoijdmlehkhbaaGreatDoor

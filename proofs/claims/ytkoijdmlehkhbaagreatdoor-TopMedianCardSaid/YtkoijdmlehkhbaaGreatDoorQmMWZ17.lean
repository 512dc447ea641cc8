/- Part 17 of what the law's proof needs: rules of the walk, contracts of functions, plain laws. No condition. -/
import Derived.Test.YtkoijdmlehkhbaaGreatDoorQmMWZ16
/- The walk of TopMedian. -/
set_option linter.unusedSimpArgs false
set_option linter.unusedVariables false
set_option linter.unusedSectionVars false
set_option maxRecDepth 20000
set_option maxHeartbeats 4000000
namespace Go.Proofs.YtkoijdmlehkhbaaGreatDoor
open Go Go.J
attribute [local irreducible] At AtQ AtM AtM1 PR Ct Pu Rd Res.blk Res.own Res.ex RVs RV
namespace Qy
open Slot Ti Se St Win
open Fo hiding pt
set_option maxRecDepth 100000 in
theorem medianL {m : Mem} (hz : Ra.TZ m) (u : Sta) (t a b : Int) (hu : u.Lay m) :
    Ct Tryz.prog 3 #[u.v, .int .i64 t, .int .i64 a, .int .i64 b] m [] (fun v m' B => v = .bool true ∧ B = []) := by
  have hlv := fun (m' : Mem) (h : m.le m') => begins20 (m := m') (hz.mono h)
  have hsu := fun (m' : Mem) (h : m.le m') => small17 u (hu.mono h)
  unfold smU at hsu
  by_cases h0 : u.sm
  rotate_left
  · rw [if_neg h0] at hsu
    refine Ct.enterV (by rfl) Tryz.func3 rfl Tryz.ntmps3 rfl (fun w0 Rest => ?_)
    (repeat' (first | refine zss ?_ | refine zsM ?_ | ((with_reducible first | apply AtM1.cr | apply AtQ.cr | apply At.cr); exact rfl; exact rfl; exact fun _ hmm => hlv _ hmm; exact ztk; kernel_rfl) | ((with_reducible first | apply AtM1.cr | apply AtQ.cr | apply At.cr); exact rfl; exact rfl; exact fun _ hmm => hsu _ hmm; exact ztk; kernel_rfl) | ((with_reducible apply At.box (d := 4)); exact rfl; exact rfl; exact rfl; intro b4) | ((with_reducible apply At.alloc (d := 13)); exact rfl; exact rfl; intro b13) | ((with_reducible apply At.alloc (d := 18)); exact rfl; exact rfl; intro b18) | ((with_reducible apply At.alloc (d := 26)); exact rfl; exact rfl; intro b26) | ((with_reducible apply At.alloc (d := 27)); exact rfl; exact rfl; intro b27) | (refine zsp ?_ ?_ <;> (intro hc; (try simp only [zhcs, reduceCtorEq] at hc); (try (exfalso; first | (first | omega | exact absurd rfl hc | exact absurd hc (by decide)) | contradiction | omega | exact absurd rfl hc | exact absurd (by decide) hc))))))
    all_goals ((with_reducible apply At.retB1 (B := [])); exact rfl; exact rfl; exact zml; exact zkp; exact ⟨rfl, rfl⟩)
  rw [if_pos h0] at hsu
  have hs := hu.ok h0
  have kc := fun (m' : Mem) (h : m.le m') => check u (hs.mono h)
  unfold St.chk at kc
  by_cases hok : okU u
  rotate_left
  · rw [if_neg hok] at kc
    refine Ct.enterV (by rfl) Tryz.func3 rfl Tryz.ntmps3 rfl (fun w0 Rest => ?_)
    (repeat' (first | refine zss ?_ | refine zsM ?_ | ((with_reducible first | apply AtM1.cr | apply AtQ.cr | apply At.cr); exact rfl; exact rfl; exact fun _ hmm => hlv _ hmm; exact ztk; kernel_rfl) | ((with_reducible first | apply AtM1.cr | apply AtQ.cr | apply At.cr); exact rfl; exact rfl; exact fun _ hmm => hsu _ hmm; exact ztk; kernel_rfl) | ((with_reducible first | apply AtM1.cr | apply AtQ.cr | apply At.cr); exact rfl; exact rfl; exact fun _ hmm => kc _ hmm; exact ztk; kernel_rfl) | ((with_reducible apply At.box (d := 4)); exact rfl; exact rfl; exact rfl; intro b4) | ((with_reducible apply At.alloc (d := 13)); exact rfl; exact rfl; intro b13) | ((with_reducible apply At.alloc (d := 18)); exact rfl; exact rfl; intro b18) | ((with_reducible apply At.alloc (d := 26)); exact rfl; exact rfl; intro b26) | ((with_reducible apply At.alloc (d := 27)); exact rfl; exact rfl; intro b27) | (refine zsp ?_ ?_ <;> (intro hc; (try simp only [zhcs, reduceCtorEq] at hc); (try (exfalso; first | (first | omega | exact absurd rfl hc | exact absurd hc (by decide)) | contradiction | omega | exact absurd rfl hc | exact absurd (by decide) hc))))))
    all_goals ((with_reducible apply At.retB1 (B := [])); exact rfl; exact rfl; exact zml; exact zkp; exact ⟨rfl, rfl⟩)
  rw [if_pos hok] at kc
  have kp := fun (m' : Mem) (h : m.le m') => Parts_ (hz.mono h) u t a b (hs.mono h) hok
  have hrl := rep_len hs t a b
  have hin := repG_in hs t a b
  have hreq := fun h => rates_eq (t := t) (a := a) (b := b) hs h
  have hpd := fun h i => @par_do u t a b h i
  have hr1 := @repG1 u t a b
  generalize hE : parE u t a b = E at kp hpd hreq hr1
  generalize repG u t a b = A at kp hrl hin hreq hr1
  have kr := fun (m' : Mem) (h : m.le m') (p : Option Addr) (c : Nat) (sl0 : _) => rates_ (m := m') (hz.mono h) p c A hrl hin sl0
  have hRl := Nat.le_trans (ratL_len A) hrl
  by_cases h1 : E ≠ 0
  · obtain rfl := hr1 h1
    clear hpd hreq hin hs hu
    refine Ct.enterV (by rfl) Tryz.func3 rfl Tryz.ntmps3 rfl (fun w0 Rest => ?_)
    (repeat' (first | refine zss ?_ | refine zsM ?_ | ((with_reducible first | apply AtM1.cr | apply AtQ.cr | apply At.cr); exact rfl; exact rfl; exact fun _ hmm => hlv _ hmm; exact ztk; kernel_rfl) | ((with_reducible first | apply AtM1.cr | apply AtQ.cr | apply At.cr); exact rfl; exact rfl; exact fun _ hmm => hsu _ hmm; exact ztk; kernel_rfl) | ((with_reducible first | apply AtM1.cr | apply AtQ.cr | apply At.cr); exact rfl; exact rfl; exact fun _ hmm => kc _ hmm; exact ztk; kernel_rfl) | ((with_reducible first | apply At.c1 | apply At.c0); exact rfl; exact rfl; exact kp _ zml; exact ztk; kernel_rfl; rintro v' m' B' hm' ⟨rfl, p1, c1, rfl, sl1⟩; (try replace sl0 := sl0.mono hm'); (try replace sl1 := sl1.mono hm'); (try replace sl2 := sl2.mono hm'); (try replace sl3 := sl3.mono hm'); (try replace sl7 := sl7.mono hm'); (try replace sl8 := sl8.mono hm'); (try (have hq0 : hm' = Mem.le_refl _ := rfl; clear hq0 hm'))) | ((with_reducible first | apply At.c1 | apply At.c0); exact rfl; exact rfl; exact kr _ zml _ _ sl1; exact ztk; kernel_rfl; rintro v' m' B' hm' ⟨rfl, p2, c2, rfl, sl2⟩; (try replace sl0 := sl0.mono hm'); (try replace sl1 := sl1.mono hm'); (try replace sl2 := sl2.mono hm'); (try replace sl3 := sl3.mono hm'); (try replace sl7 := sl7.mono hm'); (try replace sl8 := sl8.mono hm'); (try (have hq0 : hm' = Mem.le_refl _ := rfl; clear hq0 hm'))) | ((with_reducible apply At.box (d := 4)); exact rfl; exact rfl; exact rfl; intro b4) | ((with_reducible apply At.alloc (d := 13)); exact rfl; exact rfl; intro b13) | ((with_reducible apply At.alloc (d := 18)); exact rfl; exact rfl; intro b18) | ((with_reducible apply At.alloc (d := 26)); exact rfl; exact rfl; intro b26) | ((with_reducible apply At.alloc (d := 27)); exact rfl; exact rfl; intro b27) | (refine zsp ?_ ?_ <;> (intro hc; (try simp only [zhcs, reduceCtorEq] at hc); (try (exfalso; first | (first | omega | exact absurd rfl hc | exact absurd hc h1) | contradiction | omega | exact absurd rfl hc | exact absurd (by decide) hc))))))
    all_goals ((with_reducible apply At.retB1 (B := [])); exact rfl; exact rfl; exact zml; exact zkp; exact ⟨rfl, rfl⟩)
  obtain rfl : E = 0 := by omega
  have hreq := hreq rfl
  have hpd := fun i => @hpd rfl i
  have hRin : ∀ x ∈ ratL A, Qu.In2 x := fun x hx => by
    obtain ⟨r, hr, rfl⟩ := List.mem_map.1 hx
    exact hin r (List.mem_filter.1 hr).1
  generalize ratL A = R at kr hRl hreq hRin
  clear hr1 hin
  by_cases h2 : Qu.chkL R = 0 ∧ R ≠ []
  rotate_left
  · have h3 : decide (Qu.chkL R = 0) = false ∨ R.length = 0 := by
      by_cases h : Qu.chkL R = 0
      · exact .inr (by cases R; rfl; exact absurd ⟨h, List.cons_ne_nil _ _⟩ h2)
      · exact .inl (decide_eq_false h)
    generalize decide (Qu.chkL R = 0) = g at kr h3
    clear hpd hreq hs hu h2 hRin
    rcases h3 with rfl | h3
    all_goals
      refine Ct.enterV (by rfl) Tryz.func3 rfl Tryz.ntmps3 rfl (fun w0 Rest => ?_)
      (repeat' (first | refine zss ?_ | refine zsM ?_ | ((with_reducible first | apply AtM1.cr | apply AtQ.cr | apply At.cr); exact rfl; exact rfl; exact fun _ hmm => hlv _ hmm; exact ztk; kernel_rfl) | ((with_reducible first | apply AtM1.cr | apply AtQ.cr | apply At.cr); exact rfl; exact rfl; exact fun _ hmm => hsu _ hmm; exact ztk; kernel_rfl) | ((with_reducible first | apply AtM1.cr | apply AtQ.cr | apply At.cr); exact rfl; exact rfl; exact fun _ hmm => kc _ hmm; exact ztk; kernel_rfl) | ((with_reducible first | apply At.c1 | apply At.c0); exact rfl; exact rfl; exact kp _ zml; exact ztk; kernel_rfl; rintro v' m' B' hm' ⟨rfl, p1, c1, rfl, sl1⟩; (try replace sl0 := sl0.mono hm'); (try replace sl1 := sl1.mono hm'); (try replace sl2 := sl2.mono hm'); (try replace sl3 := sl3.mono hm'); (try replace sl7 := sl7.mono hm'); (try replace sl8 := sl8.mono hm'); (try (have hq0 : hm' = Mem.le_refl _ := rfl; clear hq0 hm'))) | ((with_reducible first | apply At.c1 | apply At.c0); exact rfl; exact rfl; exact kr _ zml _ _ sl1; exact ztk; kernel_rfl; rintro v' m' B' hm' ⟨rfl, p2, c2, rfl, sl2⟩; (try replace sl0 := sl0.mono hm'); (try replace sl1 := sl1.mono hm'); (try replace sl2 := sl2.mono hm'); (try replace sl3 := sl3.mono hm'); (try replace sl7 := sl7.mono hm'); (try replace sl8 := sl8.mono hm'); (try (have hq0 : hm' = Mem.le_refl _ := rfl; clear hq0 hm'))) | ((with_reducible apply At.box (d := 4)); exact rfl; exact rfl; exact rfl; intro b4) | ((with_reducible apply At.alloc (d := 13)); exact rfl; exact rfl; intro b13) | ((with_reducible apply At.alloc (d := 18)); exact rfl; exact rfl; intro b18) | ((with_reducible apply At.alloc (d := 26)); exact rfl; exact rfl; intro b26) | ((with_reducible apply At.alloc (d := 27)); exact rfl; exact rfl; intro b27) | (refine zsp ?_ ?_ <;> (intro hc; (try simp only [zhcs, reduceCtorEq] at hc); (try (exfalso; first | (first | omega | exact absurd rfl hc) | contradiction | omega | exact absurd rfl hc | exact absurd (by decide) hc))))))
      all_goals ((with_reducible apply At.retB1 (B := [])); exact rfl; exact rfl; exact zml; exact zkp; exact ⟨rfl, rfl⟩)
  obtain ⟨h2, h3⟩ := h2
  rw [decide_eq_true h2] at kr
  have hsl := Qu.chkL_ok h2
  obtain ⟨m1, m2, m3⟩ := Qu.mid_half hsl h3
  have em := Qu.of_mid h2 h3
  have ko := fun (m' : Mem) (h : m.le m') (p : Option Addr) (c : Nat) (sl0 : _) => Qu.ofC (m := m') (hz.mono h) 1 2 (by decide) (by decide) p c R.length R rfl hRl hRin sl0
  rw [em] at ko
  clear em
  generalize (Qu.srt R)[Qu.rk R.length 1 2 - 1]! = M at m1 m2 m3 ko
  have hpos : 0 < R.length := List.length_pos_iff.2 h3
  have hM := hsl _ m1
  have hMi := Qu.sm_in hM
  dsimp only at ko
  have kless := fun (m' : Mem) (h : m.le m') (x y : Nat × Nat) (hx : Qu.Sm x) (hy : Qu.Sm y) => Ra.lessT (m := m') (hz.mono h) x.1 x.2 y.1 y.2 (Qu.sm_in hx).1 (Qu.sm_in hx).2 (Qu.sm_in hy).1 (Qu.sm_in hy).2
  have kl := fun (m' : Mem) (h : m.le m') => live_ u (hs.mono h) hok.1
  -- the one in the middle is one of them
  have hrung : (lv u).any (fun i => decide ((dI u (tierG u t a b).1 a b i).1.e = 0 ∧ (dI u (tierG u t a b).1 a b i).1.r = M)) = true := by
    rw [hreq] at m1
    obtain ⟨i, hi, hr⟩ := List.mem_map.1 m1
    obtain ⟨hi1, hi2⟩ := List.mem_filter.1 hi
    exact List.any_eq_true.2 ⟨i, hi1, decide_eq_true ⟨of_decide_eq_true hi2, hr⟩⟩
  clear hreq h0 h2 h3 m1
  obtain ⟨lo, hlo⟩ : ∃ lo, lo = fun k => ((R.take k).filter fun y => !Qu.lt M y).length := ⟨_, rfl⟩
  obtain ⟨hi, hhi⟩ : ∃ hi, hi = fun k => ((R.take k).filter fun y => !Qu.lt y M).length := ⟨_, rfl⟩
  have lo0 : lo 0 = 0 := by rw [hlo]; rfl
  have hi0 : hi 0 = 0 := by rw [hhi]; rfl
  have loN : R.length ≤ 2 * lo R.length := by rw [hlo]; show _ ≤ 2 * ((R.take R.length).filter _).length; rw [List.take_length]; exact m2
  have hiN : R.length ≤ 2 * hi R.length := by rw [hhi]; show _ ≤ 2 * ((R.take R.length).filter _).length; rw [List.take_length]; exact m3
  have lob : ∀ k, lo k ≤ 1000000 := fun k => by rw [hlo]; exact Nat.le_trans (List.length_filter_le _ _) (by rw [List.length_take]; omega)
  have hib : ∀ k, hi k ≤ 1000000 := fun k => by rw [hhi]; exact Nat.le_trans (List.length_filter_le _ _) (by rw [List.length_take]; omega)
  have lon : ∀ k, k < R.length → lo (k + 1) = lo k + if (!Qu.lt M R[k]!) = true then 1 else 0 := fun k hk => by rw [hlo]; exact filt_len _ hk
  have hin : ∀ k, k < R.length → hi (k + 1) = hi k + if (!Qu.lt R[k]! M) = true then 1 else 0 := fun k hk => by rw [hhi]; exact filt_len _ hk
  clear hlo hhi m2 m3
  refine Ct.enterV (by rfl) Tryz.func3 rfl Tryz.ntmps3 rfl (fun w0 Rest => ?_)
  (repeat' (first | refine zss ?_ | refine zsM ?_ | ((with_reducible first | apply AtM1.cr | apply AtQ.cr | apply At.cr); exact rfl; exact rfl; exact fun _ hmm => hlv _ hmm; exact ztk; kernel_rfl) | ((with_reducible first | apply AtM1.cr | apply AtQ.cr | apply At.cr); exact rfl; exact rfl; exact fun _ hmm => hsu _ hmm; exact ztk; kernel_rfl) | ((with_reducible first | apply AtM1.cr | apply AtQ.cr | apply At.cr); exact rfl; exact rfl; exact fun _ hmm => kc _ hmm; exact ztk; kernel_rfl) | ((with_reducible first | apply At.c1 | apply At.c0); exact rfl; exact rfl; exact kp _ zml; exact ztk; kernel_rfl; rintro v' m' B' hm' ⟨rfl, p1, c1, rfl, sl1⟩; (try replace sl0 := sl0.mono hm'); (try replace sl1 := sl1.mono hm'); (try replace sl2 := sl2.mono hm'); (try replace sl3 := sl3.mono hm'); (try replace sl7 := sl7.mono hm'); (try replace sl8 := sl8.mono hm'); (try (have hq0 : hm' = Mem.le_refl _ := rfl; clear hq0 hm'))) | ((with_reducible first | apply At.c1 | apply At.c0); exact rfl; exact rfl; exact kr _ zml _ _ sl1; exact ztk; kernel_rfl; rintro v' m' B' hm' ⟨rfl, p2, c2, rfl, sl2⟩; (try replace sl0 := sl0.mono hm'); (try replace sl1 := sl1.mono hm'); (try replace sl2 := sl2.mono hm'); (try replace sl3 := sl3.mono hm'); (try replace sl7 := sl7.mono hm'); (try replace sl8 := sl8.mono hm'); (try (have hq0 : hm' = Mem.le_refl _ := rfl; clear hq0 hm'))) | ((with_reducible first | apply AtM1.cr | apply AtQ.cr | apply At.cr); exact rfl; exact rfl; exact fun _ hmm => ko _ zml _ _ (sl2.mono hmm); exact ztk; kernel_rfl) | ((with_reducible apply At.box (d := 4)); exact rfl; exact rfl; exact rfl; intro b4) | ((with_reducible apply At.alloc (d := 13)); exact rfl; exact rfl; intro b13) | ((with_reducible apply At.alloc (d := 18)); exact rfl; exact rfl; intro b18) | ((with_reducible apply At.alloc (d := 26)); exact rfl; exact rfl; intro b26) | ((with_reducible apply At.alloc (d := 27)); exact rfl; exact rfl; intro b27) | (refine zsp ?_ ?_ <;> (intro hc; (try simp only [zhcs, reduceCtorEq] at hc); (try (exfalso; first | (first | omega | exact absurd rfl hc) | contradiction | omega | exact absurd rfl hc | exact absurd (by decide) hc))))))
  have hm2 : m.le m' := zml
  replace hs := hs.mono hm2
  replace hz := hz.mono hm2
  replace kl := fun (m2 : Mem) (h : m'.le m2) => kl m2 (Mem.le_trans hm2 h)
  replace kless := fun (m2 : Mem) (h : m'.le m2) => kless m2 (Mem.le_trans hm2 h)
  clear hlv hsu kc kp kr ko hu
  (refine At.loopk (σ := Nat) [1, 2, 3, 4, 11, 13, 79, 80] (fun s F0 => (81, .int .i64 (s : Int)) :: (15, .int .i64 (lo s : Int)) :: (16, .int .i64 (hi s : Int)) :: F0) (fun s => m') (fun s => .blk b13 43 (Qu.fd M) :: .blk b4 28 u.cells :: Rest) (fun s => s ≤ R.length) (fun s => R.length - s) 0 (by rfl) ?_ zsubs zml zente ?_)
  · exact Nat.zero_le _
  intro j hj
  by_cases h : j < R.length
  · have hx := hsl _ (Ls.mem! h)
    have k1 := fun (m2 : Mem) (h : m'.le m2) => kless m2 h R[j]! M hx hM
    have k2 := fun (m2 : Mem) (h : m'.le m2) => kless m2 h M R[j]! hM hx
    rw [Qu.les_lt hx hM] at k1
    rw [Qu.les_lt hM hx] at k2
    have l1 := lon j h
    have l2 := hin j h
    have l3 := lob j
    have l4 := hib j
    generalize Qu.lt R[j]! M = g1 at k1 l2
    generalize Qu.lt M R[j]! = g2 at k2 l1
    generalize lo j = x1 at *
    generalize hi j = x2 at *
    clear kless kl hpd hrung hs hz lon hin lob hib loN hiN lo0 hi0
    cases g1 <;> cases g2
    all_goals
      simp only [Bool.not_false, Bool.not_true, if_true, if_false, Bool.false_eq_true, Nat.add_zero] at l1 l2
      (repeat' (first | refine zss ?_ | refine zsM ?_ | ((with_reducible first | apply AtM1.cr | apply AtQ.cr | apply At.cr); exact rfl; exact rfl; exact fun _ hmm => k1 _ hmm; exact ztk; kernel_rfl) | ((with_reducible first | apply AtM1.cr | apply AtQ.cr | apply At.cr); exact rfl; exact rfl; exact fun _ hmm => k2 _ hmm; exact ztk; kernel_rfl) | ((with_reducible apply At.box (d := 4)); exact rfl; exact rfl; exact rfl; intro b4) | ((with_reducible apply At.alloc (d := 13)); exact rfl; exact rfl; intro b13) | ((with_reducible apply At.alloc (d := 18)); exact rfl; exact rfl; intro b18) | ((with_reducible apply At.alloc (d := 26)); exact rfl; exact rfl; intro b26) | ((with_reducible apply At.alloc (d := 27)); exact rfl; exact rfl; intro b27) | (refine zsp ?_ ?_ <;> (intro hc; (try simp only [zhcs, reduceCtorEq] at hc); (try (exfalso; first | (first | omega | exact absurd rfl hc) | contradiction | omega | exact absurd rfl hc | exact absurd (by decide) hc))))))
      all_goals ((with_reducible refine At.reachk ((j + 1)) ?_ ?_ ?_ ?_); exact zsubs; exact zml; exact zente; exact ⟨h, by omega⟩)
  obtain rfl : j = R.length := by omega
  have l3 := lob R.length
  have l4 := hib R.length
  clear kless lon hin lob hib lo0 hi0
  generalize lo R.length = x1 at *
  generalize hi R.length = x2 at *
  obtain ⟨L, hL⟩ : ∃ L, lv u = L := ⟨_, rfl⟩
  have hlt : ∀ i ∈ L, i < u.pl.l.length := fun i hi => (lv_lt (hL ▸ hi)).1
  have hrt : ∀ i ∈ L, Lb.right u.pl.l[i]!.lab.l := fun i hi => live_right hok (hL ▸ hi)
  have hLl : L.length ≤ 1000000 := hL ▸ Nat.le_trans (lv_len u) hs.np
  rw [hL] at kl hrung hpd
  (repeat' (first | refine zss ?_ | refine zsM ?_ | ((with_reducible first | apply At.c1 | apply At.c0); exact rfl; exact rfl; exact kl _ zml; exact ztk; kernel_rfl; rintro v' m' B' hm' ⟨rfl, p3, c3, rfl, sl3⟩; (try replace sl0 := sl0.mono hm'); (try replace sl1 := sl1.mono hm'); (try replace sl2 := sl2.mono hm'); (try replace sl3 := sl3.mono hm'); (try replace sl7 := sl7.mono hm'); (try replace sl8 := sl8.mono hm'); (try (have hq0 : hm' = Mem.le_refl _ := rfl; clear hq0 hm'))) | ((with_reducible apply At.box (d := 4)); exact rfl; exact rfl; exact rfl; intro b4) | ((with_reducible apply At.alloc (d := 13)); exact rfl; exact rfl; intro b13) | ((with_reducible apply At.alloc (d := 18)); exact rfl; exact rfl; intro b18) | ((with_reducible apply At.alloc (d := 26)); exact rfl; exact rfl; intro b26) | ((with_reducible apply At.alloc (d := 27)); exact rfl; exact rfl; intro b27) | (refine zsp ?_ ?_ <;> (intro hc; (try simp only [zhcs, reduceCtorEq] at hc); (try (exfalso; first | (first | omega | exact absurd rfl hc) | contradiction | omega | exact absurd rfl hc | exact absurd (by decide) hc))))))
  replace hs := hs.mono hm'
  replace hz := hz.mono hm'
  clear kl hL
  (refine At.loopk (σ := Nat) [1, 2, 3, 4, 11, 13, 15, 16, 113, 114] (fun s F0 => (115, .int .i64 (s : Int)) :: (23, .bool ((L.take s).any fun i => decide ((dI u (tierG u t a b).1 a b i).1.e = 0 ∧ (dI u (tierG u t a b).1 a b i).1.r = M))) :: F0) (fun s => m') (fun s => .blk b13 43 (Qu.fd M) :: .blk b4 28 u.cells :: Rest) (fun s => s ≤ L.length) (fun s => L.length - s) 0 (by rfl) ?_ zsubs zml zente ?_)
  · exact Nat.zero_le _
  intro j hj
  by_cases h : j < L.length
  · have hi := hlt _ (Ls.mem! h)
    have hx := hs.at hi
    have sl8 := hs.sl
    have sl7 := hx.sl
    have hsn := any_snoc (fun i => decide ((dI u (tierG u t a b).1 a b i).1.e = 0 ∧ (dI u (tierG u t a b).1 a b i).1.r = M)) h
    obtain ⟨e1, e2⟩ := hpd _ (Ls.mem! h)
    have hr := hrt _ (Ls.mem! h)
    have k2 := fun (m2 : Mem) (hm2 : m'.le m2) => do_ (m := m2) (hz.mono hm2) u ⟨u.pl.l[L[j]!]!.lab, t, a, b⟩ (hs.mono hm2) hok hx.ml (Nat.le_trans hx.nl (by decide)) (sl7.mono hm2)
    have k3 := fun (m2 : Mem) (hm2 : m'.le m2) => one_w (m := m2) (hz.mono hm2) u ⟨⟨u.pl.l[L[j]!]!.lab, t, a, b⟩, M⟩ (hs.mono hm2) hok hx.ml (Nat.le_trans hx.nl (by decide)) hMi (sl7.mono hm2)
    have k4 := fun (m2 : Mem) (hm2 : m'.le m2) => Lb.check u.pl.l[L[j]!]!.lab.p u.pl.l[L[j]!]!.lab.c u.pl.l[L[j]!]!.lab.l hx.ml (sl7.mono hm2)
    rw [show Lb.chk u.pl.l[L[j]!]!.lab.l = 0 from if_pos hr] at k4
    have f1 := @oneW_yes u ⟨u.pl.l[L[j]!]!.lab, t, a, b⟩ M
    have e3 := e1
    generalize dI u (tierG u t a b).1 a b L[j]! = D at e1 e2 e3 hsn
    obtain ⟨r, e⟩ := D
    dsimp only at k2 k3 e1 e2 hsn f1
    obtain rfl : e = 0 := e2
    rw [e1] at k2
    obtain ⟨g, hgg⟩ : ∃ g, (L.take j).any (fun i => decide ((dI u (tierG u t a b).1 a b i).1.e = 0 ∧ (dI u (tierG u t a b).1 a b i).1.r = M)) = g := ⟨_, rfl⟩
    rw [hgg] at hsn ⊢
    clear hgg hrung hpd hlt hrt hx hs hz hok loN hiN e3
    by_cases h5 : r.e = 0
    · by_cases h6 : r.r = M
      · rw [f1 hM e1 h5 (h6 ▸ hM), h6, lt_self] at k3
        rw [decide_eq_true ⟨h5, h6⟩, Bool.or_true] at hsn
        (repeat' (first | refine zss ?_ | ((first | (with_reducible first | apply At.val | apply AtQ.val)); (first | exact pr_index_memi (by rfl) (by rfl) sl8 (by rfl) (by rfl) (by rfl) (by omega) (by omega) | exact Qu.pr_fne (a := r.r) (b := M) (by rfl) (by rfl)); exact rfl) | refine zsM ?_ | ((with_reducible first | apply AtM1.cr | apply AtQ.cr | apply At.cr); exact rfl; exact rfl; exact fun _ hmm => k2 _ hmm; exact ztk; kernel_rfl) | ((with_reducible first | apply AtM1.cr | apply AtQ.cr | apply At.cr); exact rfl; exact rfl; exact fun _ hmm => k3 _ hmm; exact ztk; kernel_rfl) | ((with_reducible first | apply AtM1.cr | apply AtQ.cr | apply At.cr); exact rfl; exact rfl; exact fun _ hmm => k4 _ hmm; exact ztk; kernel_rfl) | ((with_reducible apply At.box (d := 4)); exact rfl; exact rfl; exact rfl; intro b4) | ((with_reducible apply At.alloc (d := 13)); exact rfl; exact rfl; intro b13) | ((with_reducible apply At.alloc (d := 18)); exact rfl; exact rfl; intro b18) | ((with_reducible apply At.alloc (d := 26)); exact rfl; exact rfl; intro b26) | ((with_reducible apply At.alloc (d := 27)); exact rfl; exact rfl; intro b27) | (refine zsp ?_ ?_ <;> (intro hc; (try simp only [zhcs, reduceCtorEq] at hc); (try (exfalso; first | (first | omega | exact absurd rfl hc | exact absurd hc h5 | exact absurd h5 hc | exact absurd h6 hc) | contradiction | omega | exact absurd rfl hc | exact absurd (by decide) hc))))))
        all_goals rw [← hsn]
        all_goals ((with_reducible refine At.reachk ((j + 1)) ?_ ?_ ?_ ?_); exact zsubs; exact zml; exact zente; exact ⟨h, by omega⟩)
      · rw [decide_eq_false (fun e => h6 e.2), Bool.or_false] at hsn
        clear k3 f1
        (repeat' (first | refine zss ?_ | ((first | (with_reducible first | apply At.val | apply AtQ.val)); (first | exact pr_index_memi (by rfl) (by rfl) sl8 (by rfl) (by rfl) (by rfl) (by omega) (by omega) | exact Qu.pr_fne (a := r.r) (b := M) (by rfl) (by rfl)); exact rfl) | refine zsM ?_ | ((with_reducible first | apply AtM1.cr | apply AtQ.cr | apply At.cr); exact rfl; exact rfl; exact fun _ hmm => k2 _ hmm; exact ztk; kernel_rfl) | ((with_reducible apply At.box (d := 4)); exact rfl; exact rfl; exact rfl; intro b4) | ((with_reducible apply At.alloc (d := 13)); exact rfl; exact rfl; intro b13) | ((with_reducible apply At.alloc (d := 18)); exact rfl; exact rfl; intro b18) | ((with_reducible apply At.alloc (d := 26)); exact rfl; exact rfl; intro b26) | ((with_reducible apply At.alloc (d := 27)); exact rfl; exact rfl; intro b27) | (refine zsp ?_ ?_ <;> (intro hc; (try simp only [zhcs, reduceCtorEq] at hc); (try (exfalso; first | (first | omega | exact absurd rfl hc | exact absurd hc h5 | exact absurd h5 hc | exact absurd hc h6) | contradiction | omega | exact absurd rfl hc | exact absurd (by decide) hc))))))
        all_goals rw [← hsn]
        all_goals ((with_reducible refine At.reachk ((j + 1)) ?_ ?_ ?_ ?_); exact zsubs; exact zml; exact zente; exact ⟨h, by omega⟩)
    · rw [decide_eq_false (fun e => h5 e.1), Bool.or_false] at hsn
      clear k3 f1
      (repeat' (first | refine zss ?_ | ((first | (with_reducible first | apply At.val | apply AtQ.val)); (first | exact pr_index_memi (by rfl) (by rfl) sl8 (by rfl) (by rfl) (by rfl) (by omega) (by omega) | exact Qu.pr_fne (a := r.r) (b := M) (by rfl) (by rfl)); exact rfl) | refine zsM ?_ | ((with_reducible first | apply AtM1.cr | apply AtQ.cr | apply At.cr); exact rfl; exact rfl; exact fun _ hmm => k2 _ hmm; exact ztk; kernel_rfl) | ((with_reducible apply At.box (d := 4)); exact rfl; exact rfl; exact rfl; intro b4) | ((with_reducible apply At.alloc (d := 13)); exact rfl; exact rfl; intro b13) | ((with_reducible apply At.alloc (d := 18)); exact rfl; exact rfl; intro b18) | ((with_reducible apply At.alloc (d := 26)); exact rfl; exact rfl; intro b26) | ((with_reducible apply At.alloc (d := 27)); exact rfl; exact rfl; intro b27) | (refine zsp ?_ ?_ <;> (intro hc; (try simp only [zhcs, reduceCtorEq] at hc); (try (exfalso; first | (first | omega | exact absurd rfl hc | exact absurd hc h5 | exact absurd h5 hc) | contradiction | omega | exact absurd rfl hc | exact absurd (by decide) hc))))))
      all_goals rw [← hsn]
      all_goals ((with_reducible refine At.reachk ((j + 1)) ?_ ?_ ?_ ?_); exact zsubs; exact zml; exact zente; exact ⟨h, by omega⟩)
  · obtain rfl : j = L.length := by omega
    rw [List.take_length, hrung]
    clear hpd hlt hrt hs hz hok hrung
    (repeat' (first | refine zss ?_ | refine zsM ?_ | ((with_reducible apply At.box (d := 4)); exact rfl; exact rfl; exact rfl; intro b4) | ((with_reducible apply At.alloc (d := 13)); exact rfl; exact rfl; intro b13) | ((with_reducible apply At.alloc (d := 18)); exact rfl; exact rfl; intro b18) | ((with_reducible apply At.alloc (d := 26)); exact rfl; exact rfl; intro b26) | ((with_reducible apply At.alloc (d := 27)); exact rfl; exact rfl; intro b27) | (refine zsp ?_ ?_ <;> (intro hc; (try simp only [zhcs, reduceCtorEq] at hc); (try (exfalso; first | (first | omega | exact absurd rfl hc) | contradiction | omega | exact absurd rfl hc | exact absurd (by decide) hc))))))
    all_goals ((with_reducible apply At.retB1 (B := [])); exact rfl; exact rfl; exact zml; exact zkp; exact ⟨by first | rfl | (refine congrArg Value.bool (decide_eq_true ?_); omega), rfl⟩)
end Qy

end Go.Proofs.YtkoijdmlehkhbaaGreatDoor

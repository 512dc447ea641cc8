/- Part 16 of what the law's proof needs: rules of the walk, contracts of functions, plain laws. No condition. -/
import Derived.Test.YtkoijdmlehkhbaaGreatDoorQmAWZ15
set_option linter.unusedSimpArgs false
set_option linter.unusedVariables false
set_option linter.unusedSectionVars false
set_option maxRecDepth 20000
set_option maxHeartbeats 4000000
namespace Go.Proofs.YtkoijdmlehkhbaaGreatDoor
open Go Go.J
attribute [local irreducible] At AtQ AtM AtM1 PR Ct Pu Rd Res.blk Res.own Res.ex RVs RV
namespace Qy
open Slot Ti Se St Win
open Fo hiding pt
theorem selI_take {α : Type} [Inhabited α] (Q : α → Bool) (L : List α) : ∀ n, n ≤ L.length → (selI (fun j => Q L[j]!) n).length = ((L.take n).filter Q).length
  | 0, _ => rfl
  | n + 1, h => by
    rw [selI_succ, filt_len Q (show n < L.length by omega), ← selI_take Q L n (by omega)]
    by_cases hq : Q L[n]! = true
    · rw [if_pos hq, if_pos hq, List.length_append]; rfl
    · rw [if_neg hq, if_neg hq, Nat.add_zero]
theorem wv_small {n : Nat} (h : n < 18446744073709551616) : Wide.wv n = .agg #[.int .u64 0, .int .u64 (n : Int)] := by
  show Value.agg #[.int .u64 ((n / 18446744073709551616 : Nat) : Int), .int .u64 ((n % 18446744073709551616 : Nat) : Int)] = _
  rw [Nat.div_eq_of_lt h, Nat.mod_eq_of_lt h]
  rfl
theorem ring_len {u : Sta} {t a b : Int} {f : Nat × Nat} (D : Nat → Rep × Int) (L : List Nat) (R : List (Nat × Nat)) (hR : R = (L.filter fun i => decide ((D i).1.e = 0)).map fun i => (D i).1.r) (Q : Nat → Bool)
    (hQ : ∀ i ∈ L, Q i = (decide ((D i).1.e = 0) && !Qu.lt (D i).1.r f)) : (L.filter Q).length = (R.filter fun y => !Qu.lt y f).length := by
  rw [hR, List.filter_map, List.length_map, List.filter_filter]
  congr 1
  refine List.filter_congr fun i hi => ?_
  rw [hQ i hi, Bool.and_comm]
  rfl
set_option maxRecDepth 100000 in
theorem aboveL {m : Mem} (hz : Ra.TZ m) (u : Sta) (f : Nat × Nat) (t a b : Int) (hf : Qu.In2 f) (hu : u.Lay m) :
    Ct Tryz.prog 5 #[u.v, Qu.fv f, .int .i64 t, .int .i64 a, .int .i64 b] m [] (fun v m' B => v = .bool true ∧ B = []) := by
  have hlv := fun (m' : Mem) (h : m.le m') => begins20 (m := m') (hz.mono h)
  have hsu := fun (m' : Mem) (h : m.le m') => small17 u (hu.mono h)
  unfold smU at hsu
  by_cases h0 : u.sm
  rotate_left
  · rw [if_neg h0] at hsu
    refine Ct.enterV (by rfl) Tryz.func5 rfl Tryz.ntmps5 rfl (fun w0 Rest => ?_)
    (repeat' (first | refine zss ?_ | refine zsM ?_ | ((with_reducible first | apply AtM1.cr | apply AtQ.cr | apply At.cr); exact rfl; exact rfl; exact fun _ hmm => hlv _ hmm; exact ztk; kernel_rfl) | ((with_reducible first | apply AtM1.cr | apply AtQ.cr | apply At.cr); exact rfl; exact rfl; exact fun _ hmm => hsu _ hmm; exact ztk; kernel_rfl) | ((with_reducible apply At.box (d := 5)); exact rfl; exact rfl; exact rfl; intro b5) | ((with_reducible apply At.box (d := 6)); exact rfl; exact rfl; exact rfl; intro b6) | ((with_reducible apply At.alloc (d := 25)); exact rfl; exact rfl; intro b25) | ((with_reducible apply At.alloc (d := 28)); exact rfl; exact rfl; intro b28) | ((with_reducible apply At.alloc (d := 30)); exact rfl; exact rfl; intro b30) | (refine zsp ?_ ?_ <;> (intro hc; (try simp only [zhcs, reduceCtorEq] at hc); (try (exfalso; first | (first | omega | exact absurd rfl hc | exact absurd hc (by decide)) | contradiction | omega | exact absurd rfl hc | exact absurd (by decide) hc))))))
    all_goals ((with_reducible apply At.retB1 (B := [])); exact rfl; exact rfl; exact zml; exact zkp; exact ⟨rfl, rfl⟩)
  rw [if_pos h0] at hsu
  have hs := hu.ok h0
  have hnp := h0.1
  have kc := fun (m' : Mem) (h : m.le m') => check u (hs.mono h)
  unfold St.chk at kc
  by_cases hok : okU u
  rotate_left
  · rw [if_neg hok] at kc
    refine Ct.enterV (by rfl) Tryz.func5 rfl Tryz.ntmps5 rfl (fun w0 Rest => ?_)
    (repeat' (first | refine zss ?_ | refine zsM ?_ | ((with_reducible first | apply AtM1.cr | apply AtQ.cr | apply At.cr); exact rfl; exact rfl; exact fun _ hmm => hlv _ hmm; exact ztk; kernel_rfl) | ((with_reducible first | apply AtM1.cr | apply AtQ.cr | apply At.cr); exact rfl; exact rfl; exact fun _ hmm => hsu _ hmm; exact ztk; kernel_rfl) | ((with_reducible first | apply AtM1.cr | apply AtQ.cr | apply At.cr); exact rfl; exact rfl; exact fun _ hmm => kc _ hmm; exact ztk; kernel_rfl) | ((with_reducible apply At.box (d := 5)); exact rfl; exact rfl; exact rfl; intro b5) | ((with_reducible apply At.box (d := 6)); exact rfl; exact rfl; exact rfl; intro b6) | ((with_reducible apply At.alloc (d := 25)); exact rfl; exact rfl; intro b25) | ((with_reducible apply At.alloc (d := 28)); exact rfl; exact rfl; intro b28) | ((with_reducible apply At.alloc (d := 30)); exact rfl; exact rfl; intro b30) | (refine zsp ?_ ?_ <;> (intro hc; (try simp only [zhcs, reduceCtorEq] at hc); (try (exfalso; first | (first | omega | exact absurd rfl hc | exact absurd hc (by decide)) | contradiction | omega | exact absurd rfl hc | exact absurd (by decide) hc))))))
    all_goals ((with_reducible apply At.retB1 (B := [])); exact rfl; exact rfl; exact zml; exact zkp; exact ⟨rfl, rfl⟩)
  rw [if_pos hok] at kc
  have kf := fun (m' : Mem) (h : m.le m') (p : Option Addr) (c : Nat) (sl0 : _) => Qu.check_ (m := m') (hz.mono h) p c [f] (by show 1 ≤ 1000000; decide) (fun x hx => by rw [List.mem_singleton.1 hx]; exact hf) sl0
  by_cases hf0 : Qu.chkL [f] = 0
  rotate_left
  · generalize Qu.chkL [f] = e at kf hf0
    clear hs hu hz
    refine Ct.enterV (by rfl) Tryz.func5 rfl Tryz.ntmps5 rfl (fun w0 Rest => ?_)
    (repeat' (first | refine zss ?_ | refine zsM ?_ | ((with_reducible first | apply AtM1.cr | apply AtQ.cr | apply At.cr); exact rfl; exact rfl; exact fun _ hmm => hlv _ zml; exact ztk; kernel_rfl) | ((with_reducible first | apply AtM1.cr | apply AtQ.cr | apply At.cr); exact rfl; exact rfl; exact fun _ hmm => hsu _ zml; exact ztk; kernel_rfl) | ((with_reducible first | apply AtM1.cr | apply AtQ.cr | apply At.cr); exact rfl; exact rfl; exact fun _ hmm => kc _ zml; exact ztk; kernel_rfl) | ((with_reducible apply At.litF Qu.fd [f]); exact inferInstance; (iterate 7 exact rfl); intro b' m' hm' sl9; (try replace sl0 := sl0.mono hm'); (try replace sl1 := sl1.mono hm'); (try replace sl2 := sl2.mono hm'); (try replace sl3 := sl3.mono hm'); (try replace sl6 := sl6.mono hm'); (try replace sl8 := sl8.mono hm'); (try replace sl10 := sl10.mono hm'); (try replace sl11 := sl11.mono hm')) | ((with_reducible first | apply AtM1.cr | apply AtQ.cr | apply At.cr); exact rfl; exact rfl; exact fun _ hmm => kf _ zml _ _ (sl9.mono hmm); exact ztk; kernel_rfl) | ((with_reducible apply At.box (d := 5)); exact rfl; exact rfl; exact rfl; intro b5) | ((with_reducible apply At.box (d := 6)); exact rfl; exact rfl; exact rfl; intro b6) | ((with_reducible apply At.alloc (d := 25)); exact rfl; exact rfl; intro b25) | ((with_reducible apply At.alloc (d := 28)); exact rfl; exact rfl; intro b28) | ((with_reducible apply At.alloc (d := 30)); exact rfl; exact rfl; intro b30) | (refine zsp ?_ ?_ <;> (intro hc; (try simp only [zhcs, reduceCtorEq] at hc); (try (exfalso; first | (first | omega | exact absurd rfl hc | exact absurd hc hf0) | contradiction | omega | exact absurd rfl hc | exact absurd (by decide) hc))))))
    all_goals ((with_reducible apply At.retB1 (B := [])); exact rfl; exact rfl; exact zml; exact zkp; exact ⟨rfl, rfl⟩)
  rw [hf0] at kf
  have hfs : Qu.Sm f := Qu.chkL_ok hf0 f (List.mem_singleton.2 rfl)
  have kp := fun (m' : Mem) (h : m.le m') => Parts_ (hz.mono h) u t a b (hs.mono h) hok
  have hrl := rep_len hs t a b
  have hin := repG_in hs t a b
  have hreq := fun h => rates_eq (t := t) (a := a) (b := b) hs h
  have hpd := fun h i => @par_do u t a b h i
  have hr1 := @repG1 u t a b
  generalize hE : parE u t a b = E at kp hpd hreq hr1
  generalize repG u t a b = A at kp hrl hin hreq hr1
  have kr := fun (m' : Mem) (h : m.le m') (p : Option Addr) (c : Nat) (sl0 : _) => rates_ (m := m') (hz.mono h) p c A hrl hin sl0
  have hRl := Nat.le_trans (ratL_len A) hrl
  by_cases h1 : E ≠ 0
  · obtain rfl := hr1 h1
    clear hpd hreq hin hs hu kr hz
    refine Ct.enterV (by rfl) Tryz.func5 rfl Tryz.ntmps5 rfl (fun w0 Rest => ?_)
    (repeat' (first | refine zss ?_ | refine zsM ?_ | ((with_reducible first | apply AtM1.cr | apply AtQ.cr | apply At.cr); exact rfl; exact rfl; exact fun _ hmm => hlv _ zml; exact ztk; kernel_rfl) | ((with_reducible first | apply AtM1.cr | apply AtQ.cr | apply At.cr); exact rfl; exact rfl; exact fun _ hmm => hsu _ zml; exact ztk; kernel_rfl) | ((with_reducible first | apply AtM1.cr | apply AtQ.cr | apply At.cr); exact rfl; exact rfl; exact fun _ hmm => kc _ zml; exact ztk; kernel_rfl) | ((with_reducible apply At.litF Qu.fd [f]); exact inferInstance; (iterate 7 exact rfl); intro b' m' hm' sl9; (try replace sl0 := sl0.mono hm'); (try replace sl1 := sl1.mono hm'); (try replace sl2 := sl2.mono hm'); (try replace sl3 := sl3.mono hm'); (try replace sl6 := sl6.mono hm'); (try replace sl8 := sl8.mono hm'); (try replace sl10 := sl10.mono hm'); (try replace sl11 := sl11.mono hm')) | ((with_reducible first | apply AtM1.cr | apply AtQ.cr | apply At.cr); exact rfl; exact rfl; exact fun _ hmm => kf _ zml _ _ (sl9.mono hmm); exact ztk; kernel_rfl) | ((with_reducible first | apply At.c1 | apply At.c0); exact rfl; exact rfl; exact kp _ zml; exact ztk; kernel_rfl; rintro v' m' B' hm' ⟨rfl, p1, c1, rfl, sl1⟩; (try replace sl0 := sl0.mono hm'); (try replace sl1 := sl1.mono hm'); (try replace sl2 := sl2.mono hm'); (try replace sl3 := sl3.mono hm'); (try replace sl6 := sl6.mono hm'); (try replace sl8 := sl8.mono hm'); (try replace sl9 := sl9.mono hm'); (try replace sl10 := sl10.mono hm'); (try replace sl11 := sl11.mono hm'); (try (have hq0 : hm' = Mem.le_refl _ := rfl; clear hq0 hm'))) | ((with_reducible apply At.box (d := 5)); exact rfl; exact rfl; exact rfl; intro b5) | ((with_reducible apply At.box (d := 6)); exact rfl; exact rfl; exact rfl; intro b6) | ((with_reducible apply At.alloc (d := 25)); exact rfl; exact rfl; intro b25) | ((with_reducible apply At.alloc (d := 28)); exact rfl; exact rfl; intro b28) | ((with_reducible apply At.alloc (d := 30)); exact rfl; exact rfl; intro b30) | (refine zsp ?_ ?_ <;> (intro hc; (try simp only [zhcs, reduceCtorEq] at hc); (try (exfalso; first | (first | omega | exact absurd rfl hc | exact absurd hc h1) | contradiction | omega | exact absurd rfl hc | exact absurd (by decide) hc))))))
    all_goals ((with_reducible apply At.retB1 (B := [])); exact rfl; exact rfl; exact zml; exact zkp; exact ⟨rfl, rfl⟩)
  obtain rfl : E = 0 := by omega
  have hreq := hreq rfl
  have hpd := fun i => @hpd rfl i
  have hRin : ∀ x ∈ ratL A, Qu.In2 x := fun x hx => by
    obtain ⟨r, hr, rfl⟩ := List.mem_map.1 hx
    exact hin r (List.mem_filter.1 hr).1
  generalize ratL A = R at kr hRl hreq hRin
  clear hr1 hin
  by_cases h2 : Qu.chkL R = 0
  rotate_left
  · rw [decide_eq_false h2] at kr
    clear hpd hreq hs hu h2 hRin hz
    refine Ct.enterV (by rfl) Tryz.func5 rfl Tryz.ntmps5 rfl (fun w0 Rest => ?_)
    (repeat' (first | refine zss ?_ | refine zsM ?_ | ((with_reducible first | apply AtM1.cr | apply AtQ.cr | apply At.cr); exact rfl; exact rfl; exact fun _ hmm => hlv _ zml; exact ztk; kernel_rfl) | ((with_reducible first | apply AtM1.cr | apply AtQ.cr | apply At.cr); exact rfl; exact rfl; exact fun _ hmm => hsu _ zml; exact ztk; kernel_rfl) | ((with_reducible first | apply AtM1.cr | apply AtQ.cr | apply At.cr); exact rfl; exact rfl; exact fun _ hmm => kc _ zml; exact ztk; kernel_rfl) | ((with_reducible apply At.litF Qu.fd [f]); exact inferInstance; (iterate 7 exact rfl); intro b' m' hm' sl9; (try replace sl0 := sl0.mono hm'); (try replace sl1 := sl1.mono hm'); (try replace sl2 := sl2.mono hm'); (try replace sl3 := sl3.mono hm'); (try replace sl6 := sl6.mono hm'); (try replace sl8 := sl8.mono hm'); (try replace sl10 := sl10.mono hm'); (try replace sl11 := sl11.mono hm')) | ((with_reducible first | apply AtM1.cr | apply AtQ.cr | apply At.cr); exact rfl; exact rfl; exact fun _ hmm => kf _ zml _ _ (sl9.mono hmm); exact ztk; kernel_rfl) | ((with_reducible first | apply At.c1 | apply At.c0); exact rfl; exact rfl; exact kp _ zml; exact ztk; kernel_rfl; rintro v' m' B' hm' ⟨rfl, p1, c1, rfl, sl1⟩; (try replace sl0 := sl0.mono hm'); (try replace sl1 := sl1.mono hm'); (try replace sl2 := sl2.mono hm'); (try replace sl3 := sl3.mono hm'); (try replace sl6 := sl6.mono hm'); (try replace sl8 := sl8.mono hm'); (try replace sl9 := sl9.mono hm'); (try replace sl10 := sl10.mono hm'); (try replace sl11 := sl11.mono hm'); (try (have hq0 : hm' = Mem.le_refl _ := rfl; clear hq0 hm'))) | ((with_reducible first | apply At.c1 | apply At.c0); exact rfl; exact rfl; exact kr _ zml _ _ sl1; exact ztk; kernel_rfl; rintro v' m' B' hm' ⟨rfl, p2, c2, rfl, sl2⟩; (try replace sl0 := sl0.mono hm'); (try replace sl1 := sl1.mono hm'); (try replace sl2 := sl2.mono hm'); (try replace sl3 := sl3.mono hm'); (try replace sl6 := sl6.mono hm'); (try replace sl8 := sl8.mono hm'); (try replace sl9 := sl9.mono hm'); (try replace sl10 := sl10.mono hm'); (try replace sl11 := sl11.mono hm'); (try (have hq0 : hm' = Mem.le_refl _ := rfl; clear hq0 hm'))) | ((with_reducible apply At.box (d := 5)); exact rfl; exact rfl; exact rfl; intro b5) | ((with_reducible apply At.box (d := 6)); exact rfl; exact rfl; exact rfl; intro b6) | ((with_reducible apply At.alloc (d := 25)); exact rfl; exact rfl; intro b25) | ((with_reducible apply At.alloc (d := 28)); exact rfl; exact rfl; intro b28) | ((with_reducible apply At.alloc (d := 30)); exact rfl; exact rfl; intro b30) | (refine zsp ?_ ?_ <;> (intro hc; (try simp only [zhcs, reduceCtorEq] at hc); (try (exfalso; first | (first | omega | exact absurd rfl hc) | contradiction | omega | exact absurd rfl hc | exact absurd (by decide) hc))))))
    all_goals ((with_reducible apply At.retB1 (B := [])); exact rfl; exact rfl; exact zml; exact zkp; exact ⟨rfl, rfl⟩)
  rw [decide_eq_true h2] at kr
  have hsl := Qu.chkL_ok h2
  have kl := fun (m' : Mem) (h : m.le m') => live_ u (hs.mono h) hok.1
  obtain ⟨L, hL⟩ : ∃ L, lv u = L := ⟨_, rfl⟩
  have hlt : ∀ i ∈ L, i < u.pl.l.length := fun i hi => (lv_lt (hL ▸ hi)).1
  have hLl : L.length ≤ 8 := hL ▸ Nat.le_trans (lv_len u) hnp
  rw [hL] at kl hpd hreq
  clear h0 hL
  -- how many ring
  obtain ⟨w, hw⟩ : ∃ w : Nat → Wat, w = fun i => ⟨⟨u.pl.l[i]!.lab, t, a, b⟩, f⟩ := ⟨_, rfl⟩
  have hQ : ∀ i ∈ L, (oneW u (w i).q (w i).f).1 = (decide ((dI u (tierG u t a b).1 a b i).1.e = 0) && !Qu.lt (dI u (tierG u t a b).1 a b i).1.r f) := fun i hi => by
    obtain ⟨e1, e2⟩ := hpd i hi
    have e3 : doG u (w i).q.lab.l (w i).q.t (w i).q.a (w i).q.b = ((dI u (tierG u t a b).1 a b i).1, 0) := by
      rw [hw]
      show doG u u.pl.l[i]!.lab.l t a b = _
      rw [e1]
      exact Prod.ext rfl e2
    by_cases he : (dI u (tierG u t a b).1 a b i).1.e = 0
    · have hm : (dI u (tierG u t a b).1 a b i).1.r ∈ R := by
        rw [hreq]
        exact List.mem_map.2 ⟨i, List.mem_filter.2 ⟨hi, decide_eq_true he⟩, rfl⟩
      rw [show (w i).f = f by rw [hw], oneW_yes hfs e3 he (hsl _ hm), decide_eq_true he, Bool.true_and]
    · rw [show (w i).f = f by rw [hw], oneW_no hfs e3 he, decide_eq_false he, Bool.false_and]
  have hrn := ring_len (u := u) (t := t) (a := a) (b := b) _ L R hreq (fun i => (oneW u (w i).q (w i).f).1) hQ
  have hsel : (selI (fun j => (oneW u (w L[j]!).q (w L[j]!).f).1) L.length).length = (R.filter fun y => !Qu.lt y f).length := by
    rw [← hrn, selI_take (fun i => (oneW u (w i).q (w i).f).1) L L.length (Nat.le_refl _), List.take_length]
  have hwg : ∀ j, j < L.length → (L.map w)[j]! = w L[j]! := fun j hj => by
    rw [getElem!_pos _ j (by rwa [List.length_map]), List.getElem_map, getElem!_pos L j hj]
  have kw := fun (m' : Mem) (h : m.le m') (p : Option Addr) (c : Nat) (sl0 : _) => rings_ (m := m') (hz.mono h) u p c (L.map w) (fun j => (oneW u (w L[j]!).q (w L[j]!).f).1) (by rw [List.length_map]; omega) (fun j hj => by
      rw [List.length_map] at hj
      rw [hwg j hj]) (hs.mono h) hok (fun x hx => by
      obtain ⟨i, hi, rfl⟩ := List.mem_map.1 hx
      have hx := (hs.mono h).at (hlt i hi)
      rw [hw]
      exact ⟨hx.ml, Nat.le_trans hx.nl (by decide), hf, hx.sl⟩) sl0
  rw [List.length_map, hsel] at kw
  have ks := fun (m' : Mem) (h : m.le m') (p : Option Addr) (c : Nat) (sl0 : _) => Qu.sortC (m := m') (hz.mono h) p c R.length R.length R (Qu.srt R) 0 rfl hRl hRin (by unfold Qu.outS; rw [if_pos h2]) h2 (Qu.srt_len R) sl0
  have kless := fun (m' : Mem) (h : m.le m') (x y : Nat × Nat) (hx : Qu.Sm x) (hy : Qu.Sm y) => Ra.lessT (m := m') (hz.mono h) x.1 x.2 y.1 y.2 (Qu.sm_in hx).1 (Qu.sm_in hx).2 (Qu.sm_in hy).1 (Qu.sm_in hy).2
  have ksh := fun (m' : Mem) (h : m.le m') (p : Option Addr) (c : Nat) (sl0 : _) => Qu.shareC (m := m') (hz.mono h) f hf p c R.length R rfl hRl hRin sl0
  have hcn := Qu.cnt_split hfs R hsl
  have hcl := Qu.cnt_le f R
  have hfs1 := Qu.filter_srt (fun y => !Qu.lt y f) R
  have hfs2 := Qu.filter_srt (fun y => decide (y = f)) R
  have kred := fun (m' : Mem) (h : m.le m') => Ra.reduce (m := m') (hz.mono h) (Qu.cnt f R) R.length (by omega) (by omega)
  rw [wv_small (show Qu.cnt f R < 18446744073709551616 by omega), wv_small (show R.length < 18446744073709551616 by omega)] at kred
  have hshV : Qu.shV f R = if R.length = 0 then ((0, 0), 3) else Ra.red (Qu.cnt f R) R.length := by
    unfold Qu.shV
    rw [hf0, h2, if_neg (fun e => e rfl), if_neg (fun e => e rfl)]
  rw [hshV] at ksh
  obtain ⟨S, hS⟩ : ∃ S, Qu.srt R = S := ⟨_, rfl⟩
  have hSl : S.length = R.length := hS ▸ Qu.srt_len R
  have hSs : ∀ x ∈ S, Qu.Sm x := fun x hx => hsl x (Qu.srt_mem.1 (hS ▸ hx))
  rw [hS] at ks hfs1 hfs2
  rw [← hfs1, ← hfs2] at hcn
  rw [← hfs1] at kw
  clear hshV hrn hsel hQ hfs1 hfs2 hS hreq hpd hwg h2 hf0 hu hRin hsl
  obtain ⟨lo, hlo⟩ : ∃ lo, lo = fun k => ((S.take k).filter fun y => !Qu.lt y f).length := ⟨_, rfl⟩
  obtain ⟨hi, hhi⟩ : ∃ hi, hi = fun k => ((S.take k).filter fun y => decide (y = f)).length := ⟨_, rfl⟩
  have lo0 : lo 0 = 0 := by rw [hlo]; rfl
  have hi0 : hi 0 = 0 := by rw [hhi]; rfl
  have loN : (S.filter fun y => !Qu.lt y f).length = lo S.length := by rw [hlo]; show _ = ((S.take S.length).filter _).length; rw [List.take_length]
  have hiN : (S.filter fun y => decide (y = f)).length = hi S.length := by rw [hhi]; show _ = ((S.take S.length).filter _).length; rw [List.take_length]
  have lob : ∀ k, lo k ≤ 1000000 := fun k => by rw [hlo]; exact Nat.le_trans (List.length_filter_le _ _) (by rw [List.length_take]; omega)
  have hib : ∀ k, hi k ≤ 1000000 := fun k => by rw [hhi]; exact Nat.le_trans (List.length_filter_le _ _) (by rw [List.length_take]; omega)
  have lon : ∀ k, k < S.length → lo (k + 1) = lo k + if (!Qu.lt S[k]! f) = true then 1 else 0 := fun k hk => by rw [hlo]; exact filt_len _ hk
  have hin : ∀ k, k < S.length → hi (k + 1) = hi k + if decide (S[k]! = f) = true then 1 else 0 := fun k hk => by rw [hhi]; exact filt_len _ hk
  rw [loN] at kw hcn
  rw [hiN] at hcn
  clear hlo hhi loN hiN
  refine Ct.enterV (by rfl) Tryz.func5 rfl Tryz.ntmps5 rfl (fun w0 Rest => ?_)
  (repeat' (first | refine zss ?_ | refine zsM ?_ | ((with_reducible first | apply AtM1.cr | apply AtQ.cr | apply At.cr); exact rfl; exact rfl; exact fun _ hmm => hlv _ zml; exact ztk; kernel_rfl) | ((with_reducible first | apply AtM1.cr | apply AtQ.cr | apply At.cr); exact rfl; exact rfl; exact fun _ hmm => hsu _ zml; exact ztk; kernel_rfl) | ((with_reducible first | apply AtM1.cr | apply AtQ.cr | apply At.cr); exact rfl; exact rfl; exact fun _ hmm => kc _ zml; exact ztk; kernel_rfl) | ((with_reducible apply At.litF Qu.fd [f]); exact inferInstance; (iterate 7 exact rfl); intro b' m' hm' sl9; (try replace sl0 := sl0.mono hm'); (try replace sl1 := sl1.mono hm'); (try replace sl2 := sl2.mono hm'); (try replace sl3 := sl3.mono hm'); (try replace sl6 := sl6.mono hm'); (try replace sl8 := sl8.mono hm'); (try replace sl10 := sl10.mono hm'); (try replace sl11 := sl11.mono hm')) | ((with_reducible first | apply AtM1.cr | apply AtQ.cr | apply At.cr); exact rfl; exact rfl; exact fun _ hmm => kf _ zml _ _ (sl9.mono hmm); exact ztk; kernel_rfl) | ((with_reducible first | apply At.c1 | apply At.c0); exact rfl; exact rfl; exact kp _ zml; exact ztk; kernel_rfl; rintro v' m' B' hm' ⟨rfl, p1, c1, rfl, sl1⟩; (try replace sl0 := sl0.mono hm'); (try replace sl1 := sl1.mono hm'); (try replace sl2 := sl2.mono hm'); (try replace sl3 := sl3.mono hm'); (try replace sl6 := sl6.mono hm'); (try replace sl8 := sl8.mono hm'); (try replace sl9 := sl9.mono hm'); (try replace sl10 := sl10.mono hm'); (try replace sl11 := sl11.mono hm'); (try (have hq0 : hm' = Mem.le_refl _ := rfl; clear hq0 hm'))) | ((with_reducible first | apply At.c1 | apply At.c0); exact rfl; exact rfl; exact kr _ zml _ _ sl1; exact ztk; kernel_rfl; rintro v' m' B' hm' ⟨rfl, p2, c2, rfl, sl2⟩; (try replace sl0 := sl0.mono hm'); (try replace sl1 := sl1.mono hm'); (try replace sl2 := sl2.mono hm'); (try replace sl3 := sl3.mono hm'); (try replace sl6 := sl6.mono hm'); (try replace sl8 := sl8.mono hm'); (try replace sl9 := sl9.mono hm'); (try replace sl10 := sl10.mono hm'); (try replace sl11 := sl11.mono hm'); (try (have hq0 : hm' = Mem.le_refl _ := rfl; clear hq0 hm'))) | ((with_reducible first | apply At.c1 | apply At.c0); exact rfl; exact rfl; exact kl _ zml; exact ztk; kernel_rfl; rintro v' m' B' hm' ⟨rfl, p3, c3, rfl, sl3⟩; (try replace sl0 := sl0.mono hm'); (try replace sl1 := sl1.mono hm'); (try replace sl2 := sl2.mono hm'); (try replace sl3 := sl3.mono hm'); (try replace sl6 := sl6.mono hm'); (try replace sl8 := sl8.mono hm'); (try replace sl9 := sl9.mono hm'); (try replace sl10 := sl10.mono hm'); (try replace sl11 := sl11.mono hm'); (try (have hq0 : hm' = Mem.le_refl _ := rfl; clear hq0 hm'))) | ((with_reducible apply At.box (d := 5)); exact rfl; exact rfl; exact rfl; intro b5) | ((with_reducible apply At.box (d := 6)); exact rfl; exact rfl; exact rfl; intro b6) | ((with_reducible apply At.alloc (d := 25)); exact rfl; exact rfl; intro b25) | ((with_reducible apply At.alloc (d := 28)); exact rfl; exact rfl; intro b28) | ((with_reducible apply At.alloc (d := 30)); exact rfl; exact rfl; intro b30) | (refine zsp ?_ ?_ <;> (intro hc; (try simp only [zhcs, reduceCtorEq] at hc); (try (exfalso; first | (first | omega | exact absurd rfl hc) | contradiction | omega | exact absurd rfl hc | exact absurd (by decide) hc))))))
  have hmm2 : m.le m' := zml
  replace hs := hs.mono hmm2
  replace kw := fun (m2 : Mem) (h : m'.le m2) => kw m2 (Mem.le_trans hmm2 h)
  replace ks := fun (m2 : Mem) (h : m'.le m2) => ks m2 (Mem.le_trans hmm2 h)
  replace kless := fun (m2 : Mem) (h : m'.le m2) => kless m2 (Mem.le_trans hmm2 h)
  replace ksh := fun (m2 : Mem) (h : m'.le m2) => ksh m2 (Mem.le_trans hmm2 h)
  replace kred := fun (m2 : Mem) (h : m'.le m2) => kred m2 (Mem.le_trans hmm2 h)
  clear hlv hsu kc kf kp kr kl hz hok
  refine At.own_nil Wat.cells 8 72 ?_
  (refine At.loopk (σ := PS) [2, 3, 4, 5, 6, 13, 69, 70] (fun s F0 => (71, .int .i64 (s.j : Int)) :: (15, .slice s.p ((L.take s.j).map w).length s.c) :: F0) (fun s => m') (fun s => .own Wat.cells 8 72 s.p s.c ((L.take s.j).map w) :: .blk b6 43 (Qu.fd f) :: .blk b5 28 u.cells :: Rest) (fun s => s.j ≤ L.length) (fun s => L.length - s.j) ⟨0, none, 0⟩ (by rfl) ?_ zsubs zml zente ?_)
  · exact Nat.zero_le _
  rintro ⟨j, p, c⟩ hj
  dsimp only at hj ⊢
  by_cases h : j < L.length
  · have hi' := hlt _ (Ls.mem! h)
    have sl8 := hs.sl
    have hsn := map_snoc w h
    have hle : ((L.take j).map w).length ≤ 8 := by rw [List.length_map, List.length_take]; omega
    rw [show w L[j]! = ⟨⟨u.pl.l[L[j]!]!.lab, t, a, b⟩, f⟩ by rw [hw]] at hsn
    generalize (L.take j).map w = O at hsn hle ⊢
    clear kw ks kless ksh kred hw hs lon hin lob hib lo0 hi0
    (repeat' (first | ((with_reducible apply At.mixedX (id := 17) [.own Wat.cells 8 72 p c O] 16 (.q 0 (.q 1 (.q 2 (.q 3 (.q 4 (.q 5 (.q 6 (.q 7 (.q 8 (.q 9 (.q 10 (.q 11 (.q 12 (.x 13 (.x 14 (.q 15 .done))))))))))))))))); (repeat' (first | exact Take.nil | ((with_reducible apply Take.cons); (focus ((repeat constructor); done))))); exact rfl; kernel_rfl; kernel_rfl; kernel_rfl) | refine zsx ?_ | refine zss ?_ | ((with_reducible apply AtM.bo); exact rfl; exact rfl; exact rfl) | ((first | (with_reducible first | apply At.val | apply AtQ.val) | ((with_reducible first | apply AtM1.valz | apply AtM1.val); exact rfl) | ((with_reducible apply AtM1.val); exact rfl)); (exact pr_index_memi (by rfl) (by rfl) sl8 (by rfl) (by rfl) (by rfl) (by omega) (by omega)); exact rfl) | refine zsM ?_ | refine zxM ?_ | ((with_reducible apply At.litF Wat.cells [(⟨⟨u.pl.l[L[j]!]!.lab, t, a, b⟩, f⟩ : Wat)]); exact inferInstance; (iterate 7 exact rfl); intro b' m' hm' sl10; (try replace sl0 := sl0.mono hm'); (try replace sl1 := sl1.mono hm'); (try replace sl2 := sl2.mono hm'); (try replace sl3 := sl3.mono hm'); (try replace sl6 := sl6.mono hm'); (try replace sl8 := sl8.mono hm'); (try replace sl9 := sl9.mono hm'); (try replace sl11 := sl11.mono hm')) | ((with_reducible apply At.apW (f := Wat.cells) (l := O)); exact rfl; exact rfl; exact (by repeat constructor); exact inferInstance; exact zrdl; (iterate 4 exact rfl); exact zom; exact rfl; intro p4 c4) | ((with_reducible apply At.box (d := 5)); exact rfl; exact rfl; exact rfl; intro b5) | ((with_reducible apply At.box (d := 6)); exact rfl; exact rfl; exact rfl; intro b6) | ((with_reducible apply At.alloc (d := 25)); exact rfl; exact rfl; intro b25) | ((with_reducible apply At.alloc (d := 28)); exact rfl; exact rfl; intro b28) | ((with_reducible apply At.alloc (d := 30)); exact rfl; exact rfl; intro b30) | (refine zsp ?_ ?_ <;> (intro hc; (try simp only [zhcs, reduceCtorEq] at hc); (try (exfalso; first | (first | omega | exact absurd rfl hc) | contradiction | omega | exact absurd rfl hc | exact absurd (by decide) hc))))))
    all_goals rw [← hsn]
    all_goals ((with_reducible refine At.reachk ((⟨j + 1, p4, c4⟩ : PS)) ?_ ?_ ?_ ?_); exact zsubs; exact zml; exact zente; exact ⟨h, by dsimp only; omega⟩)
  obtain rfl : j = L.length := by omega
  rw [List.take_length]
  have hwl : (L.map w).length = L.length := List.length_map ..
  rw [hwl]
  clear hlt hs hw
  (refine At.own_freeze inferInstance (by repeat constructor) fun m' hm' sl11 => ?_; (try replace sl0 := sl0.mono hm'); (try replace sl1 := sl1.mono hm'); (try replace sl2 := sl2.mono hm'); (try replace sl3 := sl3.mono hm'); (try replace sl6 := sl6.mono hm'); (try replace sl8 := sl8.mono hm'); (try replace sl9 := sl9.mono hm'); (try replace sl10 := sl10.mono hm'))
  (repeat' (first | refine zss ?_ | refine zsM ?_ | ((with_reducible first | apply At.c1 | apply At.c0); exact rfl; exact rfl; exact kw _ zml _ _ sl11; exact ztk; kernel_rfl; rintro v' m' B' hm' ⟨rfl, p5, c5, rfl⟩; (try replace sl0 := sl0.mono hm'); (try replace sl1 := sl1.mono hm'); (try replace sl2 := sl2.mono hm'); (try replace sl3 := sl3.mono hm'); (try replace sl6 := sl6.mono hm'); (try replace sl8 := sl8.mono hm'); (try replace sl9 := sl9.mono hm'); (try replace sl10 := sl10.mono hm'); (try replace sl11 := sl11.mono hm'); (try (have hq0 : hm' = Mem.le_refl _ := rfl; clear hq0 hm'))) | ((with_reducible first | apply At.c1 | apply At.c0); exact rfl; exact rfl; exact ks _ zml _ _ sl2; exact ztk; kernel_rfl; rintro v' m' B' hm' ⟨rfl, p6, c6, rfl, sl6⟩; (try replace sl0 := sl0.mono hm'); (try replace sl1 := sl1.mono hm'); (try replace sl2 := sl2.mono hm'); (try replace sl3 := sl3.mono hm'); (try replace sl6 := sl6.mono hm'); (try replace sl8 := sl8.mono hm'); (try replace sl9 := sl9.mono hm'); (try replace sl10 := sl10.mono hm'); (try replace sl11 := sl11.mono hm'); (try (have hq0 : hm' = Mem.le_refl _ := rfl; clear hq0 hm'))) | ((with_reducible apply At.box (d := 5)); exact rfl; exact rfl; exact rfl; intro b5) | ((with_reducible apply At.box (d := 6)); exact rfl; exact rfl; exact rfl; intro b6) | ((with_reducible apply At.alloc (d := 25)); exact rfl; exact rfl; intro b25) | ((with_reducible apply At.alloc (d := 28)); exact rfl; exact rfl; intro b28) | ((with_reducible apply At.alloc (d := 30)); exact rfl; exact rfl; intro b30) | (refine zsp ?_ ?_ <;> (intro hc; (try simp only [zhcs, reduceCtorEq] at hc); (try (exfalso; first | (first | omega | exact absurd rfl hc) | contradiction | omega | exact absurd rfl hc | exact absurd (by decide) hc))))))
  rw [← hSl]
  (refine At.loopk (σ := Nat) [6, 13, 18, 124, 125] (fun s F0 => (126, .int .i64 (s : Int)) :: (22, .int .i64 (lo s : Int)) :: (23, .int .i64 (hi s : Int)) :: F0) (fun s => m') (fun s => .blk b6 43 (Qu.fd f) :: .blk b5 28 u.cells :: Rest) (fun s => s ≤ S.length) (fun s => S.length - s) 0 (by rfl) ?_ zsubs zml zente ?_)
  · exact Nat.zero_le _
  intro j hj
  by_cases h : j < S.length
  · have hx := hSs _ (Ls.mem! h)
    have k1 := fun (m2 : Mem) (h : Mem.le _ m2) => kless m2 h S[j]! f hx hfs
    rw [Qu.les_lt hx hfs] at k1
    have l1 := lon j h
    have l2 := hin j h
    have l3 := lob j
    have l4 := hib j
    have l5 : S[j]! = f → Qu.lt S[j]! f = false := fun e => by rw [e]; exact lt_self f
    generalize Qu.lt S[j]! f = g1 at k1 l1 l5
    generalize lo j = x1 at *
    generalize hi j = x2 at *
    clear kless kw ks ksh kred lon hin lob hib lo0 hi0
    by_cases e : S[j]! = f
    · rw [l5 e] at k1 l1
      rw [decide_eq_true e] at l2
      simp only [Bool.not_false, if_true] at l1 l2
      (repeat' (first | refine zss ?_ | ((first | (with_reducible first | apply At.val | apply AtQ.val)); (exact Qu.pr_feq (a := S[j]!) (b := f) (by rfl) (by rfl)); exact rfl) | refine zsM ?_ | ((with_reducible first | apply AtM1.cr | apply AtQ.cr | apply At.cr); exact rfl; exact rfl; exact fun _ hmm => k1 _ zml; exact ztk; kernel_rfl) | ((with_reducible apply At.box (d := 5)); exact rfl; exact rfl; exact rfl; intro b5) | ((with_reducible apply At.box (d := 6)); exact rfl; exact rfl; exact rfl; intro b6) | ((with_reducible apply At.alloc (d := 25)); exact rfl; exact rfl; intro b25) | ((with_reducible apply At.alloc (d := 28)); exact rfl; exact rfl; intro b28) | ((with_reducible apply At.alloc (d := 30)); exact rfl; exact rfl; intro b30) | (refine zsp ?_ ?_ <;> (intro hc; (try simp only [zhcs, reduceCtorEq] at hc); (try (exfalso; first | (first | omega | exact absurd rfl hc | exact absurd e hc) | contradiction | omega | exact absurd rfl hc | exact absurd (by decide) hc))))))
      all_goals ((with_reducible refine At.reachk ((j + 1)) ?_ ?_ ?_ ?_); exact zsubs; exact zml; exact zente; exact ⟨h, by omega⟩)
    · rw [decide_eq_false e] at l2
      cases g1
      all_goals
        simp only [Bool.not_false, Bool.not_true, if_true, if_false, Bool.false_eq_true, Nat.add_zero] at l1 l2
        (repeat' (first | refine zss ?_ | ((first | (with_reducible first | apply At.val | apply AtQ.val)); (exact Qu.pr_feq (a := S[j]!) (b := f) (by rfl) (by rfl)); exact rfl) | refine zsM ?_ | ((with_reducible first | apply AtM1.cr | apply AtQ.cr | apply At.cr); exact rfl; exact rfl; exact fun _ hmm => k1 _ zml; exact ztk; kernel_rfl) | ((with_reducible apply At.box (d := 5)); exact rfl; exact rfl; exact rfl; intro b5) | ((with_reducible apply At.box (d := 6)); exact rfl; exact rfl; exact rfl; intro b6) | ((with_reducible apply At.alloc (d := 25)); exact rfl; exact rfl; intro b25) | ((with_reducible apply At.alloc (d := 28)); exact rfl; exact rfl; intro b28) | ((with_reducible apply At.alloc (d := 30)); exact rfl; exact rfl; intro b30) | (refine zsp ?_ ?_ <;> (intro hc; (try simp only [zhcs, reduceCtorEq] at hc); (try (exfalso; first | (first | omega | exact absurd rfl hc | exact absurd hc e) | contradiction | omega | exact absurd rfl hc | exact absurd (by decide) hc))))))
        all_goals ((with_reducible refine At.reachk ((j + 1)) ?_ ?_ ?_ ?_); exact zsubs; exact zml; exact zente; exact ⟨h, by omega⟩)
  obtain rfl : j = S.length := by omega
  clear kless kw ks lon hin lo0 hi0 hSs
  have l3 := lob S.length
  have l4 := hib S.length
  clear lob hib
  generalize lo S.length = x1 at *
  generalize hi S.length = x2 at *
  rw [hSl]
  by_cases h0 : R.length = 0
  · rw [if_pos h0] at ksh
    clear kred
    (repeat' (first | refine zss ?_ | refine zsM ?_ | ((with_reducible first | apply AtM1.cr | apply AtQ.cr | apply At.cr); exact rfl; exact rfl; exact fun _ hmm => ksh _ zml _ _ (sl2.mono hmm); exact ztk; kernel_rfl) | ((with_reducible apply At.box (d := 5)); exact rfl; exact rfl; exact rfl; intro b5) | ((with_reducible apply At.box (d := 6)); exact rfl; exact rfl; exact rfl; intro b6) | ((with_reducible apply At.alloc (d := 25)); exact rfl; exact rfl; intro b25) | ((with_reducible apply At.alloc (d := 28)); exact rfl; exact rfl; intro b28) | ((with_reducible apply At.alloc (d := 30)); exact rfl; exact rfl; intro b30) | (refine zsp ?_ ?_ <;> (intro hc; (try simp only [zhcs, reduceCtorEq] at hc); (try (exfalso; first | (first | omega | exact absurd rfl hc) | contradiction | omega | exact absurd rfl hc | exact absurd (by decide) hc))))))
    all_goals ((with_reducible apply At.retB1 (B := [])); exact rfl; exact rfl; exact zml; exact zkp; exact ⟨rfl, rfl⟩)
  · rw [if_neg h0] at ksh
    have hred : ∃ p, Ra.red (Qu.cnt f R) R.length = (p, 0) := ⟨_, by unfold Ra.red; rw [if_neg h0]⟩
    obtain ⟨r, hred⟩ := hred
    rw [hred] at ksh kred
    clear hred
    have hcv : IntKind.wrap .u64 ((R.length : Int) - (x1 : Int) + (x2 : Int)) = ((Qu.cnt f R : Nat) : Int) := by rw [IntWalk.u64_in _ (by omega)]; omega
    generalize Qu.cnt f R = n at *
    (repeat' (first | refine zss ?_ | ((first | (with_reducible first | apply At.val | apply AtQ.val)); (first | exact pr_conv ⟨_, by rfl⟩ (by rfl) (by rfl) hcv | exact Qu.pr_feq (a := r) (b := r) (by rfl) (by rfl)); exact rfl) | refine zsM ?_ | ((with_reducible first | apply AtM1.cr | apply AtQ.cr | apply At.cr); exact rfl; exact rfl; exact fun _ hmm => ksh _ zml _ _ (sl2.mono hmm); exact ztk; kernel_rfl) | ((with_reducible first | apply AtM1.cr | apply AtQ.cr | apply At.cr); exact rfl; exact rfl; exact fun _ hmm => kred _ zml; exact ztk; kernel_rfl) | ((with_reducible apply At.box (d := 5)); exact rfl; exact rfl; exact rfl; intro b5) | ((with_reducible apply At.box (d := 6)); exact rfl; exact rfl; exact rfl; intro b6) | ((with_reducible apply At.alloc (d := 25)); exact rfl; exact rfl; intro b25) | ((with_reducible apply At.alloc (d := 28)); exact rfl; exact rfl; intro b28) | ((with_reducible apply At.alloc (d := 30)); exact rfl; exact rfl; intro b30) | (refine zsp ?_ ?_ <;> (intro hc; (try simp only [zhcs, reduceCtorEq] at hc); (try (exfalso; first | (first | omega | exact absurd rfl hc) | contradiction | omega | exact absurd rfl hc | exact absurd (by decide) hc))))))
    all_goals ((with_reducible apply At.retB1 (B := [])); exact rfl; exact rfl; exact zml; exact zkp; exact ⟨by first | rfl | (simp; done), rfl⟩)
end Qy
end Go.Proofs.YtkoijdmlehkhbaaGreatDoor

/- QuantFirst: what is at a part of rates is one of them, its share of them is not below that part, and each one that is less has a share below it. Conditions: the library's table reads as the row's cells say (the card ties it to the program's text). -/
import Derived.Test.YtmnlmmbfjfgfeaaDoorQu4Z10
/- QuantFirst: what is at a part of rates is one of them, its share of them is not below that part, and each one that is less has a share below it. Conditions: the library's table reads as the row's cells say (the card ties it to the program's text). -/
set_option linter.unusedSimpArgs false
set_option linter.unusedVariables false
set_option linter.unusedSectionVars false
set_option maxRecDepth 20000
set_option maxHeartbeats 4000000
namespace Go.Proofs.YtmnlmmbfjfgfeaaDoor
open Go Go.J
attribute [local irreducible] At AtQ AtM AtM1 PR Ct Pu Rd Res.blk Res.own Res.ex RVs RV
namespace Qu
open Wide
theorem shV_ok {f : Nat × Nat} {l : List (Nat × Nat)} (hf : Sm f) (hk : chkL l = 0) (h0 : 0 < l.length) : shV f l = Ra.red (cnt f l) l.length := by
  have h1 : chkL [f] = 0 := ok_chkL fun p hp => by rw [List.mem_singleton.1 hp]; exact hf
  unfold shV
  rw [h1, hk, if_neg (fun e => e rfl), if_neg (fun e => e rfl), if_neg (by omega)]
theorem red_sm {n d : Nat} (hn : n < 18446744073709551616) (hd : 0 < d) (hd2 : d < 18446744073709551616) : ∃ p : Nat × Nat, Ra.red n d = (p, 0) ∧ Sm p ∧ n = p.1 * Nat.gcd n d ∧ d = p.2 * Nat.gcd n d ∧ 0 < Nat.gcd n d := by
  have hg : 0 < Nat.gcd n d := Nat.gcd_pos_of_pos_right n hd
  have e1 := Nat.div_mul_cancel (Nat.gcd_dvd_left n d)
  have e2 := Nat.div_mul_cancel (Nat.gcd_dvd_right n d)
  have e3 : 0 < d / Nat.gcd n d := Nat.div_pos (Nat.gcd_le_right n hd) hg
  refine ⟨(n / Nat.gcd n d, d / Nat.gcd n d), if_neg (by omega), ⟨Nat.lt_of_le_of_lt (Nat.div_le_self _ _) hn, Nat.lt_of_le_of_lt (Nat.div_le_self _ _) hd2, e3, ?_⟩, e1.symm, e2.symm, hg⟩
  exact Nat.gcd_div_gcd_div_gcd_of_pos_right hd
theorem red_lt {a b c d g h : Nat} {p q : Nat × Nat} (e1 : a = p.1 * g) (e2 : b = p.2 * g) (hg : 0 < g) (e3 : c = q.1 * h) (e4 : d = q.2 * h) (hh : 0 < h) : p.1 * q.2 < q.1 * p.2 ↔ a * d < c * b := by
  subst e1 e2 e3 e4
  rw [Nat.mul_mul_mul_comm p.1 g, Nat.mul_mul_mul_comm q.1 h, Nat.mul_comm h g]
  exact (Nat.mul_lt_mul_right (Nat.mul_pos hg hh)).symm
theorem lq_refl (x : Nat × Nat) : lq x x = true := decide_eq_true (Nat.le_refl _)
theorem cnt_ge {o : List (Nat × Nat)} (h : o.Pairwise fun x y => lq x y = true) {K : Nat} (hK : K < o.length) : K + 1 ≤ cnt o[K]! o := by
  have e : (o.take (K + 1)).filter (fun y => lq y o[K]!) = o.take (K + 1) := by
    rw [List.filter_eq_self]
    intro y hy
    obtain ⟨j, hj, rfl⟩ := List.mem_iff_getElem.1 hy
    rw [List.length_take] at hj
    rw [List.getElem_take, getElem!_pos o K hK]
    rcases Nat.lt_or_ge j K with h1 | h1
    · exact List.pairwise_iff_getElem.1 h j K (by omega) hK h1
    · have : j = K := by omega
      subst this
      exact lq_refl _
  unfold cnt
  have h2 : ((o.take (K + 1)).filter (fun y => lq y o[K]!)).length ≤ (o.filter (fun y => lq y o[K]!)).length := ((List.take_sublist _ _).filter _).length_le
  rw [e, List.length_take] at h2
  omega
theorem cnt_lt {o : List (Nat × Nat)} (h : o.Pairwise fun x y => lq x y = true) (hs : ∀ x ∈ o, Sm x) {K : Nat} (hK : K < o.length) {f : Nat × Nat} (hf : lq o[K]! f = false) : cnt f o ≤ K := by
  have e : (o.drop K).filter (fun y => lq y f) = [] := by
    rw [List.filter_eq_nil_iff]
    intro y hy hyf
    obtain ⟨j, hj, rfl⟩ := List.mem_iff_getElem.1 hy
    rw [List.length_drop] at hj
    rw [List.getElem_drop] at hyf
    have hle : lq o[K]! o[K + j] = true := by
      rw [getElem!_pos o K hK]
      rcases Nat.eq_zero_or_pos j with h1 | h1
      · subst h1; exact lq_refl _
      · exact List.pairwise_iff_getElem.1 h K (K + j) hK (by omega) (by omega)
    rw [lq_trans (hs _ (List.getElem_mem _)) hle hyf] at hf
    cases hf
  unfold cnt
  rw [← List.take_append_drop K o, List.filter_append, e, List.append_nil]
  refine Nat.le_trans (List.length_filter_le _ _) ?_
  rw [List.length_take]
  exact Nat.min_le_left _ _
theorem cnt_pos {l : List (Nat × Nat)} {f : Nat × Nat} (h : f ∈ l) : 1 ≤ cnt f l :=
  List.length_pos_of_mem (List.mem_filter.2 ⟨h, lq_refl f⟩)
theorem eq_snoc {l : List (Nat × Nat)} {x : Nat × Nat} {i : Nat} (h : i < l.length) : (l.take (i + 1)).any (fun y => decide (y = x)) = ((l.take i).any (fun y => decide (y = x)) || decide (l[i]! = x)) := by
  rw [Ls.take_snoc h, List.any_append, List.any_cons, List.any_nil, Bool.or_false]
theorem firstL {m : Mem} (hz : Ra.TZ m) (p : Option Addr) (c : Nat) (l : List (Nat × Nat)) (num den : Int) (hb : ∀ x ∈ l, In2 x) (h1 : 0 ≤ num ∧ num ≤ 4294967295) (h2 : 0 ≤ den ∧ den ≤ 4294967295) (sl0 : Sl m fd 4 p c l) :
    Ct Tryd.prog 6 #[.slice p l.length c, .int .u32 num, .int .u32 den] m [] (fun v m' B => v = .bool true ∧ B = []) := by
  obtain ⟨nu, rfl⟩ : ∃ k : Nat, num = (k : Int) := ⟨num.toNat, by omega⟩
  obtain ⟨de, rfl⟩ : ∃ k : Nat, den = (k : Int) := ⟨den.toNat, by omega⟩
  have hl := fun (m' : Mem) (h : m.le m') => lives (m := m') (hz.mono h)
  by_cases h60 : l.length > 60 ∨ l.length = 0 ∨ de = 0 ∨ nu > de
  · by_cases h61 : l.length ≤ 1000000
    · have a4 := fun (m' : Mem) (h : m.le m') => checkQ (m := m') (hz.mono h) p c l.length l _ rfl h61 hb rfl (sl0.mono h)
      refine Ct.enterV (by rfl) Tryd.func6 rfl Tryd.ntmps6 rfl (fun w0 Rest => ?_)
      (repeat' (first | refine zss ?_ | refine zsM ?_ | ((with_reducible first | apply AtM1.cr | apply AtQ.cr | apply At.cr); exact rfl; exact rfl; exact fun _ hmm => hl _ hmm; exact ztk; kernel_rfl) | ((with_reducible first | apply AtM1.cr | apply AtQ.cr | apply At.cr); exact rfl; exact rfl; exact fun _ hmm => a4 _ hmm; exact ztk; kernel_rfl) | ((with_reducible apply At.alloc (d := 7)); exact rfl; exact rfl; intro b7) | ((with_reducible apply At.alloc (d := 9)); exact rfl; exact rfl; intro b9) | ((with_reducible apply At.alloc (d := 11)); exact rfl; exact rfl; intro b11) | ((with_reducible apply At.alloc (d := 17)); exact rfl; exact rfl; intro b17) | ((with_reducible apply At.alloc (d := 20)); exact rfl; exact rfl; intro b20) | (refine zsp ?_ ?_ <;> (intro hc; (try simp only [zhcs, reduceCtorEq] at hc); (try (exfalso; first | omega | contradiction | omega | exact absurd rfl hc | exact absurd (by decide) hc))))))
      all_goals ((with_reducible apply At.retB1 (B := [])); exact rfl; exact rfl; exact zml; exact zkp; exact ⟨rfl, rfl⟩)
    · refine Ct.enterV (by rfl) Tryd.func6 rfl Tryd.ntmps6 rfl (fun w0 Rest => ?_)
      (repeat' (first | refine zss ?_ | refine zsM ?_ | ((with_reducible first | apply AtM1.cr | apply AtQ.cr | apply At.cr); exact rfl; exact rfl; exact fun _ hmm => hl _ hmm; exact ztk; kernel_rfl) | ((with_reducible apply At.alloc (d := 7)); exact rfl; exact rfl; intro b7) | ((with_reducible apply At.alloc (d := 9)); exact rfl; exact rfl; intro b9) | ((with_reducible apply At.alloc (d := 11)); exact rfl; exact rfl; intro b11) | ((with_reducible apply At.alloc (d := 17)); exact rfl; exact rfl; intro b17) | ((with_reducible apply At.alloc (d := 20)); exact rfl; exact rfl; intro b20) | (refine zsp ?_ ?_ <;> (intro hc; (try simp only [zhcs, reduceCtorEq] at hc); (try (exfalso; first | omega | contradiction | omega | exact absurd rfl hc | exact absurd (by decide) hc))))))
      all_goals ((with_reducible apply At.retB1 (B := [])); exact rfl; exact rfl; exact zml; exact zkp; exact ⟨rfl, rfl⟩)
  have hm : l.length ≤ 60 := by omega
  have h0 : 0 < l.length := by omega
  have a4 := fun (m' : Mem) (h : m.le m') => checkQ (m := m') (hz.mono h) p c l.length l _ rfl (by omega) hb rfl (sl0.mono h)
  by_cases hk : chkL l = 0
  rotate_left
  · generalize chkL l = w at *
    refine Ct.enterV (by rfl) Tryd.func6 rfl Tryd.ntmps6 rfl (fun w0 Rest => ?_)
    (repeat' (first | refine zss ?_ | refine zsM ?_ | ((with_reducible first | apply AtM1.cr | apply AtQ.cr | apply At.cr); exact rfl; exact rfl; exact fun _ hmm => hl _ hmm; exact ztk; kernel_rfl) | ((with_reducible first | apply AtM1.cr | apply AtQ.cr | apply At.cr); exact rfl; exact rfl; exact fun _ hmm => a4 _ hmm; exact ztk; kernel_rfl) | ((with_reducible apply At.alloc (d := 7)); exact rfl; exact rfl; intro b7) | ((with_reducible apply At.alloc (d := 9)); exact rfl; exact rfl; intro b9) | ((with_reducible apply At.alloc (d := 11)); exact rfl; exact rfl; intro b11) | ((with_reducible apply At.alloc (d := 17)); exact rfl; exact rfl; intro b17) | ((with_reducible apply At.alloc (d := 20)); exact rfl; exact rfl; intro b20) | (refine zsp ?_ ?_ <;> (intro hc; (try simp only [zhcs, reduceCtorEq] at hc); (try (exfalso; first | (first | omega | exact absurd hc hk) | contradiction | omega | exact absurd rfl hc | exact absurd (by decide) hc))))))
    all_goals ((with_reducible apply At.retB1 (B := [])); exact rfl; exact rfl; exact zml; exact zkp; exact ⟨rfl, rfl⟩)
  rw [hk] at a4
  have hsl := chkL_ok hk
  have hrV : rkV l.length nu de = (((rk l.length nu de : Nat) : Int), 0) := by unfold rkV; rw [if_neg (by omega), Int.toNat_natCast]
  have f1 := rk_one l.length nu de
  have f2 := rk_le (show 1 ≤ l.length from h0) (show 0 < de by omega) (show nu ≤ de by omega)
  have f3 := rk_hi (n := l.length) (num := nu) (show 0 < de by omega)
  have f4 := fun h => rk_lo (n := l.length) (num := nu) (show 0 < de by omega) h
  obtain ⟨K, hK⟩ : ∃ K : Nat, rk l.length nu de = K + 1 := ⟨rk l.length nu de - 1, by omega⟩
  rw [hK] at hrV f1 f2 f3 f4
  rw [Nat.add_sub_cancel] at f4
  have hln := srt_len l
  have hup := srt_up hsl
  have hKl : K < (srt l).length := by omega
  obtain ⟨x, hx⟩ : ∃ x, (srt l)[K]! = x := ⟨_, rfl⟩
  have hxs : x ∈ srt l := hx ▸ Ls.mem! hKl
  have hxl : x ∈ l := srt_mem.1 hxs
  have hsx := hsl x hxl
  have eOf : ofV nu de l = (x, 0) := by
    unfold ofV
    rw [hk, if_neg (fun e => e rfl), hrV, if_neg (fun e => e rfl), ← hx]
    rfl
  have g1 := cnt_ge hup hKl
  rw [hx, cnt_perm x (srt_perm l)] at g1
  have g2 := fun (f : Nat × Nat) (hf : lq x f = false) => cnt_lt hup (fun y hy => hsl y (srt_mem.1 hy)) hKl (f := f) (by rw [hx]; exact hf)
  obtain ⟨pt, ep, hsp, p1, p2, p3⟩ := red_sm (n := nu) (d := de) (by omega) (by omega) (by omega)
  -- the share of one, held against the part
  have key : ∀ f ∈ l, ∃ t : Nat × Nat, shV f l = (t, 0) ∧ Sm t ∧ (Ra.les t.1 t.2 pt.1 pt.2 = (decide (cnt f l * de < nu * l.length), 0)) := fun f hf => by
    have hc := cnt_le f l
    obtain ⟨t, et, hst, t1, t2, t3⟩ := red_sm (n := cnt f l) (d := l.length) (by omega) h0 (by omega)
    refine ⟨t, (shV_ok (hsl f hf) hk h0).trans et, hst, ?_⟩
    rw [les_sm hst hsp]
    congr 1
    exact decide_eq_decide.2 (red_lt t1 t2 t3 p1 p2 p3)
  have y1 := of_ nu (by omega)
  have y2 := of_ de (by omega)
  have y3 := fun (m' : Mem) (h : m.le m') => Ra.reduce (m := m') (hz.mono h) nu de (by omega) (by omega)
  have y4 := fun (m' : Mem) (h : m.le m') => ofC (m := m') (hz.mono h) nu de (by omega) (by omega) p c l.length l rfl (by omega) hb (sl0.mono h)
  have y5 := fun (m' : Mem) (h : m.le m') (f : Nat × Nat) (hf : f ∈ l) => shareC (m := m') (hz.mono h) f (hb f hf) p c l.length l rfl (by omega) hb (sl0.mono h)
  have y6 := fun (m' : Mem) (h : m.le m') (a b : Nat × Nat) (ha : Sm a) (hb : Sm b) => Ra.lessT (m := m') (hz.mono h) a.1 a.2 b.1 b.2 (sm_in ha).1 (sm_in ha).2 (sm_in hb).1 (sm_in hb).2
  rw [ep] at y3
  rw [eOf] at y4
  obtain ⟨s, es, hss, ls⟩ := key x hxl
  have y7 := fun (m' : Mem) (h : m.le m') => y5 m' h x hxl
  have y8 := fun (m' : Mem) (h : m.le m') => y6 m' h s pt hss hsp
  rw [es] at y7
  have hge : nu * l.length ≤ cnt x l * de := by
    rw [Nat.mul_comm nu]
    exact Nat.le_trans f3 (Nat.mul_le_mul_right _ g1)
  rw [ls, decide_eq_false (Nat.not_lt.2 hge)] at y8
  clear es ls hge g1
  dsimp only at y3 y4 y7 y8
  refine Ct.enterV (by rfl) Tryd.func6 rfl Tryd.ntmps6 rfl (fun w0 Rest => ?_)
  (repeat' (first | refine zss ?_ | refine zsM ?_ | ((with_reducible first | apply AtM1.cr | apply AtQ.cr | apply At.cr); exact rfl; exact rfl; exact fun _ hmm => hl _ hmm; exact ztk; kernel_rfl) | ((with_reducible first | apply AtM1.cr | apply AtQ.cr | apply At.cr); exact rfl; exact rfl; exact fun _ hmm => a4 _ hmm; exact ztk; kernel_rfl) | ((with_reducible first | apply AtM1.callp | apply AtQ.callp | apply At.callp); kernel_rfl; exact rfl; exact rfl; exact y1) | ((with_reducible first | apply AtM1.callp | apply AtQ.callp | apply At.callp); kernel_rfl; exact rfl; exact rfl; exact y2) | ((with_reducible first | apply AtM1.cr | apply AtQ.cr | apply At.cr); exact rfl; exact rfl; exact fun _ hmm => y3 _ hmm; exact ztk; kernel_rfl) | ((with_reducible first | apply AtM1.cr | apply AtQ.cr | apply At.cr); exact rfl; exact rfl; exact fun _ hmm => y4 _ hmm; exact ztk; kernel_rfl) | ((with_reducible first | apply AtM1.cr | apply AtQ.cr | apply At.cr); exact rfl; exact rfl; exact fun _ hmm => y7 _ hmm; exact ztk; kernel_rfl) | ((with_reducible first | apply AtM1.cr | apply AtQ.cr | apply At.cr); exact rfl; exact rfl; exact fun _ hmm => y8 _ hmm; exact ztk; kernel_rfl) | ((with_reducible apply At.alloc (d := 7)); exact rfl; exact rfl; intro b7) | ((with_reducible apply At.alloc (d := 9)); exact rfl; exact rfl; intro b9) | ((with_reducible apply At.alloc (d := 11)); exact rfl; exact rfl; intro b11) | ((with_reducible apply At.alloc (d := 17)); exact rfl; exact rfl; intro b17) | ((with_reducible apply At.alloc (d := 20)); exact rfl; exact rfl; intro b20) | (refine zsp ?_ ?_ <;> (intro hc; (try simp only [zhcs, reduceCtorEq] at hc); (try (exfalso; first | omega | contradiction | omega | exact absurd rfl hc | exact absurd (by decide) hc))))))
  (refine At.loopk (σ := CK) [0, 7, 9, 96, 97] (fun s F0 => (98, .int .i64 (s.i : Int)) :: (15, .bool s.g) :: F0) (fun s => m) (fun s => .blk b7 27 (fd pt) :: .blk b9 27 (fd x) :: Rest) (fun s => s.i ≤ l.length ∧ s.g = (l.take s.i).any (fun y => decide (y = x))) (fun s => l.length - s.i) ⟨0, false⟩ (by rfl) ?_ zsubs zml zente ?_)
  · exact ⟨Nat.zero_le _, rfl⟩
  rintro ⟨i, g⟩ ⟨hi, hg⟩
  dsimp only at hi hg ⊢
  by_cases h : i < l.length
  · have hfm := Ls.mem! h
    have es := eq_snoc (x := x) h
    rw [← hg] at es
    obtain ⟨t, et, hst, lt⟩ := key _ hfm
    have c1 := fun (m' : Mem) (h : m.le m') => y5 m' h _ hfm
    have c2 := fun (m' : Mem) (h : m.le m') => y6 m' h t pt hst hsp
    have c3 := fun (m' : Mem) (h : m.le m') => y6 m' h l[i]! x (hsl _ hfm) hsx
    rw [et] at c1
    dsimp only at c1
    rw [lt] at c2
    rw [les_sm (hsl _ hfm) hsx] at c3
    have hq := lq_lt x l[i]!
    have himp : decide (l[i]!.1 * x.2 < x.1 * l[i]!.2) = true → decide (cnt l[i]! l * de < nu * l.length) = true := fun hlt => by
      rw [hlt] at hq
      have hc := g2 _ hq
      rw [cnt_perm _ (srt_perm l)] at hc
      have hp := cnt_pos hfm
      refine decide_eq_true (Nat.lt_of_le_of_lt (Nat.mul_le_mul_right _ hc) ?_)
      rw [Nat.mul_comm nu]
      exact f4 (by omega)
    generalize decide (l[i]!.1 * x.2 < x.1 * l[i]!.2) = r1 at *
    generalize decide (cnt l[i]! l * de < nu * l.length) = r2 at *
    clear y1 y2 y3 y4 y5 y6 y7 y8 hl a4 key hq hst lt et hsl g2 f3 f4
    cases g
    · cases r1
      · (repeat' (first | refine zss ?_ | ((first | (with_reducible first | apply At.val | apply AtQ.val)); (exact pr_feq (a := l[i]!) (b := x) (by rfl) (by rfl)); exact rfl) | refine zsM ?_ | ((with_reducible first | apply AtM1.cr | apply AtQ.cr | apply At.cr); exact rfl; exact rfl; exact fun _ hmm => c1 _ hmm; exact ztk; kernel_rfl) | ((with_reducible first | apply AtM1.cr | apply AtQ.cr | apply At.cr); exact rfl; exact rfl; exact fun _ hmm => c2 _ hmm; exact ztk; kernel_rfl) | ((with_reducible first | apply AtM1.cr | apply AtQ.cr | apply At.cr); exact rfl; exact rfl; exact fun _ hmm => c3 _ hmm; exact ztk; kernel_rfl) | ((with_reducible apply At.alloc (d := 7)); exact rfl; exact rfl; intro b7) | ((with_reducible apply At.alloc (d := 9)); exact rfl; exact rfl; intro b9) | ((with_reducible apply At.alloc (d := 11)); exact rfl; exact rfl; intro b11) | ((with_reducible apply At.alloc (d := 17)); exact rfl; exact rfl; intro b17) | ((with_reducible apply At.alloc (d := 20)); exact rfl; exact rfl; intro b20) | (refine zsp ?_ ?_ <;> (intro hc; (try simp only [zhcs, reduceCtorEq] at hc); (try (exfalso; first | omega | contradiction | omega | exact absurd rfl hc | exact absurd (by decide) hc))))))
        all_goals ((with_reducible refine At.reachk (⟨i + 1, decide (l[i]! = x)⟩) ?_ ?_ ?_ ?_); exact zsubs; exact zml; exact zente; exact ⟨⟨h, by rw [es, Bool.false_or]⟩, by dsimp only; omega⟩)
      · rw [himp rfl] at c2
        (repeat' (first | refine zss ?_ | ((first | (with_reducible first | apply At.val | apply AtQ.val)); (exact pr_feq (a := l[i]!) (b := x) (by rfl) (by rfl)); exact rfl) | refine zsM ?_ | ((with_reducible first | apply AtM1.cr | apply AtQ.cr | apply At.cr); exact rfl; exact rfl; exact fun _ hmm => c1 _ hmm; exact ztk; kernel_rfl) | ((with_reducible first | apply AtM1.cr | apply AtQ.cr | apply At.cr); exact rfl; exact rfl; exact fun _ hmm => c2 _ hmm; exact ztk; kernel_rfl) | ((with_reducible first | apply AtM1.cr | apply AtQ.cr | apply At.cr); exact rfl; exact rfl; exact fun _ hmm => c3 _ hmm; exact ztk; kernel_rfl) | ((with_reducible apply At.alloc (d := 7)); exact rfl; exact rfl; intro b7) | ((with_reducible apply At.alloc (d := 9)); exact rfl; exact rfl; intro b9) | ((with_reducible apply At.alloc (d := 11)); exact rfl; exact rfl; intro b11) | ((with_reducible apply At.alloc (d := 17)); exact rfl; exact rfl; intro b17) | ((with_reducible apply At.alloc (d := 20)); exact rfl; exact rfl; intro b20) | (refine zsp ?_ ?_ <;> (intro hc; (try simp only [zhcs, reduceCtorEq] at hc); (try (exfalso; first | omega | contradiction | omega | exact absurd rfl hc | exact absurd (by decide) hc))))))
        all_goals ((with_reducible refine At.reachk (⟨i + 1, decide (l[i]! = x)⟩) ?_ ?_ ?_ ?_); exact zsubs; exact zml; exact zente; exact ⟨⟨h, by rw [es, Bool.false_or]⟩, by dsimp only; omega⟩)
    · cases r1
      · (repeat' (first | refine zss ?_ | refine zsM ?_ | ((with_reducible first | apply AtM1.cr | apply AtQ.cr | apply At.cr); exact rfl; exact rfl; exact fun _ hmm => c1 _ hmm; exact ztk; kernel_rfl) | ((with_reducible first | apply AtM1.cr | apply AtQ.cr | apply At.cr); exact rfl; exact rfl; exact fun _ hmm => c2 _ hmm; exact ztk; kernel_rfl) | ((with_reducible first | apply AtM1.cr | apply AtQ.cr | apply At.cr); exact rfl; exact rfl; exact fun _ hmm => c3 _ hmm; exact ztk; kernel_rfl) | ((with_reducible apply At.alloc (d := 7)); exact rfl; exact rfl; intro b7) | ((with_reducible apply At.alloc (d := 9)); exact rfl; exact rfl; intro b9) | ((with_reducible apply At.alloc (d := 11)); exact rfl; exact rfl; intro b11) | ((with_reducible apply At.alloc (d := 17)); exact rfl; exact rfl; intro b17) | ((with_reducible apply At.alloc (d := 20)); exact rfl; exact rfl; intro b20) | (refine zsp ?_ ?_ <;> (intro hc; (try simp only [zhcs, reduceCtorEq] at hc); (try (exfalso; first | omega | contradiction | omega | exact absurd rfl hc | exact absurd (by decide) hc))))))
        all_goals ((with_reducible refine At.reachk (⟨i + 1, true⟩) ?_ ?_ ?_ ?_); exact zsubs; exact zml; exact zente; exact ⟨⟨h, by rw [es, Bool.true_or]⟩, by dsimp only; omega⟩)
      · rw [himp rfl] at c2
        (repeat' (first | refine zss ?_ | refine zsM ?_ | ((with_reducible first | apply AtM1.cr | apply AtQ.cr | apply At.cr); exact rfl; exact rfl; exact fun _ hmm => c1 _ hmm; exact ztk; kernel_rfl) | ((with_reducible first | apply AtM1.cr | apply AtQ.cr | apply At.cr); exact rfl; exact rfl; exact fun _ hmm => c2 _ hmm; exact ztk; kernel_rfl) | ((with_reducible first | apply AtM1.cr | apply AtQ.cr | apply At.cr); exact rfl; exact rfl; exact fun _ hmm => c3 _ hmm; exact ztk; kernel_rfl) | ((with_reducible apply At.alloc (d := 7)); exact rfl; exact rfl; intro b7) | ((with_reducible apply At.alloc (d := 9)); exact rfl; exact rfl; intro b9) | ((with_reducible apply At.alloc (d := 11)); exact rfl; exact rfl; intro b11) | ((with_reducible apply At.alloc (d := 17)); exact rfl; exact rfl; intro b17) | ((with_reducible apply At.alloc (d := 20)); exact rfl; exact rfl; intro b20) | (refine zsp ?_ ?_ <;> (intro hc; (try simp only [zhcs, reduceCtorEq] at hc); (try (exfalso; first | omega | contradiction | omega | exact absurd rfl hc | exact absurd (by decide) hc))))))
        all_goals ((with_reducible refine At.reachk (⟨i + 1, true⟩) ?_ ?_ ?_ ?_); exact zsubs; exact zml; exact zente; exact ⟨⟨h, by rw [es, Bool.true_or]⟩, by dsimp only; omega⟩)
  · have hgt : g = true := by
      rw [hg, List.take_of_length_le (by omega)]
      exact List.any_eq_true.2 ⟨x, hxl, decide_eq_true rfl⟩
    subst hgt
    clear y1 y2 y3 y4 y5 y6 y7 y8 hl a4 key hsl g2 f3 f4
    (repeat' (first | refine zss ?_ | refine zsM ?_ | ((with_reducible apply At.alloc (d := 7)); exact rfl; exact rfl; intro b7) | ((with_reducible apply At.alloc (d := 9)); exact rfl; exact rfl; intro b9) | ((with_reducible apply At.alloc (d := 11)); exact rfl; exact rfl; intro b11) | ((with_reducible apply At.alloc (d := 17)); exact rfl; exact rfl; intro b17) | ((with_reducible apply At.alloc (d := 20)); exact rfl; exact rfl; intro b20) | (refine zsp ?_ ?_ <;> (intro hc; (try simp only [zhcs, reduceCtorEq] at hc); (try (exfalso; first | omega | contradiction | omega | exact absurd rfl hc | exact absurd (by decide) hc))))))
    all_goals ((with_reducible apply At.retB1 (B := [])); exact rfl; exact rfl; exact zml; exact zkp; exact ⟨rfl, rfl⟩)
end Qu
namespace QuantFirstCardL
open Go.ChangeShapes Go.WideShapes Go.ChangeAt Go.RowKit
open Go.ChangeMaps (open_string shut_string)
theorem own : ownKnob Tryd.prog.godebug = none := by kernel_rfl
theorem laidOut : laidOutB Tryd.prog = true := by kernel_rfl
set_option maxRecDepth 100000 in
theorem door_met (os : Os) (args : Array Value) : laidMetH Tryd.prog Rows.quantFirstRow.laid ((World.doorLaid Tryd.prog 400 os).forCall (fun _ _ => 0) ⟨#[], args, []⟩).memory :=
  laidMetH_of_parts3 (fuel := 8) (laidMet_of_run' 8 (by kernel_rfl) (by kernel_rfl)) (by kernel_rfl) (by kernel_rfl)
set_option maxRecDepth 100000 in
theorem lifted (os : Os) (started : os.Started) (H : Type) (enc : TypeId × Value → H) :
    ReturnsInHanded {} Tryd.checked os 6 .any (fun w args => (Rows.quantFirstSpec.pre enc Tryd.prog Tryd.f6 [] false w args ∧ laidMetH Tryd.prog Rows.quantFirstRow.laid w) ∧ sizedMet enc Tryd.prog Tryd.f6 (OpenSpec.ofChange Rows.quantFirstSpec) false w args)
      (Rows.quantFirstSpec.post enc Tryd.prog Tryd.f6 false true false false) := by
  refine returnsInHanded_of_change_and (C := Tryd.checked) (X := fun w _ => laidMetH Tryd.prog Rows.quantFirstRow.laid w) (fun _ _ _ hh h => h.of_heap hh) own started (by kernel_rfl) Tryd.func6
    (ChangeSpec.witness_shaped (enc := enc) (C := Tryd.checked) (os := os) (X := fun w _ => laidMetH Tryd.prog Rows.quantFirstRow.laid w) false (World.doorLaid Tryd.prog 400 os) #[.slice none 0 0, .int .u32 0, .int .u32 0] 8 rfl (World.shaped_of_RefB (by kernel_rfl) (by kernel_rfl)) (by kernel_rfl) (by kernel_rfl) (by kernel_rfl) (door_met os _)) ?_
  intro W base args ds gs before hval0 hW hcnd _ hL _
  have hval : ∀ (j : Nat) t v, Tryd.f6.params[j]? = some t → args[j]? = some v → Value.okWide Tryd.prog W .any base t v := hval0
  have hW' := hW
  obtain ⟨p, q, hA0, hV, rfl, hfz, hnd⟩ := hW
  have hA : DataW.TrodAll enc Tryd.prog W 0 (fun _ => true) true Tryd.f6.params.toList args.toList ds p := hA0
  rw [Tryd.params6] at hA hval
  obtain ⟨rfl, rfl⟩ := trodVars_none hV
  have hlt : ∀ x ∈ p, x.block < W.heap.size := fun x hx => hW'.lt x (by simpa using hx)
  have hback := fun (W' : World) (bel : Below W.heap.size W W') => trodAll_below laidOut bel _ _ _ _ (by kernel_rfl) hA hlt
  obtain ⟨v0, vs0, d0, ds0, p0, q0, hargs, rfl, rfl, h0, r0⟩ := trodAll_cons hA
  obtain ⟨v1, vs1, d1, ds1, p1, q1, rfl, rfl, rfl, h1, r1⟩ := trodAll_cons r0
  obtain ⟨v2, vs2, d2, ds2, p2, q2, rfl, rfl, rfl, h2, r2⟩ := trodAll_cons r1
  obtain ⟨rfl, rfl, rfl⟩ := trodAll_nil r2
  obtain rfl : args = #[v0, v1, v2] := by cases args; simp_all
  obtain ⟨p0, c0, a0, rfl, s0, w0⟩ := open_sl_arg (f := Qu.fd) (sz := 4) inferInstance (Qu.In2) Tryd.underlying22 (by rfl) (dec_flat' [.int .u64, .int .u64, .int .u64, .int .u64] (by kernel_rfl) Qu.dec_frac) (okWide_slice Tryd.underlying22 (hval 0 22 v0 rfl rfl)) h0
  obtain ⟨a1, rfl, rfl, rfl, w1⟩ := open_int Tryd.underlying48 (hval 1 48 v1 rfl rfl) h1
  obtain ⟨a2, rfl, rfl, rfl, w2⟩ := open_int Tryd.underlying48 (hval 2 48 v2 rfl rfl) h2
  refine (law_calls (Ct.mono (Qu.firstL (m := memOf W) (Qu.tz_of hL (by kernel_rfl)) p0 c0 a0 a1 a2 w0 (bounds_u32 w1) (bounds_u32 w2) s0) fun v m' B _ h => h.1)).mono fun e W' ⟨he, bel⟩ => ?_
  subst he
  exact ⟨_, rfl, _, _, _, [], _, [], hW', trodAll_mk1 (shut_bool Tryd.underlying4 _), hback W' bel, rfl, bel.frame _, fun h => by cases h⟩
theorem over : Rows.quantFirstRow.holds Tryd.pinned (OpenSpec.ofChange Rows.quantFirstSpec) :=
  OpenClaim.holds_of_wide 6 Tryd.f6 rfl rfl rfl rfl rfl rfl rfl ⟨rfl, rfl, rfl, rfl, rfl⟩ rfl rfl rfl rfl rfl (by kernel_rfl) Tryd.func6 (by kernel_rfl)
    (of_decide_eq_true (by kernel_rfl)) (by unfold Func.isWrapper; first | (rw [if_pos (by decide +kernel)]; kernel_rfl) | (rw [if_neg (by decide +kernel)]; exact ⟨rfl, rfl⟩))
    (fun os started H enc _ => lifted os started H enc)
theorem proved : Rows.QuantFirstCardSaid :=
  Claim7.holds_tied_plain_at .later [] Rows.quantFirstCard.laidKinds true Rows.quantFirstCard.stood.harness Rows.quantFirstCard.stood.looks
    over (fun _ h => by cases h) (by kernel_rfl) (fun _ h => by cases h) quantFirst_row_tie rfl ⟨rfl, rfl⟩ (by kernel_rfl) rfl
    (fun f fn hf hfn => by
      obtain rfl : f = 6 := Option.some.inj ((show Tryd.prog.funcNamed Tryd.f6.name = some 6 by kernel_rfl).symm.trans hf) |>.symm
      obtain rfl : fn = Tryd.f6 := (Option.some.inj (Tryd.func6.symm.trans hfn)).symm
      exact ⟨by kernel_rfl, fun j t ht => by
        rw [Tryd.params6] at ht
        have hm := Array.mem_of_getElem? ht
        have hall : ((Tryd.f6.params).all fun u => !Tryd.prog.wantsStandIn u) = true := by kernel_rfl
        rw [Tryd.params6] at hall
        exact (show Tryd.prog.wantsStandIn t = false by simpa using Array.all_eq_true'.1 hall t hm)⟩)
    (by kernel_rfl)
end QuantFirstCardL
end Go.Proofs.YtmnlmmbfjfgfeaaDoor

/- Part 13 of what the law's proof needs: rules of the walk, contracts of functions, plain laws. No condition. -/
import Derived.Test.YtjdlnckifhifbaaGreatT8SZ12
import Derived.Conc.LoneSelect
/- The package series: now, span, Range, Cell of a series to which events were put. -/
set_option linter.unusedSimpArgs false
set_option linter.unusedVariables false
set_option linter.unusedSectionVars false
set_option maxRecDepth 20000
set_option maxHeartbeats 4000000
namespace Go.Proofs.YtjdlnckifhifbaaGreat
open Go Go.J
attribute [local irreducible] At AtQ AtM AtM1 PR Ct Pu Rd Res.blk Res.own Res.ex RVs RV
namespace Sv
open Slot Ti Gr Se
open Fo hiding pt
theorem quo_nn {x w : Int} (h : 0 ≤ x ∧ x ≤ 9223372036854775807) (hw : 1 ≤ w) : IntKind.wrap .i64 (x.tdiv w) = x / w := by
  have h2 := Int.ediv_nonneg h.1 (show 0 ≤ w by omega)
  have h3 := Int.ediv_le_self w h.1
  rw [Int.tdiv_eq_ediv_of_nonneg h.1]
  exact IntWalk.i64_in _ (by omega)
/-- what a call of an open series answers, and leaves -/
abbrev Post (q : Nat) (K : Cfg) (x : Ser) (m : Mem) (c : Cell) : Value → Mem → List Res → Prop := fun v m' B => v = .tuple #[c.v, .int .i64 0] ∧ m = m' ∧ B = kb q K x
theorem now0 {m : Mem} (q : Nat) (K : Cfg) (x : Ser) (es : List Ev) (h : SI K es x) (hn : es ≠ []) :
    Ct Tryz.prog 40 #[pt q, .int .i64 0] m (kb q K x) (Post q K x m (G K.a es (lastT es / K.a))) := by
  have e : x.op.c = G K.a es (lastT es / K.a) := congrArg Slot.c (h.inv.open_ hn).1
  rw [← e]
  clear e h
  refine Ct.enterV (by rfl) Tryz.func40 rfl Tryz.ntmps40 rfl (fun w0 Rest => ?_)
  (repeat' (first | refine zss ?_ | refine zsM ?_ | ((with_reducible apply At.alloc (d := 4)); exact rfl; exact rfl; intro b4) | ((with_reducible apply At.alloc (d := 7)); exact rfl; exact rfl; intro b7) | ((with_reducible apply At.alloc (d := 9)); exact rfl; exact rfl; intro b9) | (refine zsp ?_ ?_ <;> (intro hc; (try simp only [zhcs, reduceCtorEq] at hc); (try (exfalso; first | omega | contradiction | omega | exact absurd rfl hc | exact absurd (by decide) hc))))))
  all_goals ((with_reducible apply At.retV (B := kb q K x)); exact rfl; (repeat' (first | exact RVs.nil | (with_reducible apply RVs.cons) | exact rv_tmp (by rfl) | exact rv_cellN (by rfl) (by repeat constructor) (by rfl) (by rfl) (by rfl) | exact rv_cell1 (by rfl) (by repeat constructor) (by rfl) (by rfl))); exact zml; exact zkp; exact ⟨rfl, rfl, rfl⟩)
theorem G_in {w : Int} {es : List Ev} {i : Int} (hG : Gr.Good es) : Cell.In (G w es i) := cel_in (hG.sub (win_sub _ _ _))
theorem now1 {m : Mem} (q : Nat) (K : Cfg) (x : Ser) (es : List Ev) (h : SI K es x) (ho : x.Ok m) (hn : es ≠ []) :
    Ct Tryz.prog 40 #[pt q, .int .i64 1] m (kb q K x) (Post q K x m (G K.b es (lastT es / K.b))) := by
  obtain ⟨hl, hp1, hp2⟩ := h.pos hn
  obtain ⟨f, ef, eW, g1, g2⟩ := (cfg_f h.inv.ok).1
  have hG := h.inv.g
  have hw := h.inv.ok.ha
  have hW := h.inv.ok.hb
  have hLv := h.inv.a
  obtain ⟨c, h1, h2⟩ := now_step hLv hG hw.1 g1 g2 (last_bd hG hn).1 (fun e he => le_last hG he)
  rw [← eW, ← hl] at h1 h2
  rw [← hl]
  change foldC x.t0.l _ _ = _ at h1
  have k1 := fun (m' : Mem) (hm : m.le m') => fold_ (m := m') x.t0.p x.t0.c x.t0.l (x.last / K.b * f) (x.last / K.a) (ho.i0) (okT_dis hLv.ok) ho.n0 (ho.s0.mono hm)
  rw [h1] at k1
  have k2 := fun (m' : Mem) (hm : m.le m') => now0 (m := m') q K x es h hn
  rw [← hl] at k2
  have hci : Cell.In c := by
    have := foldC_in ho.i0 (x.last / K.b * f) (x.last / K.a)
    rw [h1] at this
    exact this
  have k3 := Cell.merge c (G K.a es (x.last / K.a)) hci (G_in hG)
  rw [h2] at k3
  have hb1 := Int.ediv_nonneg hp1 (show 0 ≤ K.b by omega)
  have hb2 : x.last / K.b * f ≤ x.last / K.a := by
    rw [eW, div_div (by omega)]
    exact Int.ediv_mul_le _ (by omega)
  have hb3 := Int.ediv_le_self K.a hp1
  have hb4 := Int.mul_nonneg hb1 (show 0 ≤ f by omega)
  have hq1 : IntKind.wrap .i64 (x.last.tdiv K.b) = x.last / K.b := quo_nn (by omega) hW.1
  have hq2 : IntKind.wrap .i64 (K.b.tdiv K.a) = f := by rw [quo_nn (by omega) hw.1, ef]
  have hq3 : IntKind.wrap .i64 (x.last.tdiv K.a) = x.last / K.a := quo_nn (by omega) hw.1
  have hm1 : IntKind.wrap .i64 (x.last / K.b * f) = x.last / K.b * f := IntWalk.i64_in _ (by omega)
  have hk1 : IntKind.wrap .i64 (1 - 1) = 1 - 1 := by decide
  have hW0 : K.b ≠ 0 := by omega
  have hw0 : K.a ≠ 0 := by omega
  clear h1 h2 hci hb1 hb2 hb3 hb4 hLv hG h ho hl hp1 hp2 ef eW g1 g2 hw hW
  generalize x.last / K.b = A at *
  generalize x.last / K.a = B at *
  generalize G K.a es B = C1 at *
  generalize G K.b es A = C2 at *
  refine Ct.enterV (by rfl) Tryz.func40 rfl Tryz.ntmps40 rfl (fun w0 Rest => ?_)
  (repeat' (first | ((with_reducible apply At.mixed (id := 4) 30 (.q 0 (.q 1 (.q 2 (.q 3 (.q 4 (.q 5 (.q 6 (.q 7 (.q 8 (.q 9 (.q 10 (.q 11 (.q 12 (.q 13 (.q 14 (.q 15 (.q 16 (.q 17 (.q 18 (.q 19 (.q 20 (.q 21 (.q 22 (.b 23 27 (.q 24 (.q 25 (.q 26 (.l 27 (.x 28 (.q 29 .done)))))) (.l 23 (.q 24 (.q 25 (.q 26 (.x 28 (.q 29 .done))))))))))))))))))))))))))))))); exact rfl; kernel_rfl; kernel_rfl; kernel_rfl) | refine zsx ?_ | refine zss ?_ | ((with_reducible apply AtM.bo); exact rfl; exact rfl; exact rfl) | ((first | (with_reducible first | apply At.val | apply AtQ.val) | ((with_reducible first | apply AtM1.valz | apply AtM1.val); exact rfl) | ((with_reducible apply AtM1.val); exact rfl)); (first | exact pr_indexArr (k := 1) (by rfl) (by rfl) (by rfl) (by rfl) (by decide) | exact pr_indexArr (k := 1 - 1) (by rfl) (by rfl) (by rfl) (by rfl) (by decide) | exact pr_quo (by rfl) (by rfl) hW0 hq1 | exact pr_quo (by rfl) (by rfl) hw0 hq2 | exact pr_quo (by rfl) (by rfl) hw0 hq3 | exact pr_mul (by rfl) (by rfl) hm1 | exact pr_sub (by rfl) (by rfl) hk1); exact rfl) | refine zsM ?_ | refine zxM ?_ | ((with_reducible first | apply AtM1.cr | apply AtQ.cr | apply At.cr); exact rfl; exact rfl; exact fun _ hmm => k1 _ zml; exact ztk; kernel_rfl) | ((with_reducible first | apply At.c1 | apply At.c0); exact rfl; exact rfl; exact k2 _ zml; exact ztk; kernel_rfl; rintro v' m' B' hm' ⟨rfl, rfl, rfl⟩; skip; (try (have hq0 : hm' = Mem.le_refl _ := rfl; clear hq0 hm'))) | ((with_reducible first | apply AtM1.callp | apply AtQ.callp | apply At.callp); kernel_rfl; exact rfl; exact rfl; exact k3) | ((with_reducible apply At.alloc (d := 4)); exact rfl; exact rfl; intro b4) | ((with_reducible apply At.alloc (d := 7)); exact rfl; exact rfl; intro b7) | ((with_reducible apply At.alloc (d := 9)); exact rfl; exact rfl; intro b9) | (refine zsp ?_ ?_ <;> (intro hc; (try simp only [zhcs, reduceCtorEq] at hc); (try (exfalso; first | omega | contradiction | omega | exact absurd rfl hc | exact absurd (by decide) hc))))))
  all_goals ((with_reducible apply At.retV (B := kb q K x)); exact rfl; (repeat' (first | exact RVs.nil | (with_reducible apply RVs.cons) | exact rv_tmp (by rfl) | exact rv_cellN (by rfl) (by repeat constructor) (by rfl) (by rfl) (by rfl) | exact rv_cell1 (by rfl) (by repeat constructor) (by rfl) (by rfl))); exact zml; exact zkp; exact ⟨rfl, rfl, rfl⟩)
theorem now2 {m : Mem} (q : Nat) (K : Cfg) (x : Ser) (es : List Ev) (h : SI K es x) (ho : x.Ok m) (hn : es ≠ []) :
    Ct Tryz.prog 40 #[pt q, .int .i64 2] m (kb q K x) (Post q K x m (G K.d es (lastT es / K.d))) := by
  obtain ⟨hl, hp1, hp2⟩ := h.pos hn
  obtain ⟨f, ef, eW, g1, g2⟩ := (cfg_f h.inv.ok).2
  have hG := h.inv.g
  have hw := h.inv.ok.hb
  have hW := h.inv.ok.hd
  have hLv := h.inv.b
  obtain ⟨c, h1, h2⟩ := now_step hLv hG hw.1 g1 g2 (last_bd hG hn).1 (fun e he => le_last hG he)
  rw [← eW, ← hl] at h1 h2
  rw [← hl]
  change foldC x.t1.l _ _ = _ at h1
  have k1 := fun (m' : Mem) (hm : m.le m') => fold_ (m := m') x.t1.p x.t1.c x.t1.l (x.last / K.d * f) (x.last / K.b) (ho.i1) (okT_dis hLv.ok) ho.n1 (ho.s1.mono hm)
  rw [h1] at k1
  have k2 := fun (m' : Mem) (hm : m.le m') => now1 (m := m') q K x es h (ho.mono hm) hn
  rw [← hl] at k2
  have hci : Cell.In c := by
    have := foldC_in ho.i1 (x.last / K.d * f) (x.last / K.b)
    rw [h1] at this
    exact this
  have k3 := Cell.merge c (G K.b es (x.last / K.b)) hci (G_in hG)
  rw [h2] at k3
  have hb1 := Int.ediv_nonneg hp1 (show 0 ≤ K.d by omega)
  have hb2 : x.last / K.d * f ≤ x.last / K.b := by
    rw [eW, div_div (by omega)]
    exact Int.ediv_mul_le _ (by omega)
  have hb3 := Int.ediv_le_self K.b hp1
  have hb4 := Int.mul_nonneg hb1 (show 0 ≤ f by omega)
  have hq1 : IntKind.wrap .i64 (x.last.tdiv K.d) = x.last / K.d := quo_nn (by omega) hW.1
  have hq2 : IntKind.wrap .i64 (K.d.tdiv K.b) = f := by rw [quo_nn (by omega) hw.1, ef]
  have hq3 : IntKind.wrap .i64 (x.last.tdiv K.b) = x.last / K.b := quo_nn (by omega) hw.1
  have hm1 : IntKind.wrap .i64 (x.last / K.d * f) = x.last / K.d * f := IntWalk.i64_in _ (by omega)
  have hk1 : IntKind.wrap .i64 (2 - 1) = 2 - 1 := by decide
  have hW0 : K.d ≠ 0 := by omega
  have hw0 : K.b ≠ 0 := by omega
  clear h1 h2 hci hb1 hb2 hb3 hb4 hLv hG h ho hl hp1 hp2 ef eW g1 g2 hw hW
  generalize x.last / K.d = A at *
  generalize x.last / K.b = B at *
  generalize G K.b es B = C1 at *
  generalize G K.d es A = C2 at *
  refine Ct.enterV (by rfl) Tryz.func40 rfl Tryz.ntmps40 rfl (fun w0 Rest => ?_)
  (repeat' (first | ((with_reducible apply At.mixed (id := 4) 30 (.q 0 (.q 1 (.q 2 (.q 3 (.q 4 (.q 5 (.q 6 (.q 7 (.q 8 (.q 9 (.q 10 (.q 11 (.q 12 (.q 13 (.q 14 (.q 15 (.q 16 (.q 17 (.q 18 (.q 19 (.q 20 (.q 21 (.q 22 (.b 23 27 (.q 24 (.q 25 (.q 26 (.l 27 (.x 28 (.q 29 .done)))))) (.l 23 (.q 24 (.q 25 (.q 26 (.x 28 (.q 29 .done))))))))))))))))))))))))))))))); exact rfl; kernel_rfl; kernel_rfl; kernel_rfl) | refine zsx ?_ | refine zss ?_ | ((with_reducible apply AtM.bo); exact rfl; exact rfl; exact rfl) | ((first | (with_reducible first | apply At.val | apply AtQ.val) | ((with_reducible first | apply AtM1.valz | apply AtM1.val); exact rfl) | ((with_reducible apply AtM1.val); exact rfl)); (first | exact pr_indexArr (k := 2) (by rfl) (by rfl) (by rfl) (by rfl) (by decide) | exact pr_indexArr (k := 2 - 1) (by rfl) (by rfl) (by rfl) (by rfl) (by decide) | exact pr_quo (by rfl) (by rfl) hW0 hq1 | exact pr_quo (by rfl) (by rfl) hw0 hq2 | exact pr_quo (by rfl) (by rfl) hw0 hq3 | exact pr_mul (by rfl) (by rfl) hm1 | exact pr_sub (by rfl) (by rfl) hk1); exact rfl) | refine zsM ?_ | refine zxM ?_ | ((with_reducible first | apply AtM1.cr | apply AtQ.cr | apply At.cr); exact rfl; exact rfl; exact fun _ hmm => k1 _ zml; exact ztk; kernel_rfl) | ((with_reducible first | apply At.c1 | apply At.c0); exact rfl; exact rfl; exact k2 _ zml; exact ztk; kernel_rfl; rintro v' m' B' hm' ⟨rfl, rfl, rfl⟩; skip; (try (have hq0 : hm' = Mem.le_refl _ := rfl; clear hq0 hm'))) | ((with_reducible first | apply AtM1.callp | apply AtQ.callp | apply At.callp); kernel_rfl; exact rfl; exact rfl; exact k3) | ((with_reducible apply At.alloc (d := 4)); exact rfl; exact rfl; intro b4) | ((with_reducible apply At.alloc (d := 7)); exact rfl; exact rfl; intro b7) | ((with_reducible apply At.alloc (d := 9)); exact rfl; exact rfl; intro b9) | (refine zsp ?_ ?_ <;> (intro hc; (try simp only [zhcs, reduceCtorEq] at hc); (try (exfalso; first | omega | contradiction | omega | exact absurd rfl hc | exact absurd (by decide) hc))))))
  all_goals ((with_reducible apply At.retV (B := kb q K x)); exact rfl; (repeat' (first | exact RVs.nil | (with_reducible apply RVs.cons) | exact rv_tmp (by rfl) | exact rv_cellN (by rfl) (by repeat constructor) (by rfl) (by rfl) (by rfl) | exact rv_cell1 (by rfl) (by repeat constructor) (by rfl) (by rfl))); exact zml; exact zkp; exact ⟨rfl, rfl, rfl⟩)
/-- the number of windows of a tier -/
def Kn (K : Cfg) : Nat → Int
  | 0 => K.x
  | 1 => K.y
  | _ => K.w
/-- what is told of a range of windows -/
def rg (K : Cfg) (es : List Ev) (k : Nat) (i j : Int) : Cell := cel (sel (Kw K k) (Kn K k) (lastT es / Kw K k) es i j)
theorem getC_lv {w n c i : Int} {es : List Ev} {l : List Slot} (h : Lv w n es c l) (hG : Gr.Good es) (hi : 0 ≤ i) (h1 : c - n ≤ i) (h2 : i < c) : getC l i = G w es i := by
  by_cases hne : win w i es = []
  · have hz : G w es i = Cell.z := by unfold G; rw [hne]; rfl
    unfold getC
    by_cases h3 : i < 0 ∨ l.length = 0
    · rw [if_pos h3, hz]
    rw [if_neg h3]
    by_cases h4 : l[(Win.slotV i l.length).toNat]!.w = i
    · rw [if_pos h4]
      have hlt : (Win.slotV i l.length).toNat < l.length := by have := slotV_lt (i := i) (n := (l.length : Int)) (by omega); omega
      by_cases h5 : keep l[(Win.slotV i l.length).toNat]! = true
      · have := (h.snd _ (Ls.mem! hlt) h5).2
        rw [h4] at this
        exact this
      · have h6 : l[(Win.slotV i l.length).toNat]! = Slot.z := keep_z.1 (by cases h7 : keep l[(Win.slotV i l.length).toNat]!; rfl; exact absurd h7 h5)
        rw [h6, hz]
    · rw [if_neg h4, hz]
  · obtain ⟨e, he⟩ := List.exists_mem_of_ne_nil _ hne
    obtain ⟨he1, he2⟩ := win_mem.1 he
    have := h.cmp e he1 (by omega) (by omega)
    rw [he2] at this
    exact getC_mem h.ok this hi (keep_full (cel_full (hG.sub (win_sub _ _ _)) hne).1)
theorem span0 {m : Mem} (q : Nat) (K : Cfg) (x : Ser) (es : List Ev) (i j : Int) (h : SI K es x) (ho : x.Ok m) (hi : 0 ≤ i) (hij : i ≤ j) :
    Ct Tryz.prog 28 #[pt q, .int .i64 0, .int .i64 i, .int .i64 j] m (kb q K x) (Post q K x m (rg K es 0 i j)) := by
  by_cases hn : es = []
  · have hl : x.last = -1 := h.last.trans (if_pos hn)
    have e : rg K es 0 i j = Cell.z := by subst hn; rfl
    rw [e]
    clear h ho e
    refine Ct.enterV (by rfl) Tryz.func28 rfl Tryz.ntmps28 rfl (fun w0 Rest => ?_)
    (repeat' (first | refine zss ?_ | refine zsM ?_ | ((with_reducible apply At.alloc (d := 8)); exact rfl; exact rfl; intro b8) | ((with_reducible apply At.alloc (d := 11)); exact rfl; exact rfl; intro b11) | ((with_reducible apply At.alloc (d := 13)); exact rfl; exact rfl; intro b13) | (refine zsp ?_ ?_ <;> (intro hc; (try simp only [zhcs, reduceCtorEq] at hc); (try (exfalso; first | omega | contradiction | omega | exact absurd rfl hc | exact absurd (by decide) hc))))))
    all_goals ((with_reducible apply At.retV (B := kb q K x)); exact rfl; (repeat' (first | exact RVs.nil | (with_reducible apply RVs.cons) | exact rv_tmp (by rfl) | exact rv_cellN (by rfl) (by repeat constructor) (by rfl) (by rfl) (by rfl) | exact rv_cell1 (by rfl) (by repeat constructor) (by rfl) (by rfl))); exact zml; exact zkp; exact ⟨congrArg (fun v => Value.tuple #[v, .int .i64 0]) Cell.zv, rfl, rfl⟩)
  obtain ⟨hl, hp1, hp2⟩ := h.pos hn
  have hG := h.inv.g
  have hW := h.inv.ok.ha
  have hLv := h.inv.a
  have hmax := fun e he => le_win (w := K.a) hG hW.1 (e := e) he
  have hq1 : IntKind.wrap .i64 (x.last.tdiv K.a) = x.last / K.a := quo_nn (by omega) hW.1
  have hW0 : K.a ≠ 0 := by omega
  show Ct _ _ _ _ _ (Post q K x m (cel (sel K.a K.x (lastT es / K.a) es i j)))
  have k1 := fun (m' : Mem) (hm : m.le m') => fold_ (m := m') x.t0.p x.t0.c x.t0.l i j (ho.i0) (okT_dis hLv.ok) ho.n0 (ho.s0.mono hm)
  have k2 := fun (m' : Mem) (hm : m.le m') => now0 (m := m') q K x es h hn
  by_cases hc0 : lastT es / K.a < i ∨ j ≤ lastT es / K.a
  · have h1 := span_no hLv hG hW.1 hi hij hmax hc0
    change foldC x.t0.l _ _ = _ at h1
    rw [h1] at k1
    rw [← hl] at hc0 h1 ⊢
    rw [← hl] at k1 k2
    clear h1 hmax hLv hG h ho hl hp2 hW
    generalize x.last / K.a = A at *
    generalize cel (sel K.a K.x A es i j) = C1 at *
    refine Ct.enterV (by rfl) Tryz.func28 rfl Tryz.ntmps28 rfl (fun w0 Rest => ?_)
    (repeat' (first | refine zss ?_ | ((first | (with_reducible first | apply At.val | apply AtQ.val)); (first | exact pr_indexArr (k := 0) (by rfl) (by rfl) (by rfl) (by rfl) (by decide) | exact pr_quo (by rfl) (by rfl) hW0 hq1); exact rfl) | refine zsM ?_ | ((with_reducible first | apply AtM1.cr | apply AtQ.cr | apply At.cr); exact rfl; exact rfl; exact fun _ hmm => k1 _ zml; exact ztk; kernel_rfl) | fail | ((with_reducible apply At.alloc (d := 8)); exact rfl; exact rfl; intro b8) | ((with_reducible apply At.alloc (d := 11)); exact rfl; exact rfl; intro b11) | ((with_reducible apply At.alloc (d := 13)); exact rfl; exact rfl; intro b13) | (refine zsp ?_ ?_ <;> (intro hc; (try simp only [zhcs, reduceCtorEq] at hc); (try (exfalso; first | omega | contradiction | omega | exact absurd rfl hc | exact absurd (by decide) hc))))))
    all_goals ((with_reducible apply At.retV (B := kb q K x)); exact rfl; (repeat' (first | exact RVs.nil | (with_reducible apply RVs.cons) | exact rv_tmp (by rfl) | exact rv_cellN (by rfl) (by repeat constructor) (by rfl) (by rfl) (by rfl) | exact rv_cell1 (by rfl) (by repeat constructor) (by rfl) (by rfl))); exact zml; exact zkp; exact ⟨rfl, rfl, rfl⟩)
  obtain ⟨c, h1, h2⟩ := span_yes hLv hG hW.1 hi hij hmax (by omega)
  change foldC x.t0.l _ _ = _ at h1
  have hci : Cell.In c := by
    have := foldC_in ho.i0 i j
    rw [h1] at this
    exact this
  have k3 := Cell.merge c (G K.a es (lastT es / K.a)) hci (G_in hG)
  rw [h2] at k3
  rw [h1] at k1
  rw [← hl] at hc0 ⊢
  rw [← hl] at k2 k3
  clear h1 h2 hci hmax hLv hG h ho hl hp2 hW
  generalize x.last / K.a = A at *
  generalize cel (sel K.a K.x A es i j) = C1 at *
  generalize G K.a es A = C2 at *
  refine Ct.enterV (by rfl) Tryz.func28 rfl Tryz.ntmps28 rfl (fun w0 Rest => ?_)
  (repeat' (first | refine zss ?_ | ((first | (with_reducible first | apply At.val | apply AtQ.val)); (first | exact pr_indexArr (k := 0) (by rfl) (by rfl) (by rfl) (by rfl) (by decide) | exact pr_quo (by rfl) (by rfl) hW0 hq1); exact rfl) | refine zsM ?_ | ((with_reducible first | apply AtM1.cr | apply AtQ.cr | apply At.cr); exact rfl; exact rfl; exact fun _ hmm => k1 _ zml; exact ztk; kernel_rfl) | ((with_reducible first | apply At.c1 | apply At.c0); exact rfl; exact rfl; exact k2 _ zml; exact ztk; kernel_rfl; rintro v' m' B' hm' ⟨rfl, rfl, rfl⟩; skip; (try (have hq0 : hm' = Mem.le_refl _ := rfl; clear hq0 hm'))) | ((with_reducible first | apply AtM1.callp | apply AtQ.callp | apply At.callp); kernel_rfl; exact rfl; exact rfl; exact k3) | fail | ((with_reducible apply At.alloc (d := 8)); exact rfl; exact rfl; intro b8) | ((with_reducible apply At.alloc (d := 11)); exact rfl; exact rfl; intro b11) | ((with_reducible apply At.alloc (d := 13)); exact rfl; exact rfl; intro b13) | (refine zsp ?_ ?_ <;> (intro hc; (try simp only [zhcs, reduceCtorEq] at hc); (try (exfalso; first | omega | contradiction | omega | exact absurd rfl hc | exact absurd (by decide) hc))))))
  all_goals ((with_reducible apply At.retV (B := kb q K x)); exact rfl; (repeat' (first | exact RVs.nil | (with_reducible apply RVs.cons) | exact rv_tmp (by rfl) | exact rv_cellN (by rfl) (by repeat constructor) (by rfl) (by rfl) (by rfl) | exact rv_cell1 (by rfl) (by repeat constructor) (by rfl) (by rfl))); exact zml; exact zkp; exact ⟨rfl, rfl, rfl⟩)
theorem range0 {m : Mem} (K : Cfg) (x : Ser) (es : List Ev) (i j : Int) (h : SI K es x) (ho : x.Ok m) (hi : 0 ≤ i) (hij : i ≤ j) :
    Rd Tryz.prog 9 #[K.v, x.v, .int .i64 0, .int .i64 i, .int .i64 j] m [] (.tuple #[(rg K es 0 i j).v, .int .i64 0]) := by
  unfold Rd
  have k0 := fun (m' : Mem) (hm : m.le m') => openY h (ho.mono hm)
  have k1 := fun (m' : Mem) (q : Nat) (hm : m.le m') => span0 (m := m') q K x es i j h (ho.mono hm) hi hij
  clear h ho
  refine Ct.enterV (by rfl) Tryz.func9 rfl Tryz.ntmps9 rfl (fun w0 Rest => ?_)
  (repeat' (first | refine zss ?_ | refine zsM ?_ | ((with_reducible first | apply At.c1 | apply At.c0); exact rfl; exact rfl; exact k0 _ zml; exact ztk; kernel_rfl; rintro v' m' B' hm' ⟨rfl, q, rfl, rfl⟩; skip; (try (have hq0 : hm' = Mem.le_refl _ := rfl; clear hq0 hm'))) | ((with_reducible first | apply At.c1 | apply At.c0); exact rfl; exact rfl; exact k1 _ q zml; exact ztk; kernel_rfl; rintro v' m' B' hm' ⟨rfl, rfl, rfl⟩; skip; (try (have hq0 : hm' = Mem.le_refl _ := rfl; clear hq0 hm'))) | ((with_reducible apply At.box (d := 5)); exact rfl; exact rfl; exact rfl; intro b5) | ((with_reducible apply At.box (d := 6)); exact rfl; exact rfl; exact rfl; intro b6) | ((with_reducible apply At.alloc (d := 10)); exact rfl; exact rfl; intro b10) | (refine zsp ?_ ?_ <;> (intro hc; (try simp only [zhcs, reduceCtorEq] at hc); (try (exfalso; first | omega | contradiction | omega | exact absurd rfl hc | exact absurd (by decide) hc))))))
  all_goals ((with_reducible apply At.retV (B := [])); exact rfl; (repeat' (first | exact RVs.nil | (with_reducible apply RVs.cons) | exact rv_tmp (by rfl) | exact rv_cellN (by rfl) (by repeat constructor) (by rfl) (by rfl) (by rfl) | exact rv_cell1 (by rfl) (by repeat constructor) (by rfl) (by rfl))); exact zml; exact zkp; exact ⟨rfl, rfl, rfl⟩)
theorem cell0 {m : Mem} (K : Cfg) (x : Ser) (es : List Ev) (i : Int) (h : SI K es x) (ho : x.Ok m) (hi : 0 ≤ i ∧ i ≤ 9223372036854775807) (hk : lastT es / K.a - K.x ≤ i) :
    Rd Tryz.prog 24 #[K.v, x.v, .int .i64 0, .int .i64 i] m [] (.tuple #[(G K.a es i).v, .int .i64 0]) := by
  unfold Rd
  have k0 := fun (m' : Mem) (hm : m.le m') => openY h (ho.mono hm)
  by_cases hn : es = []
  · have hl : x.last = -1 := h.last.trans (if_pos hn)
    have e : G K.a es i = Cell.z := by subst hn; rfl
    rw [e]
    clear h ho e
    refine Ct.enterV (by rfl) Tryz.func24 rfl Tryz.ntmps24 rfl (fun w0 Rest => ?_)
    (repeat' (first | refine zss ?_ | refine zsM ?_ | ((with_reducible first | apply At.c1 | apply At.c0); exact rfl; exact rfl; exact k0 _ zml; exact ztk; kernel_rfl; rintro v' m' B' hm' ⟨rfl, q, rfl, rfl⟩; skip; (try (have hq0 : hm' = Mem.le_refl _ := rfl; clear hq0 hm'))) | ((with_reducible apply At.box (d := 4)); exact rfl; exact rfl; exact rfl; intro b4) | ((with_reducible apply At.box (d := 5)); exact rfl; exact rfl; exact rfl; intro b5) | ((with_reducible apply At.alloc (d := 8)); exact rfl; exact rfl; intro b8) | (refine zsp ?_ ?_ <;> (intro hc; (try simp only [zhcs, reduceCtorEq] at hc); (try (exfalso; first | omega | contradiction | omega | exact absurd rfl hc | exact absurd (by decide) hc))))))
    all_goals ((with_reducible apply At.retV (B := [])); exact rfl; (repeat' (first | exact RVs.nil | (with_reducible apply RVs.cons) | exact rv_tmp (by rfl) | exact rv_cellN (by rfl) (by repeat constructor) (by rfl) (by rfl) (by rfl) | exact rv_cell1 (by rfl) (by repeat constructor) (by rfl) (by rfl))); exact zml; exact zkp; exact ⟨congrArg (fun v => Value.tuple #[v, .int .i64 0]) Cell.zv, rfl, rfl⟩)
  obtain ⟨hl, hp1, hp2⟩ := h.pos hn
  have hG := h.inv.g
  have hW := h.inv.ok.ha
  have hLv := h.inv.a
  have hmax := fun e he => le_win (w := K.a) hG hW.1 (e := e) he
  have hq1 : IntKind.wrap .i64 (x.last.tdiv K.a) = x.last / K.a := quo_nn (by omega) hW.1
  have hW0 : K.a ≠ 0 := by omega
  by_cases h1 : lastT es / K.a < i
  · have e : G K.a es i = Cell.z := by
      have : win K.a i es = [] := by
        unfold win
        rw [List.filter_eq_nil_iff]
        intro e he
        have := hmax e he
        rw [decide_eq_true_eq]
        omega
      unfold G
      rw [this]
      rfl
    rw [e]
    rw [← hl] at h1
    clear e hmax hLv hG h ho hl hp1 hp2 hW hk
    generalize x.last / K.a = A at *
    refine Ct.enterV (by rfl) Tryz.func24 rfl Tryz.ntmps24 rfl (fun w0 Rest => ?_)
    (repeat' (first | refine zss ?_ | ((first | (with_reducible first | apply At.val | apply AtQ.val)); (first | exact pr_indexArr (k := 0) (by rfl) (by rfl) (by rfl) (by rfl) (by decide) | exact pr_quo (by rfl) (by rfl) hW0 hq1); exact rfl) | refine zsM ?_ | ((with_reducible first | apply At.c1 | apply At.c0); exact rfl; exact rfl; exact k0 _ zml; exact ztk; kernel_rfl; rintro v' m' B' hm' ⟨rfl, q, rfl, rfl⟩; skip; (try (have hq0 : hm' = Mem.le_refl _ := rfl; clear hq0 hm'))) | ((with_reducible apply At.box (d := 4)); exact rfl; exact rfl; exact rfl; intro b4) | ((with_reducible apply At.box (d := 5)); exact rfl; exact rfl; exact rfl; intro b5) | ((with_reducible apply At.alloc (d := 8)); exact rfl; exact rfl; intro b8) | (refine zsp ?_ ?_ <;> (intro hc; (try simp only [zhcs, reduceCtorEq] at hc); (try (exfalso; first | omega | contradiction | omega | exact absurd rfl hc | exact absurd (by decide) hc))))))
    all_goals ((with_reducible apply At.retV (B := [])); exact rfl; (repeat' (first | exact RVs.nil | (with_reducible apply RVs.cons) | exact rv_tmp (by rfl) | exact rv_cellN (by rfl) (by repeat constructor) (by rfl) (by rfl) (by rfl) | exact rv_cell1 (by rfl) (by repeat constructor) (by rfl) (by rfl))); exact zml; exact zkp; exact ⟨congrArg (fun v => Value.tuple #[v, .int .i64 0]) Cell.zv, rfl, rfl⟩)
  by_cases h2 : i = lastT es / K.a
  · have k2 := fun (m' : Mem) (q : Nat) (hm : m.le m') => now0 (m := m') q K x es h hn
    rw [← h2] at k2
    rw [← hl] at h1 h2
    clear hmax hLv hG h ho hl hp2 hW hk
    generalize x.last / K.a = A at *
    generalize G K.a es i = C2 at *
    refine Ct.enterV (by rfl) Tryz.func24 rfl Tryz.ntmps24 rfl (fun w0 Rest => ?_)
    (repeat' (first | refine zss ?_ | ((first | (with_reducible first | apply At.val | apply AtQ.val)); (first | exact pr_indexArr (k := 0) (by rfl) (by rfl) (by rfl) (by rfl) (by decide) | exact pr_quo (by rfl) (by rfl) hW0 hq1); exact rfl) | refine zsM ?_ | ((with_reducible first | apply At.c1 | apply At.c0); exact rfl; exact rfl; exact k0 _ zml; exact ztk; kernel_rfl; rintro v' m' B' hm' ⟨rfl, q, rfl, rfl⟩; skip; (try (have hq0 : hm' = Mem.le_refl _ := rfl; clear hq0 hm'))) | ((with_reducible first | apply At.c1 | apply At.c0); exact rfl; exact rfl; exact k2 _ q zml; exact ztk; kernel_rfl; rintro v' m' B' hm' ⟨rfl, rfl, rfl⟩; skip; (try (have hq0 : hm' = Mem.le_refl _ := rfl; clear hq0 hm'))) | ((with_reducible apply At.box (d := 4)); exact rfl; exact rfl; exact rfl; intro b4) | ((with_reducible apply At.box (d := 5)); exact rfl; exact rfl; exact rfl; intro b5) | ((with_reducible apply At.alloc (d := 8)); exact rfl; exact rfl; intro b8) | (refine zsp ?_ ?_ <;> (intro hc; (try simp only [zhcs, reduceCtorEq] at hc); (try (exfalso; first | (first | omega | exact absurd h2 hc) | contradiction | omega | exact absurd rfl hc | exact absurd (by decide) hc))))))
    all_goals ((with_reducible apply At.retV (B := [])); exact rfl; (repeat' (first | exact RVs.nil | (with_reducible apply RVs.cons) | exact rv_tmp (by rfl) | exact rv_cellN (by rfl) (by repeat constructor) (by rfl) (by rfl) (by rfl) | exact rv_cell1 (by rfl) (by repeat constructor) (by rfl) (by rfl))); exact zml; exact zkp; exact ⟨rfl, rfl, rfl⟩)
  have k3 := fun (m' : Mem) (hm : m.le m') => get_ (m := m') x.t0.p x.t0.c x.t0.l i (by omega) ho.n0 (ho.s0.mono hm)
  have h3 := getC_lv hLv hG hi.1 hk (by omega)
  change getC x.t0.l i = _ at h3
  rw [h3] at k3
  rw [← hl] at h1 h2
  clear h3 hmax hLv hG h ho hl hp2 hW hk
  generalize x.last / K.a = A at *
  generalize G K.a es i = C2 at *
  refine Ct.enterV (by rfl) Tryz.func24 rfl Tryz.ntmps24 rfl (fun w0 Rest => ?_)
  (repeat' (first | refine zss ?_ | ((first | (with_reducible first | apply At.val | apply AtQ.val)); (first | exact pr_indexArr (k := 0) (by rfl) (by rfl) (by rfl) (by rfl) (by decide) | exact pr_quo (by rfl) (by rfl) hW0 hq1); exact rfl) | refine zsM ?_ | ((with_reducible first | apply At.c1 | apply At.c0); exact rfl; exact rfl; exact k0 _ zml; exact ztk; kernel_rfl; rintro v' m' B' hm' ⟨rfl, q, rfl, rfl⟩; skip; (try (have hq0 : hm' = Mem.le_refl _ := rfl; clear hq0 hm'))) | ((with_reducible first | apply AtM1.cr | apply AtQ.cr | apply At.cr); exact rfl; exact rfl; exact fun _ hmm => k3 _ zml; exact ztk; kernel_rfl) | ((with_reducible apply At.box (d := 4)); exact rfl; exact rfl; exact rfl; intro b4) | ((with_reducible apply At.box (d := 5)); exact rfl; exact rfl; exact rfl; intro b5) | ((with_reducible apply At.alloc (d := 8)); exact rfl; exact rfl; intro b8) | (refine zsp ?_ ?_ <;> (intro hc; (try simp only [zhcs, reduceCtorEq] at hc); (try (exfalso; first | (first | omega | exact absurd hc h2) | contradiction | omega | exact absurd rfl hc | exact absurd (by decide) hc))))))
  all_goals ((with_reducible apply At.retV (B := [])); exact rfl; (repeat' (first | exact RVs.nil | (with_reducible apply RVs.cons) | exact rv_tmp (by rfl) | exact rv_cellN (by rfl) (by repeat constructor) (by rfl) (by rfl) (by rfl) | exact rv_cell1 (by rfl) (by repeat constructor) (by rfl) (by rfl))); exact zml; exact zkp; exact ⟨rfl, rfl, rfl⟩)
theorem span1 {m : Mem} (q : Nat) (K : Cfg) (x : Ser) (es : List Ev) (i j : Int) (h : SI K es x) (ho : x.Ok m) (hi : 0 ≤ i) (hij : i ≤ j) :
    Ct Tryz.prog 28 #[pt q, .int .i64 1, .int .i64 i, .int .i64 j] m (kb q K x) (Post q K x m (rg K es 1 i j)) := by
  by_cases hn : es = []
  · have hl : x.last = -1 := h.last.trans (if_pos hn)
    have e : rg K es 1 i j = Cell.z := by subst hn; rfl
    rw [e]
    clear h ho e
    refine Ct.enterV (by rfl) Tryz.func28 rfl Tryz.ntmps28 rfl (fun w0 Rest => ?_)
    (repeat' (first | refine zss ?_ | refine zsM ?_ | ((with_reducible apply At.alloc (d := 8)); exact rfl; exact rfl; intro b8) | ((with_reducible apply At.alloc (d := 11)); exact rfl; exact rfl; intro b11) | ((with_reducible apply At.alloc (d := 13)); exact rfl; exact rfl; intro b13) | (refine zsp ?_ ?_ <;> (intro hc; (try simp only [zhcs, reduceCtorEq] at hc); (try (exfalso; first | omega | contradiction | omega | exact absurd rfl hc | exact absurd (by decide) hc))))))
    all_goals ((with_reducible apply At.retV (B := kb q K x)); exact rfl; (repeat' (first | exact RVs.nil | (with_reducible apply RVs.cons) | exact rv_tmp (by rfl) | exact rv_cellN (by rfl) (by repeat constructor) (by rfl) (by rfl) (by rfl) | exact rv_cell1 (by rfl) (by repeat constructor) (by rfl) (by rfl))); exact zml; exact zkp; exact ⟨congrArg (fun v => Value.tuple #[v, .int .i64 0]) Cell.zv, rfl, rfl⟩)
  obtain ⟨hl, hp1, hp2⟩ := h.pos hn
  have hG := h.inv.g
  have hW := h.inv.ok.hb
  have hLv := h.inv.b
  have hmax := fun e he => le_win (w := K.b) hG hW.1 (e := e) he
  have hq1 : IntKind.wrap .i64 (x.last.tdiv K.b) = x.last / K.b := quo_nn (by omega) hW.1
  have hW0 : K.b ≠ 0 := by omega
  show Ct _ _ _ _ _ (Post q K x m (cel (sel K.b K.y (lastT es / K.b) es i j)))
  have k1 := fun (m' : Mem) (hm : m.le m') => fold_ (m := m') x.t1.p x.t1.c x.t1.l i j (ho.i1) (okT_dis hLv.ok) ho.n1 (ho.s1.mono hm)
  have k2 := fun (m' : Mem) (hm : m.le m') => now1 (m := m') q K x es h (ho.mono hm) hn
  by_cases hc0 : lastT es / K.b < i ∨ j ≤ lastT es / K.b
  · have h1 := span_no hLv hG hW.1 hi hij hmax hc0
    change foldC x.t1.l _ _ = _ at h1
    rw [h1] at k1
    rw [← hl] at hc0 h1 ⊢
    rw [← hl] at k1 k2
    clear h1 hmax hLv hG h ho hl hp2 hW
    generalize x.last / K.b = A at *
    generalize cel (sel K.b K.y A es i j) = C1 at *
    refine Ct.enterV (by rfl) Tryz.func28 rfl Tryz.ntmps28 rfl (fun w0 Rest => ?_)
    (repeat' (first | refine zss ?_ | ((first | (with_reducible first | apply At.val | apply AtQ.val)); (first | exact pr_indexArr (k := 1) (by rfl) (by rfl) (by rfl) (by rfl) (by decide) | exact pr_quo (by rfl) (by rfl) hW0 hq1); exact rfl) | refine zsM ?_ | ((with_reducible first | apply AtM1.cr | apply AtQ.cr | apply At.cr); exact rfl; exact rfl; exact fun _ hmm => k1 _ zml; exact ztk; kernel_rfl) | fail | ((with_reducible apply At.alloc (d := 8)); exact rfl; exact rfl; intro b8) | ((with_reducible apply At.alloc (d := 11)); exact rfl; exact rfl; intro b11) | ((with_reducible apply At.alloc (d := 13)); exact rfl; exact rfl; intro b13) | (refine zsp ?_ ?_ <;> (intro hc; (try simp only [zhcs, reduceCtorEq] at hc); (try (exfalso; first | omega | contradiction | omega | exact absurd rfl hc | exact absurd (by decide) hc))))))
    all_goals ((with_reducible apply At.retV (B := kb q K x)); exact rfl; (repeat' (first | exact RVs.nil | (with_reducible apply RVs.cons) | exact rv_tmp (by rfl) | exact rv_cellN (by rfl) (by repeat constructor) (by rfl) (by rfl) (by rfl) | exact rv_cell1 (by rfl) (by repeat constructor) (by rfl) (by rfl))); exact zml; exact zkp; exact ⟨rfl, rfl, rfl⟩)
  obtain ⟨c, h1, h2⟩ := span_yes hLv hG hW.1 hi hij hmax (by omega)
  change foldC x.t1.l _ _ = _ at h1
  have hci : Cell.In c := by
    have := foldC_in ho.i1 i j
    rw [h1] at this
    exact this
  have k3 := Cell.merge c (G K.b es (lastT es / K.b)) hci (G_in hG)
  rw [h2] at k3
  rw [h1] at k1
  rw [← hl] at hc0 ⊢
  rw [← hl] at k2 k3
  clear h1 h2 hci hmax hLv hG h ho hl hp2 hW
  generalize x.last / K.b = A at *
  generalize cel (sel K.b K.y A es i j) = C1 at *
  generalize G K.b es A = C2 at *
  refine Ct.enterV (by rfl) Tryz.func28 rfl Tryz.ntmps28 rfl (fun w0 Rest => ?_)
  (repeat' (first | refine zss ?_ | ((first | (with_reducible first | apply At.val | apply AtQ.val)); (first | exact pr_indexArr (k := 1) (by rfl) (by rfl) (by rfl) (by rfl) (by decide) | exact pr_quo (by rfl) (by rfl) hW0 hq1); exact rfl) | refine zsM ?_ | ((with_reducible first | apply AtM1.cr | apply AtQ.cr | apply At.cr); exact rfl; exact rfl; exact fun _ hmm => k1 _ zml; exact ztk; kernel_rfl) | ((with_reducible first | apply At.c1 | apply At.c0); exact rfl; exact rfl; exact k2 _ zml; exact ztk; kernel_rfl; rintro v' m' B' hm' ⟨rfl, rfl, rfl⟩; skip; (try (have hq0 : hm' = Mem.le_refl _ := rfl; clear hq0 hm'))) | ((with_reducible first | apply AtM1.callp | apply AtQ.callp | apply At.callp); kernel_rfl; exact rfl; exact rfl; exact k3) | fail | ((with_reducible apply At.alloc (d := 8)); exact rfl; exact rfl; intro b8) | ((with_reducible apply At.alloc (d := 11)); exact rfl; exact rfl; intro b11) | ((with_reducible apply At.alloc (d := 13)); exact rfl; exact rfl; intro b13) | (refine zsp ?_ ?_ <;> (intro hc; (try simp only [zhcs, reduceCtorEq] at hc); (try (exfalso; first | omega | contradiction | omega | exact absurd rfl hc | exact absurd (by decide) hc))))))
  all_goals ((with_reducible apply At.retV (B := kb q K x)); exact rfl; (repeat' (first | exact RVs.nil | (with_reducible apply RVs.cons) | exact rv_tmp (by rfl) | exact rv_cellN (by rfl) (by repeat constructor) (by rfl) (by rfl) (by rfl) | exact rv_cell1 (by rfl) (by repeat constructor) (by rfl) (by rfl))); exact zml; exact zkp; exact ⟨rfl, rfl, rfl⟩)
theorem range1 {m : Mem} (K : Cfg) (x : Ser) (es : List Ev) (i j : Int) (h : SI K es x) (ho : x.Ok m) (hi : 0 ≤ i) (hij : i ≤ j) :
    Rd Tryz.prog 9 #[K.v, x.v, .int .i64 1, .int .i64 i, .int .i64 j] m [] (.tuple #[(rg K es 1 i j).v, .int .i64 0]) := by
  unfold Rd
  have k0 := fun (m' : Mem) (hm : m.le m') => openY h (ho.mono hm)
  have k1 := fun (m' : Mem) (q : Nat) (hm : m.le m') => span1 (m := m') q K x es i j h (ho.mono hm) hi hij
  clear h ho
  refine Ct.enterV (by rfl) Tryz.func9 rfl Tryz.ntmps9 rfl (fun w0 Rest => ?_)
  (repeat' (first | refine zss ?_ | refine zsM ?_ | ((with_reducible first | apply At.c1 | apply At.c0); exact rfl; exact rfl; exact k0 _ zml; exact ztk; kernel_rfl; rintro v' m' B' hm' ⟨rfl, q, rfl, rfl⟩; skip; (try (have hq0 : hm' = Mem.le_refl _ := rfl; clear hq0 hm'))) | ((with_reducible first | apply At.c1 | apply At.c0); exact rfl; exact rfl; exact k1 _ q zml; exact ztk; kernel_rfl; rintro v' m' B' hm' ⟨rfl, rfl, rfl⟩; skip; (try (have hq0 : hm' = Mem.le_refl _ := rfl; clear hq0 hm'))) | ((with_reducible apply At.box (d := 5)); exact rfl; exact rfl; exact rfl; intro b5) | ((with_reducible apply At.box (d := 6)); exact rfl; exact rfl; exact rfl; intro b6) | ((with_reducible apply At.alloc (d := 10)); exact rfl; exact rfl; intro b10) | (refine zsp ?_ ?_ <;> (intro hc; (try simp only [zhcs, reduceCtorEq] at hc); (try (exfalso; first | omega | contradiction | omega | exact absurd rfl hc | exact absurd (by decide) hc))))))
  all_goals ((with_reducible apply At.retV (B := [])); exact rfl; (repeat' (first | exact RVs.nil | (with_reducible apply RVs.cons) | exact rv_tmp (by rfl) | exact rv_cellN (by rfl) (by repeat constructor) (by rfl) (by rfl) (by rfl) | exact rv_cell1 (by rfl) (by repeat constructor) (by rfl) (by rfl))); exact zml; exact zkp; exact ⟨rfl, rfl, rfl⟩)
theorem cell1 {m : Mem} (K : Cfg) (x : Ser) (es : List Ev) (i : Int) (h : SI K es x) (ho : x.Ok m) (hi : 0 ≤ i ∧ i ≤ 9223372036854775807) (hk : lastT es / K.b - K.y ≤ i) :
    Rd Tryz.prog 24 #[K.v, x.v, .int .i64 1, .int .i64 i] m [] (.tuple #[(G K.b es i).v, .int .i64 0]) := by
  unfold Rd
  have k0 := fun (m' : Mem) (hm : m.le m') => openY h (ho.mono hm)
  by_cases hn : es = []
  · have hl : x.last = -1 := h.last.trans (if_pos hn)
    have e : G K.b es i = Cell.z := by subst hn; rfl
    rw [e]
    clear h ho e
    refine Ct.enterV (by rfl) Tryz.func24 rfl Tryz.ntmps24 rfl (fun w0 Rest => ?_)
    (repeat' (first | refine zss ?_ | refine zsM ?_ | ((with_reducible first | apply At.c1 | apply At.c0); exact rfl; exact rfl; exact k0 _ zml; exact ztk; kernel_rfl; rintro v' m' B' hm' ⟨rfl, q, rfl, rfl⟩; skip; (try (have hq0 : hm' = Mem.le_refl _ := rfl; clear hq0 hm'))) | ((with_reducible apply At.box (d := 4)); exact rfl; exact rfl; exact rfl; intro b4) | ((with_reducible apply At.box (d := 5)); exact rfl; exact rfl; exact rfl; intro b5) | ((with_reducible apply At.alloc (d := 8)); exact rfl; exact rfl; intro b8) | (refine zsp ?_ ?_ <;> (intro hc; (try simp only [zhcs, reduceCtorEq] at hc); (try (exfalso; first | omega | contradiction | omega | exact absurd rfl hc | exact absurd (by decide) hc))))))
    all_goals ((with_reducible apply At.retV (B := [])); exact rfl; (repeat' (first | exact RVs.nil | (with_reducible apply RVs.cons) | exact rv_tmp (by rfl) | exact rv_cellN (by rfl) (by repeat constructor) (by rfl) (by rfl) (by rfl) | exact rv_cell1 (by rfl) (by repeat constructor) (by rfl) (by rfl))); exact zml; exact zkp; exact ⟨congrArg (fun v => Value.tuple #[v, .int .i64 0]) Cell.zv, rfl, rfl⟩)
  obtain ⟨hl, hp1, hp2⟩ := h.pos hn
  have hG := h.inv.g
  have hW := h.inv.ok.hb
  have hLv := h.inv.b
  have hmax := fun e he => le_win (w := K.b) hG hW.1 (e := e) he
  have hq1 : IntKind.wrap .i64 (x.last.tdiv K.b) = x.last / K.b := quo_nn (by omega) hW.1
  have hW0 : K.b ≠ 0 := by omega
  by_cases h1 : lastT es / K.b < i
  · have e : G K.b es i = Cell.z := by
      have : win K.b i es = [] := by
        unfold win
        rw [List.filter_eq_nil_iff]
        intro e he
        have := hmax e he
        rw [decide_eq_true_eq]
        omega
      unfold G
      rw [this]
      rfl
    rw [e]
    rw [← hl] at h1
    clear e hmax hLv hG h ho hl hp1 hp2 hW hk
    generalize x.last / K.b = A at *
    refine Ct.enterV (by rfl) Tryz.func24 rfl Tryz.ntmps24 rfl (fun w0 Rest => ?_)
    (repeat' (first | refine zss ?_ | ((first | (with_reducible first | apply At.val | apply AtQ.val)); (first | exact pr_indexArr (k := 1) (by rfl) (by rfl) (by rfl) (by rfl) (by decide) | exact pr_quo (by rfl) (by rfl) hW0 hq1); exact rfl) | refine zsM ?_ | ((with_reducible first | apply At.c1 | apply At.c0); exact rfl; exact rfl; exact k0 _ zml; exact ztk; kernel_rfl; rintro v' m' B' hm' ⟨rfl, q, rfl, rfl⟩; skip; (try (have hq0 : hm' = Mem.le_refl _ := rfl; clear hq0 hm'))) | ((with_reducible apply At.box (d := 4)); exact rfl; exact rfl; exact rfl; intro b4) | ((with_reducible apply At.box (d := 5)); exact rfl; exact rfl; exact rfl; intro b5) | ((with_reducible apply At.alloc (d := 8)); exact rfl; exact rfl; intro b8) | (refine zsp ?_ ?_ <;> (intro hc; (try simp only [zhcs, reduceCtorEq] at hc); (try (exfalso; first | omega | contradiction | omega | exact absurd rfl hc | exact absurd (by decide) hc))))))
    all_goals ((with_reducible apply At.retV (B := [])); exact rfl; (repeat' (first | exact RVs.nil | (with_reducible apply RVs.cons) | exact rv_tmp (by rfl) | exact rv_cellN (by rfl) (by repeat constructor) (by rfl) (by rfl) (by rfl) | exact rv_cell1 (by rfl) (by repeat constructor) (by rfl) (by rfl))); exact zml; exact zkp; exact ⟨congrArg (fun v => Value.tuple #[v, .int .i64 0]) Cell.zv, rfl, rfl⟩)
  by_cases h2 : i = lastT es / K.b
  · have k2 := fun (m' : Mem) (q : Nat) (hm : m.le m') => now1 (m := m') q K x es h (ho.mono hm) hn
    rw [← h2] at k2
    rw [← hl] at h1 h2
    clear hmax hLv hG h ho hl hp2 hW hk
    generalize x.last / K.b = A at *
    generalize G K.b es i = C2 at *
    refine Ct.enterV (by rfl) Tryz.func24 rfl Tryz.ntmps24 rfl (fun w0 Rest => ?_)
    (repeat' (first | refine zss ?_ | ((first | (with_reducible first | apply At.val | apply AtQ.val)); (first | exact pr_indexArr (k := 1) (by rfl) (by rfl) (by rfl) (by rfl) (by decide) | exact pr_quo (by rfl) (by rfl) hW0 hq1); exact rfl) | refine zsM ?_ | ((with_reducible first | apply At.c1 | apply At.c0); exact rfl; exact rfl; exact k0 _ zml; exact ztk; kernel_rfl; rintro v' m' B' hm' ⟨rfl, q, rfl, rfl⟩; skip; (try (have hq0 : hm' = Mem.le_refl _ := rfl; clear hq0 hm'))) | ((with_reducible first | apply At.c1 | apply At.c0); exact rfl; exact rfl; exact k2 _ q zml; exact ztk; kernel_rfl; rintro v' m' B' hm' ⟨rfl, rfl, rfl⟩; skip; (try (have hq0 : hm' = Mem.le_refl _ := rfl; clear hq0 hm'))) | ((with_reducible apply At.box (d := 4)); exact rfl; exact rfl; exact rfl; intro b4) | ((with_reducible apply At.box (d := 5)); exact rfl; exact rfl; exact rfl; intro b5) | ((with_reducible apply At.alloc (d := 8)); exact rfl; exact rfl; intro b8) | (refine zsp ?_ ?_ <;> (intro hc; (try simp only [zhcs, reduceCtorEq] at hc); (try (exfalso; first | (first | omega | exact absurd h2 hc) | contradiction | omega | exact absurd rfl hc | exact absurd (by decide) hc))))))
    all_goals ((with_reducible apply At.retV (B := [])); exact rfl; (repeat' (first | exact RVs.nil | (with_reducible apply RVs.cons) | exact rv_tmp (by rfl) | exact rv_cellN (by rfl) (by repeat constructor) (by rfl) (by rfl) (by rfl) | exact rv_cell1 (by rfl) (by repeat constructor) (by rfl) (by rfl))); exact zml; exact zkp; exact ⟨rfl, rfl, rfl⟩)
  have k3 := fun (m' : Mem) (hm : m.le m') => get_ (m := m') x.t1.p x.t1.c x.t1.l i (by omega) ho.n1 (ho.s1.mono hm)
  have h3 := getC_lv hLv hG hi.1 hk (by omega)
  change getC x.t1.l i = _ at h3
  rw [h3] at k3
  rw [← hl] at h1 h2
  clear h3 hmax hLv hG h ho hl hp2 hW hk
  generalize x.last / K.b = A at *
  generalize G K.b es i = C2 at *
  refine Ct.enterV (by rfl) Tryz.func24 rfl Tryz.ntmps24 rfl (fun w0 Rest => ?_)
  (repeat' (first | refine zss ?_ | ((first | (with_reducible first | apply At.val | apply AtQ.val)); (first | exact pr_indexArr (k := 1) (by rfl) (by rfl) (by rfl) (by rfl) (by decide) | exact pr_quo (by rfl) (by rfl) hW0 hq1); exact rfl) | refine zsM ?_ | ((with_reducible first | apply At.c1 | apply At.c0); exact rfl; exact rfl; exact k0 _ zml; exact ztk; kernel_rfl; rintro v' m' B' hm' ⟨rfl, q, rfl, rfl⟩; skip; (try (have hq0 : hm' = Mem.le_refl _ := rfl; clear hq0 hm'))) | ((with_reducible first | apply AtM1.cr | apply AtQ.cr | apply At.cr); exact rfl; exact rfl; exact fun _ hmm => k3 _ zml; exact ztk; kernel_rfl) | ((with_reducible apply At.box (d := 4)); exact rfl; exact rfl; exact rfl; intro b4) | ((with_reducible apply At.box (d := 5)); exact rfl; exact rfl; exact rfl; intro b5) | ((with_reducible apply At.alloc (d := 8)); exact rfl; exact rfl; intro b8) | (refine zsp ?_ ?_ <;> (intro hc; (try simp only [zhcs, reduceCtorEq] at hc); (try (exfalso; first | (first | omega | exact absurd hc h2) | contradiction | omega | exact absurd rfl hc | exact absurd (by decide) hc))))))
  all_goals ((with_reducible apply At.retV (B := [])); exact rfl; (repeat' (first | exact RVs.nil | (with_reducible apply RVs.cons) | exact rv_tmp (by rfl) | exact rv_cellN (by rfl) (by repeat constructor) (by rfl) (by rfl) (by rfl) | exact rv_cell1 (by rfl) (by repeat constructor) (by rfl) (by rfl))); exact zml; exact zkp; exact ⟨rfl, rfl, rfl⟩)
theorem span2 {m : Mem} (q : Nat) (K : Cfg) (x : Ser) (es : List Ev) (i j : Int) (h : SI K es x) (ho : x.Ok m) (hi : 0 ≤ i) (hij : i ≤ j) :
    Ct Tryz.prog 28 #[pt q, .int .i64 2, .int .i64 i, .int .i64 j] m (kb q K x) (Post q K x m (rg K es 2 i j)) := by
  by_cases hn : es = []
  · have hl : x.last = -1 := h.last.trans (if_pos hn)
    have e : rg K es 2 i j = Cell.z := by subst hn; rfl
    rw [e]
    clear h ho e
    refine Ct.enterV (by rfl) Tryz.func28 rfl Tryz.ntmps28 rfl (fun w0 Rest => ?_)
    (repeat' (first | refine zss ?_ | refine zsM ?_ | ((with_reducible apply At.alloc (d := 8)); exact rfl; exact rfl; intro b8) | ((with_reducible apply At.alloc (d := 11)); exact rfl; exact rfl; intro b11) | ((with_reducible apply At.alloc (d := 13)); exact rfl; exact rfl; intro b13) | (refine zsp ?_ ?_ <;> (intro hc; (try simp only [zhcs, reduceCtorEq] at hc); (try (exfalso; first | omega | contradiction | omega | exact absurd rfl hc | exact absurd (by decide) hc))))))
    all_goals ((with_reducible apply At.retV (B := kb q K x)); exact rfl; (repeat' (first | exact RVs.nil | (with_reducible apply RVs.cons) | exact rv_tmp (by rfl) | exact rv_cellN (by rfl) (by repeat constructor) (by rfl) (by rfl) (by rfl) | exact rv_cell1 (by rfl) (by repeat constructor) (by rfl) (by rfl))); exact zml; exact zkp; exact ⟨congrArg (fun v => Value.tuple #[v, .int .i64 0]) Cell.zv, rfl, rfl⟩)
  obtain ⟨hl, hp1, hp2⟩ := h.pos hn
  have hG := h.inv.g
  have hW := h.inv.ok.hd
  have hLv := h.inv.c
  have hmax := fun e he => le_win (w := K.d) hG hW.1 (e := e) he
  have hq1 : IntKind.wrap .i64 (x.last.tdiv K.d) = x.last / K.d := quo_nn (by omega) hW.1
  have hW0 : K.d ≠ 0 := by omega
  show Ct _ _ _ _ _ (Post q K x m (cel (sel K.d K.w (lastT es / K.d) es i j)))
  have k1 := fun (m' : Mem) (hm : m.le m') => fold_ (m := m') x.t2.p x.t2.c x.t2.l i j (ho.i2) (okT_dis hLv.ok) ho.n2 (ho.s2.mono hm)
  have k2 := fun (m' : Mem) (hm : m.le m') => now2 (m := m') q K x es h (ho.mono hm) hn
  by_cases hc0 : lastT es / K.d < i ∨ j ≤ lastT es / K.d
  · have h1 := span_no hLv hG hW.1 hi hij hmax hc0
    change foldC x.t2.l _ _ = _ at h1
    rw [h1] at k1
    rw [← hl] at hc0 h1 ⊢
    rw [← hl] at k1 k2
    clear h1 hmax hLv hG h ho hl hp2 hW
    generalize x.last / K.d = A at *
    generalize cel (sel K.d K.w A es i j) = C1 at *
    refine Ct.enterV (by rfl) Tryz.func28 rfl Tryz.ntmps28 rfl (fun w0 Rest => ?_)
    (repeat' (first | refine zss ?_ | ((first | (with_reducible first | apply At.val | apply AtQ.val)); (first | exact pr_indexArr (k := 2) (by rfl) (by rfl) (by rfl) (by rfl) (by decide) | exact pr_quo (by rfl) (by rfl) hW0 hq1); exact rfl) | refine zsM ?_ | ((with_reducible first | apply AtM1.cr | apply AtQ.cr | apply At.cr); exact rfl; exact rfl; exact fun _ hmm => k1 _ zml; exact ztk; kernel_rfl) | fail | ((with_reducible apply At.alloc (d := 8)); exact rfl; exact rfl; intro b8) | ((with_reducible apply At.alloc (d := 11)); exact rfl; exact rfl; intro b11) | ((with_reducible apply At.alloc (d := 13)); exact rfl; exact rfl; intro b13) | (refine zsp ?_ ?_ <;> (intro hc; (try simp only [zhcs, reduceCtorEq] at hc); (try (exfalso; first | omega | contradiction | omega | exact absurd rfl hc | exact absurd (by decide) hc))))))
    all_goals ((with_reducible apply At.retV (B := kb q K x)); exact rfl; (repeat' (first | exact RVs.nil | (with_reducible apply RVs.cons) | exact rv_tmp (by rfl) | exact rv_cellN (by rfl) (by repeat constructor) (by rfl) (by rfl) (by rfl) | exact rv_cell1 (by rfl) (by repeat constructor) (by rfl) (by rfl))); exact zml; exact zkp; exact ⟨rfl, rfl, rfl⟩)
  obtain ⟨c, h1, h2⟩ := span_yes hLv hG hW.1 hi hij hmax (by omega)
  change foldC x.t2.l _ _ = _ at h1
  have hci : Cell.In c := by
    have := foldC_in ho.i2 i j
    rw [h1] at this
    exact this
  have k3 := Cell.merge c (G K.d es (lastT es / K.d)) hci (G_in hG)
  rw [h2] at k3
  rw [h1] at k1
  rw [← hl] at hc0 ⊢
  rw [← hl] at k2 k3
  clear h1 h2 hci hmax hLv hG h ho hl hp2 hW
  generalize x.last / K.d = A at *
  generalize cel (sel K.d K.w A es i j) = C1 at *
  generalize G K.d es A = C2 at *
  refine Ct.enterV (by rfl) Tryz.func28 rfl Tryz.ntmps28 rfl (fun w0 Rest => ?_)
  (repeat' (first | refine zss ?_ | ((first | (with_reducible first | apply At.val | apply AtQ.val)); (first | exact pr_indexArr (k := 2) (by rfl) (by rfl) (by rfl) (by rfl) (by decide) | exact pr_quo (by rfl) (by rfl) hW0 hq1); exact rfl) | refine zsM ?_ | ((with_reducible first | apply AtM1.cr | apply AtQ.cr | apply At.cr); exact rfl; exact rfl; exact fun _ hmm => k1 _ zml; exact ztk; kernel_rfl) | ((with_reducible first | apply At.c1 | apply At.c0); exact rfl; exact rfl; exact k2 _ zml; exact ztk; kernel_rfl; rintro v' m' B' hm' ⟨rfl, rfl, rfl⟩; skip; (try (have hq0 : hm' = Mem.le_refl _ := rfl; clear hq0 hm'))) | ((with_reducible first | apply AtM1.callp | apply AtQ.callp | apply At.callp); kernel_rfl; exact rfl; exact rfl; exact k3) | fail | ((with_reducible apply At.alloc (d := 8)); exact rfl; exact rfl; intro b8) | ((with_reducible apply At.alloc (d := 11)); exact rfl; exact rfl; intro b11) | ((with_reducible apply At.alloc (d := 13)); exact rfl; exact rfl; intro b13) | (refine zsp ?_ ?_ <;> (intro hc; (try simp only [zhcs, reduceCtorEq] at hc); (try (exfalso; first | omega | contradiction | omega | exact absurd rfl hc | exact absurd (by decide) hc))))))
  all_goals ((with_reducible apply At.retV (B := kb q K x)); exact rfl; (repeat' (first | exact RVs.nil | (with_reducible apply RVs.cons) | exact rv_tmp (by rfl) | exact rv_cellN (by rfl) (by repeat constructor) (by rfl) (by rfl) (by rfl) | exact rv_cell1 (by rfl) (by repeat constructor) (by rfl) (by rfl))); exact zml; exact zkp; exact ⟨rfl, rfl, rfl⟩)
theorem range2 {m : Mem} (K : Cfg) (x : Ser) (es : List Ev) (i j : Int) (h : SI K es x) (ho : x.Ok m) (hi : 0 ≤ i) (hij : i ≤ j) :
    Rd Tryz.prog 9 #[K.v, x.v, .int .i64 2, .int .i64 i, .int .i64 j] m [] (.tuple #[(rg K es 2 i j).v, .int .i64 0]) := by
  unfold Rd
  have k0 := fun (m' : Mem) (hm : m.le m') => openY h (ho.mono hm)
  have k1 := fun (m' : Mem) (q : Nat) (hm : m.le m') => span2 (m := m') q K x es i j h (ho.mono hm) hi hij
  clear h ho
  refine Ct.enterV (by rfl) Tryz.func9 rfl Tryz.ntmps9 rfl (fun w0 Rest => ?_)
  (repeat' (first | refine zss ?_ | refine zsM ?_ | ((with_reducible first | apply At.c1 | apply At.c0); exact rfl; exact rfl; exact k0 _ zml; exact ztk; kernel_rfl; rintro v' m' B' hm' ⟨rfl, q, rfl, rfl⟩; skip; (try (have hq0 : hm' = Mem.le_refl _ := rfl; clear hq0 hm'))) | ((with_reducible first | apply At.c1 | apply At.c0); exact rfl; exact rfl; exact k1 _ q zml; exact ztk; kernel_rfl; rintro v' m' B' hm' ⟨rfl, rfl, rfl⟩; skip; (try (have hq0 : hm' = Mem.le_refl _ := rfl; clear hq0 hm'))) | ((with_reducible apply At.box (d := 5)); exact rfl; exact rfl; exact rfl; intro b5) | ((with_reducible apply At.box (d := 6)); exact rfl; exact rfl; exact rfl; intro b6) | ((with_reducible apply At.alloc (d := 10)); exact rfl; exact rfl; intro b10) | (refine zsp ?_ ?_ <;> (intro hc; (try simp only [zhcs, reduceCtorEq] at hc); (try (exfalso; first | omega | contradiction | omega | exact absurd rfl hc | exact absurd (by decide) hc))))))
  all_goals ((with_reducible apply At.retV (B := [])); exact rfl; (repeat' (first | exact RVs.nil | (with_reducible apply RVs.cons) | exact rv_tmp (by rfl) | exact rv_cellN (by rfl) (by repeat constructor) (by rfl) (by rfl) (by rfl) | exact rv_cell1 (by rfl) (by repeat constructor) (by rfl) (by rfl))); exact zml; exact zkp; exact ⟨rfl, rfl, rfl⟩)
theorem cell2 {m : Mem} (K : Cfg) (x : Ser) (es : List Ev) (i : Int) (h : SI K es x) (ho : x.Ok m) (hi : 0 ≤ i ∧ i ≤ 9223372036854775807) (hk : lastT es / K.d - K.w ≤ i) :
    Rd Tryz.prog 24 #[K.v, x.v, .int .i64 2, .int .i64 i] m [] (.tuple #[(G K.d es i).v, .int .i64 0]) := by
  unfold Rd
  have k0 := fun (m' : Mem) (hm : m.le m') => openY h (ho.mono hm)
  by_cases hn : es = []
  · have hl : x.last = -1 := h.last.trans (if_pos hn)
    have e : G K.d es i = Cell.z := by subst hn; rfl
    rw [e]
    clear h ho e
    refine Ct.enterV (by rfl) Tryz.func24 rfl Tryz.ntmps24 rfl (fun w0 Rest => ?_)
    (repeat' (first | refine zss ?_ | refine zsM ?_ | ((with_reducible first | apply At.c1 | apply At.c0); exact rfl; exact rfl; exact k0 _ zml; exact ztk; kernel_rfl; rintro v' m' B' hm' ⟨rfl, q, rfl, rfl⟩; skip; (try (have hq0 : hm' = Mem.le_refl _ := rfl; clear hq0 hm'))) | ((with_reducible apply At.box (d := 4)); exact rfl; exact rfl; exact rfl; intro b4) | ((with_reducible apply At.box (d := 5)); exact rfl; exact rfl; exact rfl; intro b5) | ((with_reducible apply At.alloc (d := 8)); exact rfl; exact rfl; intro b8) | (refine zsp ?_ ?_ <;> (intro hc; (try simp only [zhcs, reduceCtorEq] at hc); (try (exfalso; first | omega | contradiction | omega | exact absurd rfl hc | exact absurd (by decide) hc))))))
    all_goals ((with_reducible apply At.retV (B := [])); exact rfl; (repeat' (first | exact RVs.nil | (with_reducible apply RVs.cons) | exact rv_tmp (by rfl) | exact rv_cellN (by rfl) (by repeat constructor) (by rfl) (by rfl) (by rfl) | exact rv_cell1 (by rfl) (by repeat constructor) (by rfl) (by rfl))); exact zml; exact zkp; exact ⟨congrArg (fun v => Value.tuple #[v, .int .i64 0]) Cell.zv, rfl, rfl⟩)
  obtain ⟨hl, hp1, hp2⟩ := h.pos hn
  have hG := h.inv.g
  have hW := h.inv.ok.hd
  have hLv := h.inv.c
  have hmax := fun e he => le_win (w := K.d) hG hW.1 (e := e) he
  have hq1 : IntKind.wrap .i64 (x.last.tdiv K.d) = x.last / K.d := quo_nn (by omega) hW.1
  have hW0 : K.d ≠ 0 := by omega
  by_cases h1 : lastT es / K.d < i
  · have e : G K.d es i = Cell.z := by
      have : win K.d i es = [] := by
        unfold win
        rw [List.filter_eq_nil_iff]
        intro e he
        have := hmax e he
        rw [decide_eq_true_eq]
        omega
      unfold G
      rw [this]
      rfl
    rw [e]
    rw [← hl] at h1
    clear e hmax hLv hG h ho hl hp1 hp2 hW hk
    generalize x.last / K.d = A at *
    refine Ct.enterV (by rfl) Tryz.func24 rfl Tryz.ntmps24 rfl (fun w0 Rest => ?_)
    (repeat' (first | refine zss ?_ | ((first | (with_reducible first | apply At.val | apply AtQ.val)); (first | exact pr_indexArr (k := 2) (by rfl) (by rfl) (by rfl) (by rfl) (by decide) | exact pr_quo (by rfl) (by rfl) hW0 hq1); exact rfl) | refine zsM ?_ | ((with_reducible first | apply At.c1 | apply At.c0); exact rfl; exact rfl; exact k0 _ zml; exact ztk; kernel_rfl; rintro v' m' B' hm' ⟨rfl, q, rfl, rfl⟩; skip; (try (have hq0 : hm' = Mem.le_refl _ := rfl; clear hq0 hm'))) | ((with_reducible apply At.box (d := 4)); exact rfl; exact rfl; exact rfl; intro b4) | ((with_reducible apply At.box (d := 5)); exact rfl; exact rfl; exact rfl; intro b5) | ((with_reducible apply At.alloc (d := 8)); exact rfl; exact rfl; intro b8) | (refine zsp ?_ ?_ <;> (intro hc; (try simp only [zhcs, reduceCtorEq] at hc); (try (exfalso; first | omega | contradiction | omega | exact absurd rfl hc | exact absurd (by decide) hc))))))
    all_goals ((with_reducible apply At.retV (B := [])); exact rfl; (repeat' (first | exact RVs.nil | (with_reducible apply RVs.cons) | exact rv_tmp (by rfl) | exact rv_cellN (by rfl) (by repeat constructor) (by rfl) (by rfl) (by rfl) | exact rv_cell1 (by rfl) (by repeat constructor) (by rfl) (by rfl))); exact zml; exact zkp; exact ⟨congrArg (fun v => Value.tuple #[v, .int .i64 0]) Cell.zv, rfl, rfl⟩)
  by_cases h2 : i = lastT es / K.d
  · have k2 := fun (m' : Mem) (q : Nat) (hm : m.le m') => now2 (m := m') q K x es h (ho.mono hm) hn
    rw [← h2] at k2
    rw [← hl] at h1 h2
    clear hmax hLv hG h ho hl hp2 hW hk
    generalize x.last / K.d = A at *
    generalize G K.d es i = C2 at *
    refine Ct.enterV (by rfl) Tryz.func24 rfl Tryz.ntmps24 rfl (fun w0 Rest => ?_)
    (repeat' (first | refine zss ?_ | ((first | (with_reducible first | apply At.val | apply AtQ.val)); (first | exact pr_indexArr (k := 2) (by rfl) (by rfl) (by rfl) (by rfl) (by decide) | exact pr_quo (by rfl) (by rfl) hW0 hq1); exact rfl) | refine zsM ?_ | ((with_reducible first | apply At.c1 | apply At.c0); exact rfl; exact rfl; exact k0 _ zml; exact ztk; kernel_rfl; rintro v' m' B' hm' ⟨rfl, q, rfl, rfl⟩; skip; (try (have hq0 : hm' = Mem.le_refl _ := rfl; clear hq0 hm'))) | ((with_reducible first | apply At.c1 | apply At.c0); exact rfl; exact rfl; exact k2 _ q zml; exact ztk; kernel_rfl; rintro v' m' B' hm' ⟨rfl, rfl, rfl⟩; skip; (try (have hq0 : hm' = Mem.le_refl _ := rfl; clear hq0 hm'))) | ((with_reducible apply At.box (d := 4)); exact rfl; exact rfl; exact rfl; intro b4) | ((with_reducible apply At.box (d := 5)); exact rfl; exact rfl; exact rfl; intro b5) | ((with_reducible apply At.alloc (d := 8)); exact rfl; exact rfl; intro b8) | (refine zsp ?_ ?_ <;> (intro hc; (try simp only [zhcs, reduceCtorEq] at hc); (try (exfalso; first | (first | omega | exact absurd h2 hc) | contradiction | omega | exact absurd rfl hc | exact absurd (by decide) hc))))))
    all_goals ((with_reducible apply At.retV (B := [])); exact rfl; (repeat' (first | exact RVs.nil | (with_reducible apply RVs.cons) | exact rv_tmp (by rfl) | exact rv_cellN (by rfl) (by repeat constructor) (by rfl) (by rfl) (by rfl) | exact rv_cell1 (by rfl) (by repeat constructor) (by rfl) (by rfl))); exact zml; exact zkp; exact ⟨rfl, rfl, rfl⟩)
  have k3 := fun (m' : Mem) (hm : m.le m') => get_ (m := m') x.t2.p x.t2.c x.t2.l i (by omega) ho.n2 (ho.s2.mono hm)
  have h3 := getC_lv hLv hG hi.1 hk (by omega)
  change getC x.t2.l i = _ at h3
  rw [h3] at k3
  rw [← hl] at h1 h2
  clear h3 hmax hLv hG h ho hl hp2 hW hk
  generalize x.last / K.d = A at *
  generalize G K.d es i = C2 at *
  refine Ct.enterV (by rfl) Tryz.func24 rfl Tryz.ntmps24 rfl (fun w0 Rest => ?_)
  (repeat' (first | refine zss ?_ | ((first | (with_reducible first | apply At.val | apply AtQ.val)); (first | exact pr_indexArr (k := 2) (by rfl) (by rfl) (by rfl) (by rfl) (by decide) | exact pr_quo (by rfl) (by rfl) hW0 hq1); exact rfl) | refine zsM ?_ | ((with_reducible first | apply At.c1 | apply At.c0); exact rfl; exact rfl; exact k0 _ zml; exact ztk; kernel_rfl; rintro v' m' B' hm' ⟨rfl, q, rfl, rfl⟩; skip; (try (have hq0 : hm' = Mem.le_refl _ := rfl; clear hq0 hm'))) | ((with_reducible first | apply AtM1.cr | apply AtQ.cr | apply At.cr); exact rfl; exact rfl; exact fun _ hmm => k3 _ zml; exact ztk; kernel_rfl) | ((with_reducible apply At.box (d := 4)); exact rfl; exact rfl; exact rfl; intro b4) | ((with_reducible apply At.box (d := 5)); exact rfl; exact rfl; exact rfl; intro b5) | ((with_reducible apply At.alloc (d := 8)); exact rfl; exact rfl; intro b8) | (refine zsp ?_ ?_ <;> (intro hc; (try simp only [zhcs, reduceCtorEq] at hc); (try (exfalso; first | (first | omega | exact absurd hc h2) | contradiction | omega | exact absurd rfl hc | exact absurd (by decide) hc))))))
  all_goals ((with_reducible apply At.retV (B := [])); exact rfl; (repeat' (first | exact RVs.nil | (with_reducible apply RVs.cons) | exact rv_tmp (by rfl) | exact rv_cellN (by rfl) (by repeat constructor) (by rfl) (by rfl) (by rfl) | exact rv_cell1 (by rfl) (by repeat constructor) (by rfl) (by rfl))); exact zml; exact zkp; exact ⟨rfl, rfl, rfl⟩)
theorem range_ {m : Mem} (K : Cfg) (x : Ser) (es : List Ev) (k : Nat) (hk : k < 3) (i j : Int) (h : SI K es x) (ho : x.Ok m) (hi : 0 ≤ i) (hij : i ≤ j) :
    Rd Tryz.prog 9 #[K.v, x.v, .int .i64 (k : Int), .int .i64 i, .int .i64 j] m [] (.tuple #[(rg K es k i j).v, .int .i64 0]) := by
  rcases (show k = 0 ∨ k = 1 ∨ k = 2 by omega) with rfl | rfl | rfl
  · exact range0 K x es i j h ho hi hij
  · exact range1 K x es i j h ho hi hij
  · exact range2 K x es i j h ho hi hij

end Sv
end Go.Proofs.YtjdlnckifhifbaaGreat
/- Series: small ones; what decoding gives of them, without lengths. -/
set_option linter.unusedSimpArgs false
set_option linter.unusedVariables false
set_option linter.unusedSectionVars false
set_option maxRecDepth 20000
set_option maxHeartbeats 4000000
namespace Go.Proofs.YtjdlnckifhifbaaGreat
open Go Go.J
attribute [local irreducible] At AtQ AtM AtM1 PR Ct Pu Rd Res.blk Res.own Res.ex RVs RV
namespace Ser
/-- what it has lies where it says; its numbers are numbers; it may be of any length -/
structure Lay (m : Mem) (s : Ser) : Prop where
  sl : Sl m Lb.cells 2 s.lab.p s.lab.c s.lab.l
  sr : Sl m Ev.cells 4 s.raw.p s.raw.c s.raw.l
  s0 : Sl m Slot.cells 15 s.t0.p s.t0.c s.t0.l
  s1 : Sl m Slot.cells 15 s.t1.p s.t1.c s.t1.l
  s2 : Sl m Slot.cells 15 s.t2.p s.t2.c s.t2.l
  i0 : ∀ x ∈ s.t0.l, Slot.In x
  i1 : ∀ x ∈ s.t1.l, Slot.In x
  i2 : ∀ x ∈ s.t2.l, Slot.In x
  io : Slot.In s.op
  ir : ∀ e ∈ s.raw.l, e.V < 18446744073709551616
  bl : -9223372036854775808 ≤ s.last ∧ s.last ≤ 9223372036854775807
theorem Lay.mono {m m' : Mem} {s : Ser} (h : Lay m s) (hm : m.le m') : Lay m' s := ⟨h.sl.mono hm, h.sr.mono hm, h.s0.mono hm, h.s1.mono hm, h.s2.mono hm, h.i0, h.i1, h.i2, h.io, h.ir, h.bl⟩
def sm (x : Ser) : Prop := Lb.few x.lab.l ∧ x.raw.l.length ≤ 60 ∧ x.t0.l.length ≤ 40 ∧ x.t1.l.length ≤ 40 ∧ x.t2.l.length ≤ 40
instance (x : Ser) : Decidable (sm x) := by unfold sm; infer_instance
theorem Lay.ok {m : Mem} {x : Ser} (h : Lay m x) (hs : sm x) : Ok m x :=
  ⟨h.sl, h.sr, h.s0, h.s1, h.s2, hs.1.mid, h.i0, h.i1, h.i2, h.io, h.ir, Nat.le_trans hs.1.1 (by decide), Nat.le_trans hs.2.1 (by decide), Nat.le_trans hs.2.2.1 (by decide), Nat.le_trans hs.2.2.2.1 (by decide), Nat.le_trans hs.2.2.2.2 (by decide), h.bl⟩
theorem Ok.lay {m : Mem} {x : Ser} (h : Ok m x) : Lay m x := ⟨h.sl, h.sr, h.s0, h.s1, h.s2, h.i0, h.i1, h.i2, h.io, h.ir, h.bl⟩
end Ser
namespace St
open Se Win
theorem small14 (a b c : Lst Slot) : Pu Tryz.prog 43 #[t3v a b c] (.int .i64 (if a.l.length ≤ 40 ∧ b.l.length ≤ 40 ∧ c.l.length ≤ 40 then 1 else 0)) := Pu.intro fun m => by
  refine Ct.enterV (by rfl) Tryz.func43 rfl Tryz.ntmps43 rfl (fun w0 Rest => ?_)
  (repeat' (first | refine zss ?_ | refine zs0 ?_ | ((with_reducible apply At.box (d := 1)); exact rfl; exact rfl; exact rfl; intro b1) | (refine zsp ?_ ?_ <;> (intro hc; (try simp only [zhcs, reduceCtorEq] at hc); (try (exfalso; first | contradiction | omega | exact absurd rfl hc | exact absurd (by decide) hc))))))
  (refine At.loopk (σ := Nat) [1] (fun s F0 => (4, .int .i64 (s : Int)) :: F0) (fun s => m) (fun s => .blk b1 36 [a.v, b.v, c.v] :: Rest) (fun s => s ≤ 3 ∧ (0 < s → a.l.length ≤ 40) ∧ (1 < s → b.l.length ≤ 40) ∧ (2 < s → c.l.length ≤ 40)) (fun s => 3 - s) 0 (by rfl) ?_ zsubs zml zente ?_)
  · exact ⟨Nat.zero_le _, fun h => absurd h (by decide), fun h => absurd h (by decide), fun h => absurd h (by decide)⟩
  rintro s ⟨hs, g0, g1, g2⟩
  rcases (show s = 0 ∨ s = 1 ∨ s = 2 ∨ s = 3 by omega) with rfl | rfl | rfl | rfl
  · by_cases h : a.l.length ≤ 40
    · (repeat' (first | refine zss ?_ | ((first | (with_reducible first | apply At.val | apply AtQ.val)); (exact pr_indexArr (k := 0) (by rfl) (by rfl) (by rfl) (by rfl) (by decide)); exact rfl) | refine zs0 ?_ | ((with_reducible apply At.box (d := 1)); exact rfl; exact rfl; exact rfl; intro b1) | (refine zsp ?_ ?_ <;> (intro hc; (try simp only [zhcs, reduceCtorEq] at hc); (try (exfalso; first | omega | contradiction | omega | exact absurd rfl hc | exact absurd (by decide) hc))))))
      all_goals ((with_reducible refine At.reachk (1) ?_ ?_ ?_ ?_); exact zsubs; exact zml; exact zente; exact ⟨⟨by decide, fun _ => h, fun h => absurd h (by decide), fun h => absurd h (by decide)⟩, by decide⟩)
    · rw [if_neg (fun k => h k.1)]
      (repeat' (first | refine zss ?_ | ((first | (with_reducible first | apply At.val | apply AtQ.val)); (exact pr_indexArr (k := 0) (by rfl) (by rfl) (by rfl) (by rfl) (by decide)); exact rfl) | refine zs0 ?_ | ((with_reducible apply At.box (d := 1)); exact rfl; exact rfl; exact rfl; intro b1) | (refine zsp ?_ ?_ <;> (intro hc; (try simp only [zhcs, reduceCtorEq] at hc); (try (exfalso; first | omega | contradiction | omega | exact absurd rfl hc | exact absurd (by decide) hc))))))
      all_goals ((with_reducible apply At.retB1 (B := [])); exact rfl; exact rfl; exact zml; exact zkp; exact ⟨rfl, rfl, rfl⟩)
  · by_cases h : b.l.length ≤ 40
    · (repeat' (first | refine zss ?_ | ((first | (with_reducible first | apply At.val | apply AtQ.val)); (exact pr_indexArr (k := 1) (by rfl) (by rfl) (by rfl) (by rfl) (by decide)); exact rfl) | refine zs0 ?_ | ((with_reducible apply At.box (d := 1)); exact rfl; exact rfl; exact rfl; intro b1) | (refine zsp ?_ ?_ <;> (intro hc; (try simp only [zhcs, reduceCtorEq] at hc); (try (exfalso; first | omega | contradiction | omega | exact absurd rfl hc | exact absurd (by decide) hc))))))
      all_goals ((with_reducible refine At.reachk (2) ?_ ?_ ?_ ?_); exact zsubs; exact zml; exact zente; exact ⟨⟨by decide, fun _ => g0 (by decide), fun _ => h, fun h => absurd h (by decide)⟩, by decide⟩)
    · rw [if_neg (fun k => h k.2.1)]
      (repeat' (first | refine zss ?_ | ((first | (with_reducible first | apply At.val | apply AtQ.val)); (exact pr_indexArr (k := 1) (by rfl) (by rfl) (by rfl) (by rfl) (by decide)); exact rfl) | refine zs0 ?_ | ((with_reducible apply At.box (d := 1)); exact rfl; exact rfl; exact rfl; intro b1) | (refine zsp ?_ ?_ <;> (intro hc; (try simp only [zhcs, reduceCtorEq] at hc); (try (exfalso; first | omega | contradiction | omega | exact absurd rfl hc | exact absurd (by decide) hc))))))
      all_goals ((with_reducible apply At.retB1 (B := [])); exact rfl; exact rfl; exact zml; exact zkp; exact ⟨rfl, rfl, rfl⟩)
  · by_cases h : c.l.length ≤ 40
    · (repeat' (first | refine zss ?_ | ((first | (with_reducible first | apply At.val | apply AtQ.val)); (exact pr_indexArr (k := 2) (by rfl) (by rfl) (by rfl) (by rfl) (by decide)); exact rfl) | refine zs0 ?_ | ((with_reducible apply At.box (d := 1)); exact rfl; exact rfl; exact rfl; intro b1) | (refine zsp ?_ ?_ <;> (intro hc; (try simp only [zhcs, reduceCtorEq] at hc); (try (exfalso; first | omega | contradiction | omega | exact absurd rfl hc | exact absurd (by decide) hc))))))
      all_goals ((with_reducible refine At.reachk (3) ?_ ?_ ?_ ?_); exact zsubs; exact zml; exact zente; exact ⟨⟨by decide, fun _ => g0 (by decide), fun _ => g1 (by decide), fun _ => h⟩, by decide⟩)
    · rw [if_neg (fun k => h k.2.2)]
      (repeat' (first | refine zss ?_ | ((first | (with_reducible first | apply At.val | apply AtQ.val)); (exact pr_indexArr (k := 2) (by rfl) (by rfl) (by rfl) (by rfl) (by decide)); exact rfl) | refine zs0 ?_ | ((with_reducible apply At.box (d := 1)); exact rfl; exact rfl; exact rfl; intro b1) | (refine zsp ?_ ?_ <;> (intro hc; (try simp only [zhcs, reduceCtorEq] at hc); (try (exfalso; first | omega | contradiction | omega | exact absurd rfl hc | exact absurd (by decide) hc))))))
      all_goals ((with_reducible apply At.retB1 (B := [])); exact rfl; exact rfl; exact zml; exact zkp; exact ⟨rfl, rfl, rfl⟩)
  · rw [if_pos ⟨g0 (by decide), g1 (by decide), g2 (by decide)⟩]
    (repeat' (first | refine zss ?_ | refine zs0 ?_ | ((with_reducible apply At.box (d := 1)); exact rfl; exact rfl; exact rfl; intro b1) | (refine zsp ?_ ?_ <;> (intro hc; (try simp only [zhcs, reduceCtorEq] at hc); (try (exfalso; first | omega | contradiction | omega | exact absurd rfl hc | exact absurd (by decide) hc))))))
    all_goals ((with_reducible apply At.retB1 (B := [])); exact rfl; exact rfl; exact zml; exact zkp; exact ⟨rfl, rfl, rfl⟩)
def smI (x : Ser) : Int := if x.sm then 1 else 0
theorem small15 {m : Mem} (x : Ser) (hx : x.Lay m) : Rd Tryz.prog 25 #[x.v] m [] (.int .i64 (smI x)) := by
  unfold Rd
  have k1 := fun (m' : Mem) (h : m.le m') => Lb.small x.lab.p x.lab.c x.lab.l (hx.sl.mono h)
  have k2 := small14 x.t0 x.t1 x.t2
  clear hx
  unfold smI
  by_cases h1 : Lb.few x.lab.l
  rotate_left
  · rw [if_neg h1] at k1
    rw [if_neg (fun h => h1 h.1)]
    refine Ct.enterV (by rfl) Tryz.func25 rfl Tryz.ntmps25 rfl (fun w0 Rest => ?_)
    (repeat' (first | refine zss ?_ | refine zsM ?_ | ((with_reducible first | apply AtM1.cr | apply AtQ.cr | apply At.cr); exact rfl; exact rfl; exact fun _ hmm => k1 _ hmm; exact ztk; kernel_rfl) | ((with_reducible apply At.box (d := 1)); exact rfl; exact rfl; exact rfl; intro b1) | (refine zsp ?_ ?_ <;> (intro hc; (try simp only [zhcs, reduceCtorEq] at hc); (try (exfalso; first | (first | omega | exact absurd rfl hc) | contradiction | omega | exact absurd rfl hc | exact absurd (by decide) hc))))))
    all_goals ((with_reducible apply At.retB1 (B := [])); exact rfl; exact rfl; exact zml; exact zkp; exact ⟨rfl, rfl, rfl⟩)
  rw [if_pos h1] at k1
  by_cases h2 : x.raw.l.length ≤ 60
  rotate_left
  · rw [if_neg (fun h => h2 h.2.1)]
    clear h1
    refine Ct.enterV (by rfl) Tryz.func25 rfl Tryz.ntmps25 rfl (fun w0 Rest => ?_)
    (repeat' (first | refine zss ?_ | refine zsM ?_ | ((with_reducible first | apply AtM1.cr | apply AtQ.cr | apply At.cr); exact rfl; exact rfl; exact fun _ hmm => k1 _ hmm; exact ztk; kernel_rfl) | ((with_reducible apply At.box (d := 1)); exact rfl; exact rfl; exact rfl; intro b1) | (refine zsp ?_ ?_ <;> (intro hc; (try simp only [zhcs, reduceCtorEq] at hc); (try (exfalso; first | (first | omega | exact absurd rfl hc) | contradiction | omega | exact absurd rfl hc | exact absurd (by decide) hc))))))
    all_goals ((with_reducible apply At.retB1 (B := [])); exact rfl; exact rfl; exact zml; exact zkp; exact ⟨rfl, rfl, rfl⟩)
  rw [show (if x.sm then (1 : Int) else 0) = (if x.t0.l.length ≤ 40 ∧ x.t1.l.length ≤ 40 ∧ x.t2.l.length ≤ 40 then 1 else 0) by
    by_cases h : x.t0.l.length ≤ 40 ∧ x.t1.l.length ≤ 40 ∧ x.t2.l.length ≤ 40
    · rw [if_pos h, if_pos ⟨h1, h2, h.1, h.2.1, h.2.2⟩]
    · rw [if_neg h, if_neg (fun g => h ⟨g.2.2.1, g.2.2.2.1, g.2.2.2.2⟩)]]
  clear h1
  refine Ct.enterV (by rfl) Tryz.func25 rfl Tryz.ntmps25 rfl (fun w0 Rest => ?_)
  (repeat' (first | refine zss ?_ | refine zsM ?_ | ((with_reducible first | apply AtM1.cr | apply AtQ.cr | apply At.cr); exact rfl; exact rfl; exact fun _ hmm => k1 _ hmm; exact ztk; kernel_rfl) | ((with_reducible first | apply AtM1.callp | apply AtQ.callp | apply At.callp); kernel_rfl; exact rfl; exact rfl; exact k2) | ((with_reducible apply At.box (d := 1)); exact rfl; exact rfl; exact rfl; intro b1) | (refine zsp ?_ ?_ <;> (intro hc; (try simp only [zhcs, reduceCtorEq] at hc); (try (exfalso; first | (first | omega | exact absurd rfl hc) | contradiction | omega | exact absurd rfl hc | exact absurd (by decide) hc))))))
  all_goals ((with_reducible apply At.retB1 (B := [])); exact rfl; exact rfl; exact zml; exact zkp; exact ⟨rfl, rfl, rfl⟩)
end St
end Go.Proofs.YtjdlnckifhifbaaGreat
/- Channels in one goroutine: make, len, a select of one case with a default. -/
set_option linter.unusedSimpArgs false
set_option linter.unusedVariables false
set_option linter.unusedSectionVars false
set_option maxRecDepth 20000
namespace Go.J
open Go
/-- a channel with room for so many, that nobody closed, and what is in it -/
def Res.ch (b cap : Nat) (buf : List Value) : Res where
  p w s := (∃ s' r, w.heap[b]? = some (.chan cap buf.toArray false s' r false)) ∧ ∀ k, s k ↔ k = b
  loc := fun ⟨⟨s', r, h⟩, hs⟩ he => ⟨⟨s', r, by rw [he _ ((hs _).2 rfl)]; exact h⟩, hs⟩
  dom := fun ⟨⟨s', r, h⟩, hs⟩ hk => by
    have := (hs _).1 hk; subst this
    exact (Array.getElem?_eq_some_iff.1 h).1
section
variable {P : Program} {n : Nat} {w0 : World} {F : Fr} {m : Mem} {Rs : List Res} {Q : Exit → Act → World → Prop} {K : Act → World → Prop} {C : World → Prop}
theorem HW.ch {w : World} (h : HW w0 m Rs w) {b cap : Nat} {buf : List Value} {Rs' : List Res} (hp : Pick Rs (.ch b cap buf) Rs') : ∃ s' r, w.heap[b]? = some (.chan cap buf.toArray false s' r false) :=
  let ⟨_, h1, _⟩ := h.get hp
  h1
theorem pr_len_ch {x : Operand} {t e : TypeId} {dir : ChanDir} {b cap : Nat} {buf : List Value} {Rs' : List Res} (ht : P.underlying t = some (.chan dir e)) (hx : ev F x = some (.chan (some b))) (hp : Pick Rs (.ch b cap buf) Rs') :
    PR P n F (HW w0 m Rs) (.call ⟨.builtin .len, #[x], #[t]⟩) (.int .i64 (buf.length : Int)) := fun _ _ _ _ _ a w ha hC => by
  obtain ⟨s', r, hh⟩ := hC.ch hp
  simp [execOp, resolve, invoke, builtin, ha.ev hx, Builtin.len_, underlying, program, ht, Sem.run, goInt, getObj, hh]
def chanB (P : Program) (t : TypeId) : Bool := match P.underlying t with
  | some (.chan _ e) => match P.info? e with
    | some i => Nat.ble i.bytes 4096
    | none => false
  | _ => false
theorem chanB_spec {t : TypeId} (h : chanB P t = true) : ∃ d e i, P.underlying t = some (.chan d e) ∧ P.info? e = some i ∧ i.bytes ≤ 4096 := by
  unfold chanB at h
  split at h
  · rename_i d e he
    split at h
    · rename_i i hi
      exact ⟨d, e, i, he, hi, Nat.le_of_ble_eq_true h⟩
    · cases h
  · cases h
theorem run_makeChan {t e : TypeId} {dir : ChanDir} {i : TypeInfo} {k : Nat} (hu : P.underlying t = some (.chan dir e)) (hi : P.info? e = some i) (hb : i.bytes ≤ 4096) (hk : k ≤ 1000000) (w : World) :
    (Instr.makeChan t (.int .i64 (k : Int))).run P w = .ok (.chan (some w.heap.size)) { w with heap := w.heap.push (.chan k #[] false 0 0 false) } := by
  have h1 : ¬ ((k : Int) < 0) := by omega
  have h2 : ¬ ((k : Int) > IntKind.i64.max) := by
    have : IntKind.i64.max = 9223372036854775807 := rfl
    omega
  have h3 : ¬ ((i.bytes : Int) * (k : Int) > 2 ^ 48 - 112) := by
    have : (i.bytes : Int) * (k : Int) ≤ 4096 * 1000000 := Int.mul_le_mul (by omega) (by omega) (by omega) (by omega)
    have e : (2 : Int) ^ 48 - 112 = 281474976710544 := by decide
    omega
  have hti : (typeInfo e).run P w = .ok i w := by simp only [typeInfo, program, bind, Sem.bind, Sem.run, hi]; rfl
  have hru : (underlying t).run P w = .ok (.chan dir e) w := by simp only [underlying, program, bind, Sem.bind, Sem.run, hu]; rfl
  unfold Instr.makeChan
  simp only [Sem.run_bind]
  rw [show (asInt (.int .i64 (k : Int))).run P w = .ok (k : Int) w from rfl]
  simp only [Result.andThen]
  rw [hru]
  simp only [Result.andThen, Sem.run_bind]
  rw [hti]
  simp only [Result.andThen]
  rw [if_neg (fun h => h.elim h1 fun h => h.elim h2 h3)]
  rfl
theorem At.makeChan {ops : Array Oper} {rest : List Oper} {d : Nat} {t : TypeId} {x : Operand} {ty : TypeId} {pos : String} {aft : Array Edge} {k : Nat} (ht : chanB P t = true) (hx : ev F x = some (.int .i64 (k : Int))) (hk : k ≤ 1000000) (hd : Nat.blt d n = true)
    (h : ∀ b, At n w0 ((d, .chan (some b)) :: F) m (.ch b k [] :: Rs) (wpList P ops Q rest)) : At n w0 F m Rs (wpList P ops Q (⟨some d, .makeChan t x, ty, pos, aft, none⟩ :: rest)) := fun a w ha hw =>
  wpList_plain rfl fun K hK => by
    obtain ⟨dir, e, i, hu, hi, hb⟩ := chanB_spec ht
    unfold Oper.wp
    have : (execOp a.eval ⟨some d, .makeChan t x, ty, pos, aft, none⟩).run P w = .ok (.value (.chan (some w.heap.size))) { w with heap := w.heap.push (.chan k #[] false 0 0 false) } := by
      simp only [execOp, ha.ev hx, Sem.run_bind]
      rw [run_makeChan hu hi hb hk]
      rfl
    rw [this]
    refine hK _ _ (h _ _ _ (ha.put hd) (hw.add rfl rfl rfl (by simp) (fun k hk => by simp [Array.getElem?_push, Nat.ne_of_lt hk]) ⟨fun k => k = w.heap.size, ⟨⟨0, 0, by simp⟩, fun _ => Iff.rfl⟩, fun k hk => by simp_all⟩))
/-- a region whose first operation is one step of the machine -/
theorem wp_region_first {id : Nat} {o : Oper} {rest : List Oper} {a : Act} {w : World} {W : Value → World → Prop} (hg : o.guard = none)
    (hs : ∀ (b : Frame) (k : List Item) (cs : List Frame), ∃ v w', step P (lone (b.at a (.inRegion (o :: rest).toArray (0 :: List.range' 1 rest.length) :: k)) cs w) = .next (lone ((b.at a (.inRegion (o :: rest).toArray (0 :: List.range' 1 rest.length) :: k)).finish v) cs w') ∧ W v w')
    (h : ∀ v w', W v w' → wpList P (o :: rest).toArray Q rest (a.put o.dst v) w') : (Code.region id (o :: rest).toArray false).wp P Q a w := fun b k cs => by
  obtain ⟨v, w', hst, hW⟩ := hs b k cs
  have h' := h v w' hW
  rw [← wpOps_eq_wpList (ops := (o :: rest).toArray) rest 1 (fun j => by simp [Nat.add_comm 1 j])] at h'
  obtain ⟨e, a', w2, hq, harr⟩ := wp_ops _ _ _ h' b k cs
  rw [Frame.finish_at] at hst
  have e0 : (((o :: rest).toArray)[0]?).bind (·.dst) = o.dst := by simp
  rw [e0] at hst
  have e1 : List.range (o :: rest).toArray.size = 0 :: List.range' 1 rest.length := by
    rw [List.range_eq_range']; simp [List.range'_succ]
  refine ⟨e, a', w2, hq, .of_steps (.one step_region) (.of_steps (.one ?_) harr)⟩
  rw [e1]; exact hst
theorem stepG_sel {b : Frame} {a : Act} {k : List Item} {cs : List Frame} {w : World} {o : Oper} {rest : List Oper} {r : List Nat} {cases_ : Array CommCase} {blocking : Bool} (hg : o.guard = none)
    (hr : (execOp a.eval o).run P w = .ok (.comm cases_ blocking .select) w) :
    ∃ es, stepG P true (Conc.G (b.at a (.inRegion (o :: rest).toArray (0 :: r) :: k)) cs) w = .comm (Conc.G (b.at a (.inRegion (o :: rest).toArray (0 :: r) :: k)) cs) cases_ blocking .select w es := by
  have hg' := stepG_op (P := P) (b := b) (a := a) (k := k) (cs := cs) (w := w) (ops := (o :: rest).toArray) (i := 0) (rest := r) (o := o) (by simp) (by simp [Region.wanted, hg])
  have hbare : (stepG P true (Conc.G (b.at a (.inRegion (o :: rest).toArray (0 :: r) :: k)) cs) w).bare = .comm (Conc.G (b.at a (.inRegion (o :: rest).toArray (0 :: r) :: k)) cs) cases_ blocking .select w := by
    show (stepG P true { frame := b.at a (.inRegion (o :: rest).toArray (0 :: r) :: k), callers := cs, status := .running, dying := none } w).bare = _
    rw [hg']; simp [stepG.apply, hr, Conc.G]
  generalize hs : stepG P true (Conc.G (b.at a (.inRegion (o :: rest).toArray (0 :: r) :: k)) cs) w = s at hbare
  cases s <;> simp at hbare
  obtain ⟨rfl, rfl, rfl, rfl, rfl⟩ := hbare
  exact ⟨_, rfl⟩
/-- a channel's turn -/
theorem HW.chTurn {w : World} (h : HW w0 m Rs w) {b cap : Nat} {buf buf' : List Value} {Rs' : List Res} (hp : Repl Rs (.ch b cap buf) (.ch b cap buf') Rs') (s r : Nat) : HW w0 m Rs' (w.setChan b cap buf'.toArray false s r false) := by
  obtain ⟨T, hp1, _⟩ := hp.picks
  obtain ⟨s', r', hb⟩ := h.ch hp1
  refine h.upd (b := b) hp rfl rfl rfl (by simp [World.setChan]) (fun s hs => (hs.2 b).2 rfl) (fun k _ hk => ?_) (fun t ht => ⟨t, ⟨⟨s, r, ?_⟩, ht.2⟩, fun k hk => .inl hk⟩)
  · simp only [World.setChan]; rw [Array.getElem?_setIfInBounds_ne (Ne.symm hk)]
  · exact Conc.heap_setChan _ _ _ _ _ _ _ _ (Array.getElem?_eq_some_iff.1 hb).1
def zeroVB (P : Program) (t : TypeId) : Option Value := match P.info? t with
  | some i => i.zero
  | none => none
theorem run_sel_recv {a : Act} {w : World} {d : Option Tmp} {x : Operand} {e : TypeId} {ty : TypeId} {pos : String} {aft : Array Edge} {g : Option (Nat × Bool)} {b : Nat} {z : Value} (hx : a.eval x = .chan (some b)) (hz : zeroVB P e = some z) :
    (execOp a.eval ⟨d, .select #[⟨x, none, e⟩] false, ty, pos, aft, g⟩).run P w = .ok (.comm #[Conc.rcase b z] false .select) w := by
  unfold zeroVB at hz
  cases hi : P.info? e with
  | none => rw [hi] at hz; cases hz
  | some i =>
    rw [hi] at hz
    simp only [execOp, Array.mapM_eq_mapM_toList, List.mapM_cons, List.mapM_nil, hx, zeroValue, typeInfo, program, hi, hz, Conc.rcase, Sem.run, bind, Sem.bind, pure, Functor.map, Option.map_none]
    rfl
theorem run_sel_send {a : Act} {w : World} {d : Option Tmp} {x y : Operand} {e : TypeId} {ty : TypeId} {pos : String} {aft : Array Edge} {g : Option (Nat × Bool)} {b : Nat} {v z : Value} (hx : a.eval x = .chan (some b)) (hy : a.eval y = v) (hz : zeroVB P e = some z) :
    (execOp a.eval ⟨d, .select #[⟨x, some y, e⟩] false, ty, pos, aft, g⟩).run P w = .ok (.comm #[Conc.scase b v z] false .select) w := by
  unfold zeroVB at hz
  cases hi : P.info? e with
  | none => rw [hi] at hz; cases hz
  | some i =>
    rw [hi] at hz
    simp only [execOp, Array.mapM_eq_mapM_toList, List.mapM_cons, List.mapM_nil, hx, hy, zeroValue, typeInfo, program, hi, hz, Conc.scase, Sem.run, bind, Sem.bind, pure, Functor.map, Option.map_some]
    rfl
variable {id : Nat} {d : Nat} {x y : Operand} {e : TypeId} {ty : TypeId} {pos : String} {aft : Array Edge} {b cap : Nat} {z v : Value} {buf : List Value} {rest : List Oper} {Rs' : List Res}
/-- nothing is there: the default -/
theorem At.selRecv0 {l0 : List Oper} (hl : flat l0 = some (⟨some d, .select #[⟨x, none, e⟩] false, ty, pos, aft, none⟩ :: rest)) (hx : ev F x = some (.chan (some b))) (hz : zeroVB P e = some z) (hd : Nat.blt d n = true) (hp : Pick Rs (.ch b cap []) Rs')
    (h : At n w0 ((d, .tuple #[.int .i64 (-1), .bool false, z]) :: F) m Rs (wpList P (⟨some d, .select #[⟨x, none, e⟩] false, ty, pos, aft, none⟩ :: rest).toArray Q rest)) :
    At n w0 F m Rs ((Code.region id l0.toArray false).wp P Q) := fun a w ha hw => by
  rw [← flat_eq _ _ hl]
  obtain ⟨s, r, hc⟩ := hw.ch hp
  refine wp_region_first (W := fun v w' => v = .tuple #[.int .i64 (-1), .bool false, z] ∧ w' = w) rfl (fun b' k cs => ?_) fun v w' ⟨e1, e2⟩ => by subst e1 e2; exact h _ _ (ha.put hd) hw
  obtain ⟨es, hs⟩ := stepG_sel (P := P) (b := b') (k := k) (cs := cs) (rest := rest) (r := List.range' 1 rest.length) rfl (run_sel_recv (d := some d) (ty := ty) (pos := pos) (aft := aft) (g := none) (w := w) (ha.ev hx) hz)
  exact ⟨_, _, Conc.step_lone_select_default hs hc, rfl, rfl⟩
/-- the first of what is there -/
theorem At.selRecv1 {l0 : List Oper} (hl : flat l0 = some (⟨some d, .select #[⟨x, none, e⟩] false, ty, pos, aft, none⟩ :: rest)) (hx : ev F x = some (.chan (some b))) (hz : zeroVB P e = some z) (hd : Nat.blt d n = true) (hp : Repl Rs (.ch b cap (v :: buf)) (.ch b cap buf) Rs')
    (h : At n w0 ((d, .tuple #[.int .i64 0, .bool true, v]) :: F) m Rs' (wpList P (⟨some d, .select #[⟨x, none, e⟩] false, ty, pos, aft, none⟩ :: rest).toArray Q rest)) :
    At n w0 F m Rs ((Code.region id l0.toArray false).wp P Q) := fun a w ha hw => by
  rw [← flat_eq _ _ hl]
  obtain ⟨T, hp1, _⟩ := hp.picks
  obtain ⟨s, r, hc⟩ := hw.ch hp1
  refine wp_region_first (W := fun v' w' => v' = .tuple #[.int .i64 0, .bool true, v] ∧ w' = w.setChan b cap buf.toArray false s (r + 1) false) rfl (fun b' k cs => ?_) fun v' w' ⟨e1, e2⟩ => by subst e1 e2; exact h _ _ (ha.put hd) (hw.chTurn hp _ _)
  obtain ⟨es, hs⟩ := stepG_sel (P := P) (b := b') (k := k) (cs := cs) (rest := rest) (r := List.range' 1 rest.length) rfl (run_sel_recv (d := some d) (ty := ty) (pos := pos) (aft := aft) (g := none) (w := w) (ha.ev hx) hz)
  have := Conc.step_lone_select_recv_buf hs hc (by simp)
  refine ⟨_, _, this, by simp [goInt], ?_⟩
  congr 1
  apply Array.ext'; simp
/-- there is room -/
theorem At.selSend {l0 : List Oper} (hl : flat l0 = some (⟨some d, .select #[⟨x, some y, e⟩] false, ty, pos, aft, none⟩ :: rest)) (hx : ev F x = some (.chan (some b))) (hy : ev F y = some v) (hz : zeroVB P e = some z) (hd : Nat.blt d n = true) (hp : Repl Rs (.ch b cap buf) (.ch b cap (buf ++ [v])) Rs') (hr : buf.length < cap)
    (h : At n w0 ((d, .tuple #[.int .i64 0, .bool false]) :: F) m Rs' (wpList P (⟨some d, .select #[⟨x, some y, e⟩] false, ty, pos, aft, none⟩ :: rest).toArray Q rest)) :
    At n w0 F m Rs ((Code.region id l0.toArray false).wp P Q) := fun a w ha hw => by
  rw [← flat_eq _ _ hl]
  obtain ⟨T, hp1, _⟩ := hp.picks
  obtain ⟨s, r, hc⟩ := hw.ch hp1
  refine wp_region_first (W := fun v' w' => v' = .tuple #[.int .i64 0, .bool false] ∧ w' = w.setChan b cap (buf ++ [v]).toArray false (s + 1) r false) rfl (fun b' k cs => ?_) fun v' w' ⟨e1, e2⟩ => by subst e1 e2; exact h _ _ (ha.put hd) (hw.chTurn hp _ _)
  obtain ⟨es, hs⟩ := stepG_sel (P := P) (b := b') (k := k) (cs := cs) (rest := rest) (r := List.range' 1 rest.length) rfl (run_sel_send (d := some d) (ty := ty) (pos := pos) (aft := aft) (g := none) (w := w) (ha.ev hx) (ha.ev hy) hz)
  have := Conc.step_lone_select_send_room hs hc (by simpa using hr)
  exact ⟨_, _, this, by simp [goInt], by simp⟩
end
end Go.J

/- Part 15 of what the law's proof needs: rules of the walk, contracts of functions, plain laws. No condition. -/
import Derived.Test.YtjdlnckifhifbaaGreatT8SZ14
/- TopShifted: tier 1. -/
set_option linter.unusedSimpArgs false
set_option linter.unusedVariables false
set_option linter.unusedSectionVars false
set_option maxRecDepth 20000
set_option maxHeartbeats 4000000
namespace Go.Proofs.YtjdlnckifhifbaaGreat
open Go Go.J
attribute [local irreducible] At AtQ AtM AtM1 PR Ct Pu Rd Res.blk Res.own Res.ex RVs RV
namespace T8
open Slot Ti Gr Se Sv Top4
open Fo hiding pt
set_option maxRecDepth 100000 in
theorem shift1 {m : Mem} (K : Cfg) (p : Option Addr) (c : Nat) (l : List Ev) (by_ i j : Int) (hby : 0 ≤ by_ ∧ by_ ≤ 255) (hV : ∀ e ∈ l, e.V < 18446744073709551616) (h1 : ft K l) (h3 : ((0 : Int) ≤ 1 ∧ (1 : Int) ≤ 2) ∧ (0 ≤ i ∧ i ≤ j) ∧ j ≤ 1099511627776 ∧ K.d ≤ 1073741824) (sl0 : Sl m Ev.cells 4 p c l) :
    Ct Tryz.prog 3 #[K.v, .slice p l.length c, .int .u8 by_, .int .i64 1, .int .i64 i, .int .i64 j] m [] (fun v m' B => v = .bool true ∧ B = []) := by
  have hlv := fun (m' : Mem) (h : m.le m') => begins8 (m := m')
  have kf1 := fun (m' : Mem) (h : m.le m') => fits8 (m := m') K p c l hV (sl0.mono h)
  rw [decide_eq_true h1] at kf1
  have hln : l.length ≤ 60 := h1.2.2.1
  have hG : Gr.Good l := by
    obtain ⟨g1, g2⟩ := Mrg.chk_zero.1 h1.2.2.2
    exact ⟨fun e he => ⟨g1 e he, hV e he⟩, g2⟩
  have hKd := h1.1.hd
  have hd1 : 0 ≤ K.d * by_ := Int.mul_nonneg (by omega) hby.1
  have hd2 : K.d * by_ ≤ 1073741824 * 255 := Int.mul_le_mul h3.2.2.2 hby.2 hby.1 (by decide)
  obtain ⟨dd, hdd⟩ : ∃ dd, K.d * by_ = dd := ⟨_, rfl⟩
  have hmu : IntKind.wrap .i64 (K.d * by_) = dd := (IntWalk.i64_in _ (by omega)).trans hdd
  have kp1 := fun (m' : Mem) (h : m.le m') => put8 (m := m') K p c l h1.1 hG (by omega) (sl0.mono h)
  rw [hdd] at hd1 hd2
  clear hV
  refine Ct.enterV (by rfl) Tryz.func3 rfl Tryz.ntmps3 rfl (fun w0 Rest => ?_)
  (repeat' (first | (refine At.cutp (id := 3) (False) 57 [1, 2, 3, 4, 5, 6] (by rfl) ?_ ?_) | refine zss ?_ | ((first | (with_reducible first | apply At.val | apply AtQ.val)); (first | exact pr_indexArr (k := 2) (by rfl) (by rfl) (by rfl) (by rfl) (by decide) | exact pr_mul (by rfl) (by rfl) hmu); exact rfl) | refine zsM ?_ | ((with_reducible first | apply AtM1.cr | apply AtQ.cr | apply At.cr); exact rfl; exact rfl; exact fun _ hmm => hlv _ zml; exact ztk; kernel_rfl) | ((with_reducible first | apply AtM1.cr | apply AtQ.cr | apply At.cr); exact rfl; exact rfl; exact fun _ hmm => kf1 _ hmm; exact ztk; kernel_rfl) | ((with_reducible apply At.endp); exact rfl; exact zsubs; exact zml; exact zente; (first | (simp_all; done) | (simp_all <;> omega))) | ((with_reducible apply At.box (d := 6)); exact rfl; exact rfl; exact rfl; intro b6) | ((with_reducible apply At.alloc (d := 16)); exact rfl; exact rfl; intro b16) | ((with_reducible apply At.alloc (d := 17)); exact rfl; exact rfl; intro b17) | ((with_reducible apply At.alloc (d := 19)); exact rfl; exact rfl; intro b19) | ((with_reducible apply At.alloc (d := 21)); exact rfl; exact rfl; intro b21) | ((with_reducible apply At.alloc (d := 23)); exact rfl; exact rfl; intro b23) | (refine zsp ?_ ?_ <;> (intro hc; (try simp only [zhcs, reduceCtorEq] at hc); (try (exfalso; first | (first | omega | exact absurd rfl hc | exact hc) | contradiction | omega | exact absurd rfl hc | exact absurd (by decide) hc))))))
  refine At.own_nil Ev.cells 4 31 ?_
  (refine At.loopk (σ := SS) [1, 3, 4, 5, 6, 13, 64, 65] (fun s F0 => (66, .int .i64 (s.k : Int)) :: (14, .slice s.p s.O.length s.c) :: F0) (fun s => m) (fun s => .own Ev.cells 4 31 s.p s.c s.O :: .blk b6 25 K.cells :: Rest) (fun s => s.k ≤ l.length ∧ s.O = (l.take s.k).map (later dd) ∧ ∀ e ∈ l.take s.k, (later dd e).ok) (fun s => l.length - s.k) ⟨0, none, 0, []⟩ (by rfl) ?_ zsubs zml zente ?_)
  · exact ⟨Nat.zero_le _, rfl, fun e he => absurd he List.not_mem_nil⟩
  rintro ⟨n, pp, cc, O⟩ ⟨hn, hO, hok⟩
  dsimp only at hn hO hok ⊢
  by_cases hnl : n < l.length
  · have hsn := Ls.take_snoc hnl
    have hev := (hG.1 l[n]! (by rw [getElem!_pos l n hnl]; exact List.getElem_mem hnl)).1
    have hOl : O.length ≤ 60 := by rw [hO, List.length_map, List.length_take]; omega
    have heo := hev
    unfold Ev.ok at heo
    have hT : IntKind.wrap .i64 ((l[n]!).T + dd) = (l[n]!).T + dd := IntWalk.i64_in _ (by omega)
    by_cases hTb : (l[n]!).T + dd < 35184372088832
    · have hlo := (later_ok hd1 hev).2 hTb
      have hO2 : O ++ [later dd l[n]!] = (l.take (n + 1)).map (later dd) := by rw [hsn, List.map_append, ← hO]; rfl
      have hok2 : ∀ e ∈ l.take (n + 1), (later dd e).ok := fun e he => by
        rw [hsn] at he
        rcases List.mem_append.1 he with he | he
        · exact hok e he
        · rw [List.mem_singleton.1 he]; exact hlo
      clear hsn hlo hO hok hlv kf1 kp1 hG h1 hev
      by_cases hC : 0 < (l[n]!).C
      · have hCw : IntKind.wrap .i64 ((l[n]!).C + dd) = (l[n]!).C + dd := IntWalk.i64_in _ (by omega)
        have el : later dd l[n]! = ⟨(l[n]!).T + dd, (l[n]!).V, (l[n]!).C + dd, (l[n]!).S⟩ := by unfold later; rw [if_pos hC]
        rw [el] at hO2
        clear el
        (repeat' (first | refine zss ?_ | ((first | (with_reducible first | apply At.val | apply AtQ.val)); (first | exact pr_add (by rfl) (by rfl) hT | exact pr_add (by rfl) (by rfl) hCw); exact rfl) | refine zsM ?_ | ((with_reducible apply At.lit Ev.cells [(⟨(l[n]!).T + dd, (l[n]!).V, (l[n]!).C + dd, (l[n]!).S⟩ : Ev)]); exact inferInstance; (iterate 7 exact rfl); intro _) | ((with_reducible apply At.apW (f := Ev.cells)); exact rfl; exact rfl; exact (by repeat constructor); exact inferInstance; exact zrdl; (iterate 4 exact rfl); exact zom; exact rfl; intro p3 c3) | ((with_reducible apply At.box (d := 6)); exact rfl; exact rfl; exact rfl; intro b6) | ((with_reducible apply At.alloc (d := 16)); exact rfl; exact rfl; intro b16) | ((with_reducible apply At.alloc (d := 17)); exact rfl; exact rfl; intro b17) | ((with_reducible apply At.alloc (d := 19)); exact rfl; exact rfl; intro b19) | ((with_reducible apply At.alloc (d := 21)); exact rfl; exact rfl; intro b21) | ((with_reducible apply At.alloc (d := 23)); exact rfl; exact rfl; intro b23) | (refine zsp ?_ ?_ <;> (intro hc; (try simp only [zhcs, reduceCtorEq] at hc); (try (exfalso; first | omega | contradiction | omega | exact absurd rfl hc | exact absurd (by decide) hc))))))
        all_goals ((with_reducible refine At.reachk ((⟨n + 1, p3, c3, O ++ [(⟨(l[n]!).T + dd, (l[n]!).V, (l[n]!).C + dd, (l[n]!).S⟩ : Ev)]⟩ : SS)) ?_ ?_ ?_ ?_); exact zsubs; exact zml; exact zente; exact ⟨⟨hnl, hO2, hok2⟩, by dsimp only; omega⟩)
      · have el : later dd l[n]! = ⟨(l[n]!).T + dd, (l[n]!).V, (l[n]!).C, (l[n]!).S⟩ := by unfold later; rw [if_neg hC]
        rw [el] at hO2
        clear el
        (repeat' (first | refine zss ?_ | ((first | (with_reducible first | apply At.val | apply AtQ.val)); (exact pr_add (by rfl) (by rfl) hT); exact rfl) | refine zsM ?_ | ((with_reducible apply At.lit Ev.cells [(⟨(l[n]!).T + dd, (l[n]!).V, (l[n]!).C, (l[n]!).S⟩ : Ev)]); exact inferInstance; (iterate 7 exact rfl); intro _) | ((with_reducible apply At.apW (f := Ev.cells)); exact rfl; exact rfl; exact (by repeat constructor); exact inferInstance; exact zrdl; (iterate 4 exact rfl); exact zom; exact rfl; intro p3 c3) | ((with_reducible apply At.box (d := 6)); exact rfl; exact rfl; exact rfl; intro b6) | ((with_reducible apply At.alloc (d := 16)); exact rfl; exact rfl; intro b16) | ((with_reducible apply At.alloc (d := 17)); exact rfl; exact rfl; intro b17) | ((with_reducible apply At.alloc (d := 19)); exact rfl; exact rfl; intro b19) | ((with_reducible apply At.alloc (d := 21)); exact rfl; exact rfl; intro b21) | ((with_reducible apply At.alloc (d := 23)); exact rfl; exact rfl; intro b23) | (refine zsp ?_ ?_ <;> (intro hc; (try simp only [zhcs, reduceCtorEq] at hc); (try (exfalso; first | omega | contradiction | omega | exact absurd rfl hc | exact absurd (by decide) hc))))))
        all_goals ((with_reducible refine At.reachk ((⟨n + 1, p3, c3, O ++ [(⟨(l[n]!).T + dd, (l[n]!).V, (l[n]!).C, (l[n]!).S⟩ : Ev)]⟩ : SS)) ?_ ?_ ?_ ?_); exact zsubs; exact zml; exact zente; exact ⟨⟨hnl, hO2, hok2⟩, by dsimp only; omega⟩)
    · clear hsn hO hok hlv kf1 kp1 hG h1 hev
      by_cases hC : 0 < (l[n]!).C
      · have hCw : IntKind.wrap .i64 ((l[n]!).C + dd) = (l[n]!).C + dd := IntWalk.i64_in _ (by omega)
        (repeat' (first | refine zss ?_ | ((first | (with_reducible first | apply At.val | apply AtQ.val)); (first | exact pr_add (by rfl) (by rfl) hT | exact pr_add (by rfl) (by rfl) hCw); exact rfl) | refine zsM ?_ | ((with_reducible apply At.box (d := 6)); exact rfl; exact rfl; exact rfl; intro b6) | ((with_reducible apply At.alloc (d := 16)); exact rfl; exact rfl; intro b16) | ((with_reducible apply At.alloc (d := 17)); exact rfl; exact rfl; intro b17) | ((with_reducible apply At.alloc (d := 19)); exact rfl; exact rfl; intro b19) | ((with_reducible apply At.alloc (d := 21)); exact rfl; exact rfl; intro b21) | ((with_reducible apply At.alloc (d := 23)); exact rfl; exact rfl; intro b23) | (refine zsp ?_ ?_ <;> (intro hc; (try simp only [zhcs, reduceCtorEq] at hc); (try (exfalso; first | omega | contradiction | omega | exact absurd rfl hc | exact absurd (by decide) hc))))))
        all_goals ((with_reducible apply At.retB1 (B := [])); exact rfl; exact rfl; exact zml; exact zkp; exact ⟨rfl, rfl⟩)
      · (repeat' (first | refine zss ?_ | ((first | (with_reducible first | apply At.val | apply AtQ.val)); (exact pr_add (by rfl) (by rfl) hT); exact rfl) | refine zsM ?_ | ((with_reducible apply At.box (d := 6)); exact rfl; exact rfl; exact rfl; intro b6) | ((with_reducible apply At.alloc (d := 16)); exact rfl; exact rfl; intro b16) | ((with_reducible apply At.alloc (d := 17)); exact rfl; exact rfl; intro b17) | ((with_reducible apply At.alloc (d := 19)); exact rfl; exact rfl; intro b19) | ((with_reducible apply At.alloc (d := 21)); exact rfl; exact rfl; intro b21) | ((with_reducible apply At.alloc (d := 23)); exact rfl; exact rfl; intro b23) | (refine zsp ?_ ?_ <;> (intro hc; (try simp only [zhcs, reduceCtorEq] at hc); (try (exfalso; first | omega | contradiction | omega | exact absurd rfl hc | exact absurd (by decide) hc))))))
        all_goals ((with_reducible apply At.retB1 (B := [])); exact rfl; exact rfl; exact zml; exact zkp; exact ⟨rfl, rfl⟩)
  rw [List.take_of_length_le (by omega)] at hO hok
  have hGm := good_later hG hok
  rw [← hO] at hGm
  have hOl : O.length = l.length := by rw [hO, List.length_map]
  (refine At.own_freeze inferInstance (by repeat constructor) fun m' hm' sl1 => ?_; (try replace sl0 := sl0.mono hm'))
  have kp2 := fun (m2 : Mem) (h : m'.le m2) => put8 (m := m2) K pp cc O h1.1 hGm (by omega) (sl1.mono h)
  obtain ⟨⟨f1, ef1, eb, g1, g2⟩, ⟨f2, ef2, ed, g3, g4⟩⟩ := cfg_f h1.1
  have hf2 : 0 ≤ f2 * by_ := Int.mul_nonneg (by omega) hby.1
  have hf1 : 0 ≤ f1 * (f2 * by_) := Int.mul_nonneg (by omega) hf2
  have hW2 : K.b * (f2 * by_) = dd := by rw [← Int.mul_assoc, ← ed]; exact hdd
  have hW1 : K.a * (f1 * (f2 * by_)) = dd := by rw [← Int.mul_assoc, ← eb]; exact hW2
  clear hlv kf1 ef1 eb g1 g2 ef2 ed g3 g4 hmu
  generalize f1 * (f2 * by_) = D1 at *
  generalize f2 * by_ = D2 at *
  (repeat' (first | (refine At.cutp (id := 19) (False) 108 [3, 4, 5, 6, 13, 17, 19] (by rfl) ?_ ?_) | refine zss ?_ | refine zsM ?_ | ((with_reducible first | apply At.c1 | apply At.c0); exact rfl; exact rfl; exact kp1 _ zml; exact ztk; kernel_rfl; rintro v' m' B' hm' ⟨rfl, x, rfl, hx9, hI, -⟩; (try replace sl0 := sl0.mono hm'); (try replace sl1 := sl1.mono hm'); (try (have hq0 : hm' = Mem.le_refl _ := rfl; clear hq0 hm'))) | ((with_reducible first | apply At.c1 | apply At.c0); exact rfl; exact rfl; exact kp2 _ zml; exact ztk; kernel_rfl; rintro v' m' B' hm' ⟨rfl, y, rfl, hy9, hJ, -⟩; (try replace sl0 := sl0.mono hm'); (try replace sl1 := sl1.mono hm'); (try (have hq0 : hm' = Mem.le_refl _ := rfl; clear hq0 hm'))) | ((with_reducible apply At.endp); exact rfl; exact zsubs; exact zml; exact zente; (first | (simp_all; done) | (simp_all <;> omega))) | ((with_reducible apply At.box (d := 6)); exact rfl; exact rfl; exact rfl; intro b6) | ((with_reducible apply At.alloc (d := 16)); exact rfl; exact rfl; intro b16) | ((with_reducible apply At.alloc (d := 17)); exact rfl; exact rfl; intro b17) | ((with_reducible apply At.alloc (d := 19)); exact rfl; exact rfl; intro b19) | ((with_reducible apply At.alloc (d := 21)); exact rfl; exact rfl; intro b21) | ((with_reducible apply At.alloc (d := 23)); exact rfl; exact rfl; intro b23) | (refine zsp ?_ ?_ <;> (intro hc; (try simp only [zhcs, reduceCtorEq] at hc); (try (exfalso; first | (first | omega | exact absurd rfl hc | exact hc) | contradiction | omega | exact absurd rfl hc | exact absurd (by decide) hc))))))
  replace hx9 := hx9.mono (show Mem.le _ m' from zml)
  have hrl : x.raw.l.length = y.raw.l.length := by
    have := hI.raw.n
    have := hJ.raw.n
    rw [hOl] at this
    omega
  have hlo : x.lost = y.lost := by
    have := hI.raw.lo
    have := hJ.raw.lo
    rw [hOl, ← hrl] at this
    omega
  have hab := h1.1.ha
  have hbb := h1.1.hb
  · have hq : IntKind.wrap .i64 (dd.tdiv K.b) = D2 := by
      rw [quo_nn (by omega) hbb.1, ← hW2]
      exact Int.mul_ediv_cancel_left _ (by omega)
    have hDd : D2 ≤ dd := by
      have h5 := Int.ediv_le_self K.b hd1
      rw [← hW2, Int.mul_ediv_cancel_left _ (by omega), hW2] at h5
      exact h5
    have hW0 : K.b ≠ 0 := by omega
    have hs1 : IntKind.wrap .i64 (i + D2) = i + D2 := IntWalk.i64_in _ (by omega)
    have hs2 : IntKind.wrap .i64 (j + D2) = j + D2 := IntWalk.i64_in _ (by omega)
    have hr := rg_later (K := K) (L := l) (k := 1) (i := i) (j := j) (D := D2) hf2 hbb.1 hG (by rw [show Kw K 1 * D2 = dd from hW2]; exact hok)
    rw [show Kw K 1 * D2 = dd from hW2, ← hO] at hr
    obtain ⟨F', L', er, hcs⟩ := hr
    have kr1 := fun (m2 : Mem) (h : m'.le m2) => range1 (m := m2) K x l i j hI (hx9.mono h) (by omega) (by omega)
    have kr2 := fun (m2 : Mem) (h : m'.le m2) => range1 (m := m2) K y O (i + D2) (j + D2) hJ (hy9.mono h) (by omega) (by omega)
    rw [er] at kr2
    clear er hI hJ hx9 hy9 kp1 kp2 hG hGm hO hok h1
    generalize rg K l 1 i j = A at *
    by_cases hA0 : A.n = 0
    · clear hcs
      (repeat' (first | (refine At.cutp (id := 23) (False) 181 [13, 17, 19, 21, 23] (by rfl) ?_ ?_) | (refine At.cutp (id := 25) (True) 12 [] (by rfl) ?_ ?_) | ((with_reducible apply At.mixed (id := 22) 26 (.q 0 (.q 1 (.q 2 (.q 3 (.q 4 (.q 5 (.q 6 (.q 7 (.q 8 (.q 9 (.q 10 (.q 11 (.q 12 (.q 13 (.q 14 (.q 15 (.q 16 (.q 17 (.q 18 (.b 19 23 (.q 20 (.q 21 (.q 22 (.l 23 (.x 24 (.q 25 .done)))))) (.l 19 (.q 20 (.q 21 (.q 22 (.x 24 (.q 25 .done))))))))))))))))))))))))))); exact rfl; kernel_rfl; kernel_rfl; kernel_rfl) | refine zsx ?_ | refine zss ?_ | ((with_reducible apply AtM.bo); exact rfl; exact rfl; exact rfl) | ((first | (with_reducible first | apply At.val | apply AtQ.val) | ((with_reducible first | apply AtM1.valz | apply AtM1.val); exact rfl) | ((with_reducible apply AtM1.val); exact rfl)); (first | exact pr_indexArr (k := 1) (by rfl) (by rfl) (by rfl) (by rfl) (by decide) | exact pr_quo (by rfl) (by rfl) hW0 hq | exact pr_add (by rfl) (by rfl) hs1 | exact pr_add (by rfl) (by rfl) hs2 | exact pr_wne (a := A.I) (b := A.I) (by rfl) (by rfl)); exact rfl) | refine zsM ?_ | refine zxM ?_ | ((with_reducible first | apply AtM1.cr | apply AtQ.cr | apply At.cr); exact rfl; exact rfl; exact fun _ hmm => kr1 _ zml; exact ztk; kernel_rfl) | ((with_reducible first | apply AtM1.cr | apply AtQ.cr | apply At.cr); exact rfl; exact rfl; exact fun _ hmm => kr2 _ zml; exact ztk; kernel_rfl) | ((with_reducible apply At.endp); exact rfl; exact zsubs; exact zml; exact zente; (first | (simp_all; done) | (simp_all <;> omega))) | ((with_reducible apply At.endp); exact rfl; exact zsubs; exact zml; exact zente; (first | (simp_all; done) | (simp_all <;> omega))) | ((with_reducible apply At.box (d := 6)); exact rfl; exact rfl; exact rfl; intro b6) | ((with_reducible apply At.alloc (d := 16)); exact rfl; exact rfl; intro b16) | ((with_reducible apply At.alloc (d := 17)); exact rfl; exact rfl; intro b17) | ((with_reducible apply At.alloc (d := 19)); exact rfl; exact rfl; intro b19) | ((with_reducible apply At.alloc (d := 21)); exact rfl; exact rfl; intro b21) | ((with_reducible apply At.alloc (d := 23)); exact rfl; exact rfl; intro b23) | (refine zsp ?_ ?_ <;> (intro hc; (try simp only [zhcs, reduceCtorEq] at hc); (try (exfalso; first | (first | omega | exact absurd rfl hc | exact hc) | contradiction | omega | exact absurd rfl hc | exact absurd (by decide) hc))))))
      all_goals ((with_reducible apply At.retB1 (B := [])); exact rfl; exact rfl; exact zml; exact zkp; exact ⟨by first | rfl | (simp; done) | (simp [hrl, hlo]; done), rfl⟩)
    · obtain ⟨c1, c2, c3, c4, c5, c6⟩ := hcs.resolve_left hA0
      have ha1 : IntKind.wrap .i64 (A.F.T + dd) = F'.T := by rw [← c1]; exact IntWalk.i64_in _ (by omega)
      have ha2 : IntKind.wrap .i64 (A.L.T + dd) = L'.T := by rw [← c2]; exact IntWalk.i64_in _ (by omega)
      clear hcs
      (repeat' (first | (refine At.cutp (id := 23) (False) 181 [13, 17, 19, 21, 23] (by rfl) ?_ ?_) | ((with_reducible apply At.mixed (id := 22) 26 (.q 0 (.q 1 (.q 2 (.q 3 (.q 4 (.q 5 (.q 6 (.q 7 (.q 8 (.q 9 (.q 10 (.q 11 (.q 12 (.q 13 (.q 14 (.q 15 (.q 16 (.q 17 (.q 18 (.b 19 23 (.q 20 (.q 21 (.q 22 (.l 23 (.x 24 (.q 25 .done)))))) (.l 19 (.q 20 (.q 21 (.q 22 (.x 24 (.q 25 .done))))))))))))))))))))))))))); exact rfl; kernel_rfl; kernel_rfl; kernel_rfl) | refine zsx ?_ | refine zss ?_ | ((with_reducible apply AtM.bo); exact rfl; exact rfl; exact rfl) | ((first | (with_reducible first | apply At.val | apply AtQ.val) | ((with_reducible first | apply AtM1.valz | apply AtM1.val); exact rfl) | ((with_reducible apply AtM1.val); exact rfl)); (first | exact pr_indexArr (k := 1) (by rfl) (by rfl) (by rfl) (by rfl) (by decide) | exact pr_quo (by rfl) (by rfl) hW0 hq | exact pr_add (by rfl) (by rfl) hs1 | exact pr_add (by rfl) (by rfl) hs2 | exact pr_add (by rfl) (by rfl) ha1 | exact pr_add (by rfl) (by rfl) ha2 | exact pr_wne (a := A.I) (b := A.I) (by rfl) (by rfl)); exact rfl) | refine zsM ?_ | refine zxM ?_ | ((with_reducible first | apply AtM1.cr | apply AtQ.cr | apply At.cr); exact rfl; exact rfl; exact fun _ hmm => kr1 _ zml; exact ztk; kernel_rfl) | ((with_reducible first | apply AtM1.cr | apply AtQ.cr | apply At.cr); exact rfl; exact rfl; exact fun _ hmm => kr2 _ zml; exact ztk; kernel_rfl) | ((with_reducible apply At.endp); exact rfl; exact zsubs; exact zml; exact zente; (first | (simp_all; done) | (simp_all <;> omega))) | ((with_reducible apply At.box (d := 6)); exact rfl; exact rfl; exact rfl; intro b6) | ((with_reducible apply At.alloc (d := 16)); exact rfl; exact rfl; intro b16) | ((with_reducible apply At.alloc (d := 17)); exact rfl; exact rfl; intro b17) | ((with_reducible apply At.alloc (d := 19)); exact rfl; exact rfl; intro b19) | ((with_reducible apply At.alloc (d := 21)); exact rfl; exact rfl; intro b21) | ((with_reducible apply At.alloc (d := 23)); exact rfl; exact rfl; intro b23) | (refine zsp ?_ ?_ <;> (intro hc; (try simp only [zhcs, reduceCtorEq] at hc); (try (exfalso; first | (first | omega | exact absurd rfl hc | exact hc) | contradiction | omega | exact absurd rfl hc | exact absurd (by decide) hc))))))
      all_goals ((with_reducible apply At.retB1 (B := [])); exact rfl; exact rfl; exact zml; exact zkp; exact ⟨by first | rfl | (simp; done) | (simp [hrl, hlo]; done), rfl⟩)
end T8
end Go.Proofs.YtjdlnckifhifbaaGreat
/- TopShifted: tier 2. -/
set_option linter.unusedSimpArgs false
set_option linter.unusedVariables false
set_option linter.unusedSectionVars false
set_option maxRecDepth 20000
set_option maxHeartbeats 4000000
namespace Go.Proofs.YtjdlnckifhifbaaGreat
open Go Go.J
attribute [local irreducible] At AtQ AtM AtM1 PR Ct Pu Rd Res.blk Res.own Res.ex RVs RV
namespace T8
open Slot Ti Gr Se Sv Top4
open Fo hiding pt
set_option maxRecDepth 100000 in
theorem shift2 {m : Mem} (K : Cfg) (p : Option Addr) (c : Nat) (l : List Ev) (by_ i j : Int) (hby : 0 ≤ by_ ∧ by_ ≤ 255) (hV : ∀ e ∈ l, e.V < 18446744073709551616) (h1 : ft K l) (h3 : ((0 : Int) ≤ 2 ∧ (2 : Int) ≤ 2) ∧ (0 ≤ i ∧ i ≤ j) ∧ j ≤ 1099511627776 ∧ K.d ≤ 1073741824) (sl0 : Sl m Ev.cells 4 p c l) :
    Ct Tryz.prog 3 #[K.v, .slice p l.length c, .int .u8 by_, .int .i64 2, .int .i64 i, .int .i64 j] m [] (fun v m' B => v = .bool true ∧ B = []) := by
  have hlv := fun (m' : Mem) (h : m.le m') => begins8 (m := m')
  have kf1 := fun (m' : Mem) (h : m.le m') => fits8 (m := m') K p c l hV (sl0.mono h)
  rw [decide_eq_true h1] at kf1
  have hln : l.length ≤ 60 := h1.2.2.1
  have hG : Gr.Good l := by
    obtain ⟨g1, g2⟩ := Mrg.chk_zero.1 h1.2.2.2
    exact ⟨fun e he => ⟨g1 e he, hV e he⟩, g2⟩
  have hKd := h1.1.hd
  have hd1 : 0 ≤ K.d * by_ := Int.mul_nonneg (by omega) hby.1
  have hd2 : K.d * by_ ≤ 1073741824 * 255 := Int.mul_le_mul h3.2.2.2 hby.2 hby.1 (by decide)
  obtain ⟨dd, hdd⟩ : ∃ dd, K.d * by_ = dd := ⟨_, rfl⟩
  have hmu : IntKind.wrap .i64 (K.d * by_) = dd := (IntWalk.i64_in _ (by omega)).trans hdd
  have kp1 := fun (m' : Mem) (h : m.le m') => put8 (m := m') K p c l h1.1 hG (by omega) (sl0.mono h)
  rw [hdd] at hd1 hd2
  clear hV
  refine Ct.enterV (by rfl) Tryz.func3 rfl Tryz.ntmps3 rfl (fun w0 Rest => ?_)
  (repeat' (first | (refine At.cutp (id := 3) (False) 57 [1, 2, 3, 4, 5, 6] (by rfl) ?_ ?_) | refine zss ?_ | ((first | (with_reducible first | apply At.val | apply AtQ.val)); (first | exact pr_indexArr (k := 2) (by rfl) (by rfl) (by rfl) (by rfl) (by decide) | exact pr_mul (by rfl) (by rfl) hmu); exact rfl) | refine zsM ?_ | ((with_reducible first | apply AtM1.cr | apply AtQ.cr | apply At.cr); exact rfl; exact rfl; exact fun _ hmm => hlv _ zml; exact ztk; kernel_rfl) | ((with_reducible first | apply AtM1.cr | apply AtQ.cr | apply At.cr); exact rfl; exact rfl; exact fun _ hmm => kf1 _ hmm; exact ztk; kernel_rfl) | ((with_reducible apply At.endp); exact rfl; exact zsubs; exact zml; exact zente; (first | (simp_all; done) | (simp_all <;> omega))) | ((with_reducible apply At.box (d := 6)); exact rfl; exact rfl; exact rfl; intro b6) | ((with_reducible apply At.alloc (d := 16)); exact rfl; exact rfl; intro b16) | ((with_reducible apply At.alloc (d := 17)); exact rfl; exact rfl; intro b17) | ((with_reducible apply At.alloc (d := 19)); exact rfl; exact rfl; intro b19) | ((with_reducible apply At.alloc (d := 21)); exact rfl; exact rfl; intro b21) | ((with_reducible apply At.alloc (d := 23)); exact rfl; exact rfl; intro b23) | (refine zsp ?_ ?_ <;> (intro hc; (try simp only [zhcs, reduceCtorEq] at hc); (try (exfalso; first | (first | omega | exact absurd rfl hc | exact hc) | contradiction | omega | exact absurd rfl hc | exact absurd (by decide) hc))))))
  refine At.own_nil Ev.cells 4 31 ?_
  (refine At.loopk (σ := SS) [1, 3, 4, 5, 6, 13, 64, 65] (fun s F0 => (66, .int .i64 (s.k : Int)) :: (14, .slice s.p s.O.length s.c) :: F0) (fun s => m) (fun s => .own Ev.cells 4 31 s.p s.c s.O :: .blk b6 25 K.cells :: Rest) (fun s => s.k ≤ l.length ∧ s.O = (l.take s.k).map (later dd) ∧ ∀ e ∈ l.take s.k, (later dd e).ok) (fun s => l.length - s.k) ⟨0, none, 0, []⟩ (by rfl) ?_ zsubs zml zente ?_)
  · exact ⟨Nat.zero_le _, rfl, fun e he => absurd he List.not_mem_nil⟩
  rintro ⟨n, pp, cc, O⟩ ⟨hn, hO, hok⟩
  dsimp only at hn hO hok ⊢
  by_cases hnl : n < l.length
  · have hsn := Ls.take_snoc hnl
    have hev := (hG.1 l[n]! (by rw [getElem!_pos l n hnl]; exact List.getElem_mem hnl)).1
    have hOl : O.length ≤ 60 := by rw [hO, List.length_map, List.length_take]; omega
    have heo := hev
    unfold Ev.ok at heo
    have hT : IntKind.wrap .i64 ((l[n]!).T + dd) = (l[n]!).T + dd := IntWalk.i64_in _ (by omega)
    by_cases hTb : (l[n]!).T + dd < 35184372088832
    · have hlo := (later_ok hd1 hev).2 hTb
      have hO2 : O ++ [later dd l[n]!] = (l.take (n + 1)).map (later dd) := by rw [hsn, List.map_append, ← hO]; rfl
      have hok2 : ∀ e ∈ l.take (n + 1), (later dd e).ok := fun e he => by
        rw [hsn] at he
        rcases List.mem_append.1 he with he | he
        · exact hok e he
        · rw [List.mem_singleton.1 he]; exact hlo
      clear hsn hlo hO hok hlv kf1 kp1 hG h1 hev
      by_cases hC : 0 < (l[n]!).C
      · have hCw : IntKind.wrap .i64 ((l[n]!).C + dd) = (l[n]!).C + dd := IntWalk.i64_in _ (by omega)
        have el : later dd l[n]! = ⟨(l[n]!).T + dd, (l[n]!).V, (l[n]!).C + dd, (l[n]!).S⟩ := by unfold later; rw [if_pos hC]
        rw [el] at hO2
        clear el
        (repeat' (first | refine zss ?_ | ((first | (with_reducible first | apply At.val | apply AtQ.val)); (first | exact pr_add (by rfl) (by rfl) hT | exact pr_add (by rfl) (by rfl) hCw); exact rfl) | refine zsM ?_ | ((with_reducible apply At.lit Ev.cells [(⟨(l[n]!).T + dd, (l[n]!).V, (l[n]!).C + dd, (l[n]!).S⟩ : Ev)]); exact inferInstance; (iterate 7 exact rfl); intro _) | ((with_reducible apply At.apW (f := Ev.cells)); exact rfl; exact rfl; exact (by repeat constructor); exact inferInstance; exact zrdl; (iterate 4 exact rfl); exact zom; exact rfl; intro p3 c3) | ((with_reducible apply At.box (d := 6)); exact rfl; exact rfl; exact rfl; intro b6) | ((with_reducible apply At.alloc (d := 16)); exact rfl; exact rfl; intro b16) | ((with_reducible apply At.alloc (d := 17)); exact rfl; exact rfl; intro b17) | ((with_reducible apply At.alloc (d := 19)); exact rfl; exact rfl; intro b19) | ((with_reducible apply At.alloc (d := 21)); exact rfl; exact rfl; intro b21) | ((with_reducible apply At.alloc (d := 23)); exact rfl; exact rfl; intro b23) | (refine zsp ?_ ?_ <;> (intro hc; (try simp only [zhcs, reduceCtorEq] at hc); (try (exfalso; first | omega | contradiction | omega | exact absurd rfl hc | exact absurd (by decide) hc))))))
        all_goals ((with_reducible refine At.reachk ((⟨n + 1, p3, c3, O ++ [(⟨(l[n]!).T + dd, (l[n]!).V, (l[n]!).C + dd, (l[n]!).S⟩ : Ev)]⟩ : SS)) ?_ ?_ ?_ ?_); exact zsubs; exact zml; exact zente; exact ⟨⟨hnl, hO2, hok2⟩, by dsimp only; omega⟩)
      · have el : later dd l[n]! = ⟨(l[n]!).T + dd, (l[n]!).V, (l[n]!).C, (l[n]!).S⟩ := by unfold later; rw [if_neg hC]
        rw [el] at hO2
        clear el
        (repeat' (first | refine zss ?_ | ((first | (with_reducible first | apply At.val | apply AtQ.val)); (exact pr_add (by rfl) (by rfl) hT); exact rfl) | refine zsM ?_ | ((with_reducible apply At.lit Ev.cells [(⟨(l[n]!).T + dd, (l[n]!).V, (l[n]!).C, (l[n]!).S⟩ : Ev)]); exact inferInstance; (iterate 7 exact rfl); intro _) | ((with_reducible apply At.apW (f := Ev.cells)); exact rfl; exact rfl; exact (by repeat constructor); exact inferInstance; exact zrdl; (iterate 4 exact rfl); exact zom; exact rfl; intro p3 c3) | ((with_reducible apply At.box (d := 6)); exact rfl; exact rfl; exact rfl; intro b6) | ((with_reducible apply At.alloc (d := 16)); exact rfl; exact rfl; intro b16) | ((with_reducible apply At.alloc (d := 17)); exact rfl; exact rfl; intro b17) | ((with_reducible apply At.alloc (d := 19)); exact rfl; exact rfl; intro b19) | ((with_reducible apply At.alloc (d := 21)); exact rfl; exact rfl; intro b21) | ((with_reducible apply At.alloc (d := 23)); exact rfl; exact rfl; intro b23) | (refine zsp ?_ ?_ <;> (intro hc; (try simp only [zhcs, reduceCtorEq] at hc); (try (exfalso; first | omega | contradiction | omega | exact absurd rfl hc | exact absurd (by decide) hc))))))
        all_goals ((with_reducible refine At.reachk ((⟨n + 1, p3, c3, O ++ [(⟨(l[n]!).T + dd, (l[n]!).V, (l[n]!).C, (l[n]!).S⟩ : Ev)]⟩ : SS)) ?_ ?_ ?_ ?_); exact zsubs; exact zml; exact zente; exact ⟨⟨hnl, hO2, hok2⟩, by dsimp only; omega⟩)
    · clear hsn hO hok hlv kf1 kp1 hG h1 hev
      by_cases hC : 0 < (l[n]!).C
      · have hCw : IntKind.wrap .i64 ((l[n]!).C + dd) = (l[n]!).C + dd := IntWalk.i64_in _ (by omega)
        (repeat' (first | refine zss ?_ | ((first | (with_reducible first | apply At.val | apply AtQ.val)); (first | exact pr_add (by rfl) (by rfl) hT | exact pr_add (by rfl) (by rfl) hCw); exact rfl) | refine zsM ?_ | ((with_reducible apply At.box (d := 6)); exact rfl; exact rfl; exact rfl; intro b6) | ((with_reducible apply At.alloc (d := 16)); exact rfl; exact rfl; intro b16) | ((with_reducible apply At.alloc (d := 17)); exact rfl; exact rfl; intro b17) | ((with_reducible apply At.alloc (d := 19)); exact rfl; exact rfl; intro b19) | ((with_reducible apply At.alloc (d := 21)); exact rfl; exact rfl; intro b21) | ((with_reducible apply At.alloc (d := 23)); exact rfl; exact rfl; intro b23) | (refine zsp ?_ ?_ <;> (intro hc; (try simp only [zhcs, reduceCtorEq] at hc); (try (exfalso; first | omega | contradiction | omega | exact absurd rfl hc | exact absurd (by decide) hc))))))
        all_goals ((with_reducible apply At.retB1 (B := [])); exact rfl; exact rfl; exact zml; exact zkp; exact ⟨rfl, rfl⟩)
      · (repeat' (first | refine zss ?_ | ((first | (with_reducible first | apply At.val | apply AtQ.val)); (exact pr_add (by rfl) (by rfl) hT); exact rfl) | refine zsM ?_ | ((with_reducible apply At.box (d := 6)); exact rfl; exact rfl; exact rfl; intro b6) | ((with_reducible apply At.alloc (d := 16)); exact rfl; exact rfl; intro b16) | ((with_reducible apply At.alloc (d := 17)); exact rfl; exact rfl; intro b17) | ((with_reducible apply At.alloc (d := 19)); exact rfl; exact rfl; intro b19) | ((with_reducible apply At.alloc (d := 21)); exact rfl; exact rfl; intro b21) | ((with_reducible apply At.alloc (d := 23)); exact rfl; exact rfl; intro b23) | (refine zsp ?_ ?_ <;> (intro hc; (try simp only [zhcs, reduceCtorEq] at hc); (try (exfalso; first | omega | contradiction | omega | exact absurd rfl hc | exact absurd (by decide) hc))))))
        all_goals ((with_reducible apply At.retB1 (B := [])); exact rfl; exact rfl; exact zml; exact zkp; exact ⟨rfl, rfl⟩)
  rw [List.take_of_length_le (by omega)] at hO hok
  have hGm := good_later hG hok
  rw [← hO] at hGm
  have hOl : O.length = l.length := by rw [hO, List.length_map]
  (refine At.own_freeze inferInstance (by repeat constructor) fun m' hm' sl1 => ?_; (try replace sl0 := sl0.mono hm'))
  have kp2 := fun (m2 : Mem) (h : m'.le m2) => put8 (m := m2) K pp cc O h1.1 hGm (by omega) (sl1.mono h)
  obtain ⟨⟨f1, ef1, eb, g1, g2⟩, ⟨f2, ef2, ed, g3, g4⟩⟩ := cfg_f h1.1
  have hf2 : 0 ≤ f2 * by_ := Int.mul_nonneg (by omega) hby.1
  have hf1 : 0 ≤ f1 * (f2 * by_) := Int.mul_nonneg (by omega) hf2
  have hW2 : K.b * (f2 * by_) = dd := by rw [← Int.mul_assoc, ← ed]; exact hdd
  have hW1 : K.a * (f1 * (f2 * by_)) = dd := by rw [← Int.mul_assoc, ← eb]; exact hW2
  clear hlv kf1 ef1 eb g1 g2 ef2 ed g3 g4 hmu
  generalize f1 * (f2 * by_) = D1 at *
  generalize f2 * by_ = D2 at *
  (repeat' (first | (refine At.cutp (id := 19) (False) 108 [3, 4, 5, 6, 13, 17, 19] (by rfl) ?_ ?_) | refine zss ?_ | refine zsM ?_ | ((with_reducible first | apply At.c1 | apply At.c0); exact rfl; exact rfl; exact kp1 _ zml; exact ztk; kernel_rfl; rintro v' m' B' hm' ⟨rfl, x, rfl, hx9, hI, -⟩; (try replace sl0 := sl0.mono hm'); (try replace sl1 := sl1.mono hm'); (try (have hq0 : hm' = Mem.le_refl _ := rfl; clear hq0 hm'))) | ((with_reducible first | apply At.c1 | apply At.c0); exact rfl; exact rfl; exact kp2 _ zml; exact ztk; kernel_rfl; rintro v' m' B' hm' ⟨rfl, y, rfl, hy9, hJ, -⟩; (try replace sl0 := sl0.mono hm'); (try replace sl1 := sl1.mono hm'); (try (have hq0 : hm' = Mem.le_refl _ := rfl; clear hq0 hm'))) | ((with_reducible apply At.endp); exact rfl; exact zsubs; exact zml; exact zente; (first | (simp_all; done) | (simp_all <;> omega))) | ((with_reducible apply At.box (d := 6)); exact rfl; exact rfl; exact rfl; intro b6) | ((with_reducible apply At.alloc (d := 16)); exact rfl; exact rfl; intro b16) | ((with_reducible apply At.alloc (d := 17)); exact rfl; exact rfl; intro b17) | ((with_reducible apply At.alloc (d := 19)); exact rfl; exact rfl; intro b19) | ((with_reducible apply At.alloc (d := 21)); exact rfl; exact rfl; intro b21) | ((with_reducible apply At.alloc (d := 23)); exact rfl; exact rfl; intro b23) | (refine zsp ?_ ?_ <;> (intro hc; (try simp only [zhcs, reduceCtorEq] at hc); (try (exfalso; first | (first | omega | exact absurd rfl hc | exact hc) | contradiction | omega | exact absurd rfl hc | exact absurd (by decide) hc))))))
  replace hx9 := hx9.mono (show Mem.le _ m' from zml)
  have hrl : x.raw.l.length = y.raw.l.length := by
    have := hI.raw.n
    have := hJ.raw.n
    rw [hOl] at this
    omega
  have hlo : x.lost = y.lost := by
    have := hI.raw.lo
    have := hJ.raw.lo
    rw [hOl, ← hrl] at this
    omega
  have hab := h1.1.ha
  have hbb := h1.1.hb
  · have hq : IntKind.wrap .i64 (dd.tdiv K.d) = by_ := by
      rw [quo_nn (by omega) hKd.1, ← hdd]
      exact Int.mul_ediv_cancel_left _ (by omega)
    have hDd : by_ ≤ dd := by
      have h5 := Int.ediv_le_self K.d hd1
      rw [← hdd, Int.mul_ediv_cancel_left _ (by omega), hdd] at h5
      exact h5
    have hW0 : K.d ≠ 0 := by omega
    have hs1 : IntKind.wrap .i64 (i + by_) = i + by_ := IntWalk.i64_in _ (by omega)
    have hs2 : IntKind.wrap .i64 (j + by_) = j + by_ := IntWalk.i64_in _ (by omega)
    have hr := rg_later (K := K) (L := l) (k := 2) (i := i) (j := j) (D := by_) hby.1 hKd.1 hG (by rw [show Kw K 2 * by_ = dd from hdd]; exact hok)
    rw [show Kw K 2 * by_ = dd from hdd, ← hO] at hr
    obtain ⟨F', L', er, hcs⟩ := hr
    have kr1 := fun (m2 : Mem) (h : m'.le m2) => range2 (m := m2) K x l i j hI (hx9.mono h) (by omega) (by omega)
    have kr2 := fun (m2 : Mem) (h : m'.le m2) => range2 (m := m2) K y O (i + by_) (j + by_) hJ (hy9.mono h) (by omega) (by omega)
    rw [er] at kr2
    clear er hI hJ hx9 hy9 kp1 kp2 hG hGm hO hok h1
    generalize rg K l 2 i j = A at *
    by_cases hA0 : A.n = 0
    · clear hcs
      (repeat' (first | (refine At.cutp (id := 23) (False) 181 [13, 17, 19, 21, 23] (by rfl) ?_ ?_) | (refine At.cutp (id := 25) (True) 12 [] (by rfl) ?_ ?_) | ((with_reducible apply At.mixed (id := 22) 26 (.q 0 (.q 1 (.q 2 (.q 3 (.q 4 (.q 5 (.q 6 (.q 7 (.q 8 (.q 9 (.q 10 (.q 11 (.q 12 (.q 13 (.q 14 (.q 15 (.q 16 (.q 17 (.q 18 (.b 19 23 (.q 20 (.q 21 (.q 22 (.l 23 (.x 24 (.q 25 .done)))))) (.l 19 (.q 20 (.q 21 (.q 22 (.x 24 (.q 25 .done))))))))))))))))))))))))))); exact rfl; kernel_rfl; kernel_rfl; kernel_rfl) | refine zsx ?_ | refine zss ?_ | ((with_reducible apply AtM.bo); exact rfl; exact rfl; exact rfl) | ((first | (with_reducible first | apply At.val | apply AtQ.val) | ((with_reducible first | apply AtM1.valz | apply AtM1.val); exact rfl) | ((with_reducible apply AtM1.val); exact rfl)); (first | exact pr_indexArr (k := 2) (by rfl) (by rfl) (by rfl) (by rfl) (by decide) | exact pr_quo (by rfl) (by rfl) hW0 hq | exact pr_add (by rfl) (by rfl) hs1 | exact pr_add (by rfl) (by rfl) hs2 | exact pr_wne (a := A.I) (b := A.I) (by rfl) (by rfl)); exact rfl) | refine zsM ?_ | refine zxM ?_ | ((with_reducible first | apply AtM1.cr | apply AtQ.cr | apply At.cr); exact rfl; exact rfl; exact fun _ hmm => kr1 _ zml; exact ztk; kernel_rfl) | ((with_reducible first | apply AtM1.cr | apply AtQ.cr | apply At.cr); exact rfl; exact rfl; exact fun _ hmm => kr2 _ zml; exact ztk; kernel_rfl) | ((with_reducible apply At.endp); exact rfl; exact zsubs; exact zml; exact zente; (first | (simp_all; done) | (simp_all <;> omega))) | ((with_reducible apply At.endp); exact rfl; exact zsubs; exact zml; exact zente; (first | (simp_all; done) | (simp_all <;> omega))) | ((with_reducible apply At.box (d := 6)); exact rfl; exact rfl; exact rfl; intro b6) | ((with_reducible apply At.alloc (d := 16)); exact rfl; exact rfl; intro b16) | ((with_reducible apply At.alloc (d := 17)); exact rfl; exact rfl; intro b17) | ((with_reducible apply At.alloc (d := 19)); exact rfl; exact rfl; intro b19) | ((with_reducible apply At.alloc (d := 21)); exact rfl; exact rfl; intro b21) | ((with_reducible apply At.alloc (d := 23)); exact rfl; exact rfl; intro b23) | (refine zsp ?_ ?_ <;> (intro hc; (try simp only [zhcs, reduceCtorEq] at hc); (try (exfalso; first | (first | omega | exact absurd rfl hc | exact hc) | contradiction | omega | exact absurd rfl hc | exact absurd (by decide) hc))))))
      all_goals ((with_reducible apply At.retB1 (B := [])); exact rfl; exact rfl; exact zml; exact zkp; exact ⟨by first | rfl | (simp; done) | (simp [hrl, hlo]; done), rfl⟩)
    · obtain ⟨c1, c2, c3, c4, c5, c6⟩ := hcs.resolve_left hA0
      have ha1 : IntKind.wrap .i64 (A.F.T + dd) = F'.T := by rw [← c1]; exact IntWalk.i64_in _ (by omega)
      have ha2 : IntKind.wrap .i64 (A.L.T + dd) = L'.T := by rw [← c2]; exact IntWalk.i64_in _ (by omega)
      clear hcs
      (repeat' (first | (refine At.cutp (id := 23) (False) 181 [13, 17, 19, 21, 23] (by rfl) ?_ ?_) | ((with_reducible apply At.mixed (id := 22) 26 (.q 0 (.q 1 (.q 2 (.q 3 (.q 4 (.q 5 (.q 6 (.q 7 (.q 8 (.q 9 (.q 10 (.q 11 (.q 12 (.q 13 (.q 14 (.q 15 (.q 16 (.q 17 (.q 18 (.b 19 23 (.q 20 (.q 21 (.q 22 (.l 23 (.x 24 (.q 25 .done)))))) (.l 19 (.q 20 (.q 21 (.q 22 (.x 24 (.q 25 .done))))))))))))))))))))))))))); exact rfl; kernel_rfl; kernel_rfl; kernel_rfl) | refine zsx ?_ | refine zss ?_ | ((with_reducible apply AtM.bo); exact rfl; exact rfl; exact rfl) | ((first | (with_reducible first | apply At.val | apply AtQ.val) | ((with_reducible first | apply AtM1.valz | apply AtM1.val); exact rfl) | ((with_reducible apply AtM1.val); exact rfl)); (first | exact pr_indexArr (k := 2) (by rfl) (by rfl) (by rfl) (by rfl) (by decide) | exact pr_quo (by rfl) (by rfl) hW0 hq | exact pr_add (by rfl) (by rfl) hs1 | exact pr_add (by rfl) (by rfl) hs2 | exact pr_add (by rfl) (by rfl) ha1 | exact pr_add (by rfl) (by rfl) ha2 | exact pr_wne (a := A.I) (b := A.I) (by rfl) (by rfl)); exact rfl) | refine zsM ?_ | refine zxM ?_ | ((with_reducible first | apply AtM1.cr | apply AtQ.cr | apply At.cr); exact rfl; exact rfl; exact fun _ hmm => kr1 _ zml; exact ztk; kernel_rfl) | ((with_reducible first | apply AtM1.cr | apply AtQ.cr | apply At.cr); exact rfl; exact rfl; exact fun _ hmm => kr2 _ zml; exact ztk; kernel_rfl) | ((with_reducible apply At.endp); exact rfl; exact zsubs; exact zml; exact zente; (first | (simp_all; done) | (simp_all <;> omega))) | ((with_reducible apply At.box (d := 6)); exact rfl; exact rfl; exact rfl; intro b6) | ((with_reducible apply At.alloc (d := 16)); exact rfl; exact rfl; intro b16) | ((with_reducible apply At.alloc (d := 17)); exact rfl; exact rfl; intro b17) | ((with_reducible apply At.alloc (d := 19)); exact rfl; exact rfl; intro b19) | ((with_reducible apply At.alloc (d := 21)); exact rfl; exact rfl; intro b21) | ((with_reducible apply At.alloc (d := 23)); exact rfl; exact rfl; intro b23) | (refine zsp ?_ ?_ <;> (intro hc; (try simp only [zhcs, reduceCtorEq] at hc); (try (exfalso; first | (first | omega | exact absurd rfl hc | exact hc) | contradiction | omega | exact absurd rfl hc | exact absurd (by decide) hc))))))
      all_goals ((with_reducible apply At.retB1 (B := [])); exact rfl; exact rfl; exact zml; exact zkp; exact ⟨by first | rfl | (simp; done) | (simp [hrl, hlo]; done), rfl⟩)
end T8
end Go.Proofs.YtjdlnckifhifbaaGreat

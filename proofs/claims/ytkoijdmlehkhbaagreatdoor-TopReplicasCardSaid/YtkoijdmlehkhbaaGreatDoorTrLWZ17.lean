/- Part 17 of what the law's proof needs: rules of the walk, contracts of functions, plain laws. No condition. -/
import Derived.Test.YtkoijdmlehkhbaaGreatDoorTrLWZ16
import Derived.Deep.Slices
import Derived.WideShapes
import Derived.OpenShut
import Derived.Test.YtkoijdmlehkhbaaGreatDoorTie
import Derived.Test.YtkoijdmlehkhbaaGreatDoorCards
import Derived.Lib.LaidTab
import Derived.LaidMore
import Derived.LaidSub
import Derived.MakeChecks
import Derived.ProofKit
import Derived.Stop.Joined
import Derived.SevenTiedAt
set_option linter.unusedSimpArgs false
set_option linter.unusedVariables false
set_option linter.unusedSectionVars false
set_option maxRecDepth 20000
set_option maxHeartbeats 4000000
namespace Go.Proofs.YtkoijdmlehkhbaaGreatDoor
open Go Go.J
attribute [local irreducible] At AtQ AtM AtM1 PR Ct Pu Rd Res.blk Res.own Res.ex RVs RV
namespace Tr
open Slot Ti Se St Win Gr Sv
open Fo hiding pt emp
set_option maxRecDepth 100000 in
theorem rep2 {m : Mem} (hz : Ra.TZ m) (K : Cfg) (p0 : Option Addr) (c0 : Nat) (l : List Ev) (pw : Option Addr) (cw : Nat) (w : List Int) (i j : Int) (hA : Arg K l w) (sl0 : Sl m Ev.cells 4 p0 c0 l) (sl1 : Sl m fb 1 pw cw w) :
    Ct Tryz.prog 4 #[K.v, .slice p0 l.length c0, .slice pw w.length cw, .int .i64 2, .int .i64 i, .int .i64 j] m [] (fun v m' B => v = .bool true ∧ B = []) := by
  have hG := hA.good
  have hK := hA.ft.1.1
  have hlen := hA.len
  have hr := hA.r
  have hlw := hA.lw
  have hne : l.length ≠ 0 := fun h => hA.ne (List.eq_nil_of_length_eq_zero h)
  have hlv := fun (m' : Mem) (h : m.le m') => Qy.begins20 (m := m') (hz.mono h)
  have kf := fun (m' : Mem) => fits_ (m := m') K
  rw [decide_eq_true hA.ft] at kf
  have ko := fun (m' : Mem) (h : m.le m') => Cell.of_ (m := m') p0 c0 l (by omega) hA.V (sl0.mono h)
  have hof : Cell.ofL l = (cel l, 0) := by unfold Cell.ofL; rw [if_neg (not_not_intro hA.chk)]; rfl
  rw [hof] at ko
  refine Ct.enterV (by rfl) Tryz.func4 rfl Tryz.ntmps4 rfl (fun w0 Rest => ?_)
  (repeat' (first | refine zss ?_ | refine zsM ?_ | ((with_reducible first | apply AtM1.cr | apply AtQ.cr | apply At.cr); exact rfl; exact rfl; exact fun _ hmm => hlv _ zml; exact ztk; kernel_rfl) | ((with_reducible first | apply AtM1.cr | apply AtQ.cr | apply At.cr); exact rfl; exact rfl; exact fun _ hmm => kf _; exact ztk; kernel_rfl) | ((with_reducible first | apply At.c1 | apply At.c0); exact rfl; exact rfl; exact ko _ zml; exact ztk; kernel_rfl; rintro v' m' B' hm' ⟨rfl, rfl, rfl⟩; (try replace sl0 := sl0.mono hm'); (try replace sl1 := sl1.mono hm'); (try replace sl2 := sl2.mono hm'); (try replace sl3 := sl3.mono hm'); (try replace sl5 := sl5.mono hm'); (try replace sl6 := sl6.mono hm'); (try replace sl7 := sl7.mono hm'); (try replace sl9 := sl9.mono hm'); (try replace sl10 := sl10.mono hm'); (try (have hq0 : hm' = Mem.le_refl _ := rfl; clear hq0 hm'))) | ((with_reducible apply At.box (d := 6)); exact rfl; exact rfl; exact rfl; intro b6) | ((with_reducible apply At.box (d := 8)); exact rfl; exact rfl; exact rfl; intro b8) | ((with_reducible apply At.alloc (d := 13)); exact rfl; exact rfl; intro b13) | ((with_reducible apply At.alloc (d := 16)); exact rfl; exact rfl; intro b16) | ((with_reducible apply At.alloc (d := 17)); exact rfl; exact rfl; intro b17) | ((with_reducible apply At.alloc (d := 19)); exact rfl; exact rfl; intro b19) | ((with_reducible apply At.alloc (d := 21)); exact rfl; exact rfl; intro b21) | ((with_reducible apply At.alloc (d := 25)); exact rfl; exact rfl; intro b25) | ((with_reducible apply At.alloc (d := 28)); exact rfl; exact rfl; intro b28) | ((with_reducible apply At.alloc (d := 29)); exact rfl; exact rfl; intro b29) | ((with_reducible apply At.alloc (d := 33)); exact rfl; exact rfl; intro b33) | ((with_reducible apply At.alloc (d := 34)); exact rfl; exact rfl; intro b34) | ((with_reducible apply At.alloc (d := 36)); exact rfl; exact rfl; intro b36) | (refine zsp ?_ ?_ <;> (intro hc; (try simp only [zhcs, reduceCtorEq] at hc); (try (exfalso; first | (first | omega | exact absurd rfl hc) | contradiction | omega | exact absurd rfl hc | exact absurd (by decide) hc))))))
  clear hlv kf ko hof
  (refine At.loopk (σ := Nat) [1, 3, 4, 5, 6, 8, 78, 79] (fun s F0 => (80, .int .i64 (s : Int)) :: F0) (fun s => m) (fun s => .blk b8 75 [.slice pw w.length cw] :: .blk b6 25 K.cells :: Rest) (fun s => s ≤ l.length) (fun s => l.length - s) 0 (by rfl) ?_ zsubs zml zente ?_)
  · exact Nat.zero_le _
  intro s hs
  by_cases h : s < l.length
  · have hst := hA.st _ (Ls.mem! h)
    (repeat' (first | refine zss ?_ | refine zsM ?_ | ((with_reducible apply At.box (d := 6)); exact rfl; exact rfl; exact rfl; intro b6) | ((with_reducible apply At.box (d := 8)); exact rfl; exact rfl; exact rfl; intro b8) | ((with_reducible apply At.alloc (d := 13)); exact rfl; exact rfl; intro b13) | ((with_reducible apply At.alloc (d := 16)); exact rfl; exact rfl; intro b16) | ((with_reducible apply At.alloc (d := 17)); exact rfl; exact rfl; intro b17) | ((with_reducible apply At.alloc (d := 19)); exact rfl; exact rfl; intro b19) | ((with_reducible apply At.alloc (d := 21)); exact rfl; exact rfl; intro b21) | ((with_reducible apply At.alloc (d := 25)); exact rfl; exact rfl; intro b25) | ((with_reducible apply At.alloc (d := 28)); exact rfl; exact rfl; intro b28) | ((with_reducible apply At.alloc (d := 29)); exact rfl; exact rfl; intro b29) | ((with_reducible apply At.alloc (d := 33)); exact rfl; exact rfl; intro b33) | ((with_reducible apply At.alloc (d := 34)); exact rfl; exact rfl; intro b34) | ((with_reducible apply At.alloc (d := 36)); exact rfl; exact rfl; intro b36) | (refine zsp ?_ ?_ <;> (intro hc; (try simp only [zhcs, reduceCtorEq] at hc); (try (exfalso; first | (first | omega | exact absurd rfl hc | exact absurd (hst.symm.trans hc) Bool.false_ne_true) | contradiction | omega | exact absurd rfl hc | exact absurd (by decide) hc))))))
    all_goals ((with_reducible refine At.reachk ((s + 1)) ?_ ?_ ?_ ?_); exact zsubs; exact zml; exact zente; exact ⟨h, by omega⟩)
  obtain rfl : s = l.length := by omega
  clear hs h
  have k1 := fun (m' : Mem) (h : m.le m') (b : Nat) => seen (m := m') K p0 c0 l 20 [pb b] (wb b pw w.length cw) (q1 w) hA.ft.1 hG hA.st (by omega) (by kernel_rfl) (fun m2 h2 i hi => saw1 b i pw cw w (by omega) hA.bw ((sl1.mono h).mono h2)) (sl0.mono h)
  have k2 := fun (m' : Mem) (h : m.le m') (b : Nat) => seen (m := m') K p0 c0 l 21 [pb b] (wb b pw w.length cw) (q2 w) hA.ft.1 hG hA.st (by omega) (by kernel_rfl) (fun m2 h2 i hi => saw2 b i pw cw w (by omega) hA.bw ((sl1.mono h).mono h2)) (sl0.mono h)
  have k3 := fun (m' : Mem) (h : m.le m') (b : Nat) => seen (m := m') K p0 c0 l 22 [] (wb b pw w.length cw) q3 hA.ft.1 hG hA.st (by omega) (by kernel_rfl) (fun m2 h2 i hi => saw3 i (wb b pw w.length cw)) (sl0.mono h)
  have k4 := fun (m2 : Mem) (u v : Sta) (hu : u.Ok m2) (hv : v.Ok m2) (hR : RI K (pk (q1 w) l l.length) u) (hS : RI K (pk (q2 w) l l.length) v) => twoL (m := m2) w l u.pl.l[0]!.raw v.pl.l[0]!.raw (hR.raw (by
    have := (pk_sub (q1 w) l l.length (Nat.le_refl _)).length_le
    rw [List.take_length] at this
    omega)) (hS.raw (by
    have := (pk_sub (q2 w) l l.length (Nat.le_refl _)).length_le
    rw [List.take_length] at this
    omega)) hA.chk (by omega) (hu.at hR.len0).sr (hv.at hS.len0).sr
  have k5 := fun (m2 : Mem) (h : m.le m2) (p : Option Addr) (c : Nat) (sl : Sl m2 Ev.cells 4 p c l) => sameL (m := m2) p c p0 c0 l (by omega) sl (sl0.mono h)
  have k6 := fun (m2 : Mem) p c sl => new_ (m := m2) K p c la hK la_right la_mid sl
  (repeat' (first | (refine At.cutp (id := 17) (False) 134 [1, 3, 4, 5, 6, 17, 19, 21] (by rfl) ?_ ?_) | ((with_reducible apply At.mixed (id := 19) 18 (.q 0 (.q 1 (.q 2 (.q 3 (.q 4 (.q 5 (.q 6 (.q 7 (.q 8 (.q 9 (.q 10 (.q 11 (.x 12 (.q 13 (.q 14 (.q 15 (.q 16 (.q 17 .done))))))))))))))))))); exact rfl; kernel_rfl; kernel_rfl; kernel_rfl) | refine zsx ?_ | refine zss ?_ | ((with_reducible apply AtM.bo); exact rfl; exact rfl; exact rfl) | ((first | (with_reducible first | apply At.val | apply AtQ.val) | ((with_reducible first | apply AtM1.valz | apply AtM1.val); exact rfl) | ((with_reducible apply AtM1.val); exact rfl)); (first | exact pr_fieldAddr_at (k := 0 * 23) (by rfl) (by rfl) | exact pr_fieldAddr_at2 (k := 0) (q := 23) (j := 2) (by rfl) (by rfl) (by rfl)); exact rfl) | refine zsM ?_ | refine zxM ?_ | ((with_reducible first | apply At.c1 | apply At.c0); exact rfl; exact rfl; exact k1 _ zml b8; exact ztk; kernel_rfl; rintro v' m' B' hm' ⟨rfl, u1, rfl, hu1, hR1⟩; (try replace sl0 := sl0.mono hm'); (try replace sl1 := sl1.mono hm'); (try replace sl2 := sl2.mono hm'); (try replace sl3 := sl3.mono hm'); (try replace sl5 := sl5.mono hm'); (try replace sl6 := sl6.mono hm'); (try replace sl7 := sl7.mono hm'); (try replace sl9 := sl9.mono hm'); (try replace sl10 := sl10.mono hm'); (try (have hq0 : hm' = Mem.le_refl _ := rfl; clear hq0 hm')); have sl5 := hu1.sl; have g1 := hR1.len0) | ((with_reducible first | apply At.c1 | apply At.c0); exact rfl; exact rfl; exact k2 _ zml b8; exact ztk; kernel_rfl; rintro v' m' B' hm' ⟨rfl, u2, rfl, hu2, hR2⟩; (try replace sl0 := sl0.mono hm'); (try replace sl1 := sl1.mono hm'); (try replace sl2 := sl2.mono hm'); (try replace sl3 := sl3.mono hm'); (try replace sl5 := sl5.mono hm'); (try replace sl6 := sl6.mono hm'); (try replace sl7 := sl7.mono hm'); (try replace sl9 := sl9.mono hm'); (try replace sl10 := sl10.mono hm'); (try (have hq0 : hm' = Mem.le_refl _ := rfl; clear hq0 hm')); have sl6 := hu2.sl; have g2 := hR2.len0) | ((with_reducible first | apply At.c1 | apply At.c0); exact rfl; exact rfl; exact k3 _ zml b8; exact ztk; kernel_rfl; rintro v' m' B' hm' ⟨rfl, u3, rfl, hu3, hR3⟩; (try replace sl0 := sl0.mono hm'); (try replace sl1 := sl1.mono hm'); (try replace sl2 := sl2.mono hm'); (try replace sl3 := sl3.mono hm'); (try replace sl5 := sl5.mono hm'); (try replace sl6 := sl6.mono hm'); (try replace sl7 := sl7.mono hm'); (try replace sl9 := sl9.mono hm'); (try replace sl10 := sl10.mono hm'); (try (have hq0 : hm' = Mem.le_refl _ := rfl; clear hq0 hm')); have sl7 := hu3.sl; have g3 := hR3.len0) | ((with_reducible apply At.endp); exact rfl; exact zsubs; exact zml; exact zente; (exact ⟨fun hh => absurd (of_decide_eq_true hh) (by omega), fun hh => hh.elim⟩)) | ((with_reducible first | apply At.c1 | apply At.c0); exact rfl; exact rfl; exact k4 _ u1 u2 (hu1.mono zml) (hu2.mono zml) hR1 hR2; exact ztk; kernel_rfl; rintro v' m' B' hm' ⟨rfl, p4, c4, rfl, sl2⟩; (try replace sl0 := sl0.mono hm'); (try replace sl1 := sl1.mono hm'); (try replace sl2 := sl2.mono hm'); (try replace sl3 := sl3.mono hm'); (try replace sl5 := sl5.mono hm'); (try replace sl6 := sl6.mono hm'); (try replace sl7 := sl7.mono hm'); (try replace sl9 := sl9.mono hm'); (try replace sl10 := sl10.mono hm'); (try (have hq0 : hm' = Mem.le_refl _ := rfl; clear hq0 hm'))) | ((with_reducible apply At.litF Lb.cells la); exact inferInstance; (iterate 7 exact rfl); intro b' m' hm' sl3; (try replace sl0 := sl0.mono hm'); (try replace sl1 := sl1.mono hm'); (try replace sl2 := sl2.mono hm'); (try replace sl5 := sl5.mono hm'); (try replace sl6 := sl6.mono hm'); (try replace sl7 := sl7.mono hm'); (try replace sl9 := sl9.mono hm'); (try replace sl10 := sl10.mono hm')) | ((with_reducible first | apply At.c1 | apply At.c0); exact rfl; exact rfl; exact k6 _ _ _ sl3; exact ztk; kernel_rfl; rintro v' m' B' hm' ⟨rfl, x0, rfl, hx0, hI0, hlab0⟩; (try replace sl0 := sl0.mono hm'); (try replace sl1 := sl1.mono hm'); (try replace sl2 := sl2.mono hm'); (try replace sl3 := sl3.mono hm'); (try replace sl5 := sl5.mono hm'); (try replace sl6 := sl6.mono hm'); (try replace sl7 := sl7.mono hm'); (try replace sl9 := sl9.mono hm'); (try replace sl10 := sl10.mono hm'); (try (have hq0 : hm' = Mem.le_refl _ := rfl; clear hq0 hm'))) | ((with_reducible first | apply AtM1.cr | apply AtQ.cr | apply At.cr); exact rfl; exact rfl; exact fun _ hmm => k5 _ zml _ _ (sl2.mono hmm); exact ztk; kernel_rfl) | ((with_reducible apply At.box (d := 6)); exact rfl; exact rfl; exact rfl; intro b6) | ((with_reducible apply At.box (d := 8)); exact rfl; exact rfl; exact rfl; intro b8) | ((with_reducible apply At.alloc (d := 13)); exact rfl; exact rfl; intro b13) | ((with_reducible apply At.alloc (d := 16)); exact rfl; exact rfl; intro b16) | ((with_reducible apply At.alloc (d := 17)); exact rfl; exact rfl; intro b17) | ((with_reducible apply At.alloc (d := 19)); exact rfl; exact rfl; intro b19) | ((with_reducible apply At.alloc (d := 21)); exact rfl; exact rfl; intro b21) | ((with_reducible apply At.alloc (d := 25)); exact rfl; exact rfl; intro b25) | ((with_reducible apply At.alloc (d := 28)); exact rfl; exact rfl; intro b28) | ((with_reducible apply At.alloc (d := 29)); exact rfl; exact rfl; intro b29) | ((with_reducible apply At.alloc (d := 33)); exact rfl; exact rfl; intro b33) | ((with_reducible apply At.alloc (d := 34)); exact rfl; exact rfl; intro b34) | ((with_reducible apply At.alloc (d := 36)); exact rfl; exact rfl; intro b36) | (refine zsp ?_ ?_ <;> (intro hc; (try simp only [zhcs, reduceCtorEq] at hc); (try (exfalso; first | (first | omega | exact absurd rfl hc | exact hc) | contradiction | omega | exact absurd rfl hc | exact absurd (by decide) hc))))))
  obtain ⟨e3, hR3'⟩ : ∃ x3, u3.pl.l[0]! = x3 := ⟨_, rfl⟩
  have hu3' := hu3.mono (show Mem.le _ m' from zml)
  have hS3 := (hR3.si (by rw [show pk q3 l l.length = l from pk_all l]; exact hA.ne))
  rw [show pk q3 l l.length = l from pk_all l] at hS3
  have hx3 := hu3'.at g3
  clear k1 k2 k3 k4 k5 k6 hu1 hu2 hu3 hR1 hR2 hR3 hz sl0 sl1 hu3'
  rw [show ([] : List Ev) = l.take 0 from rfl] at hI0
  (refine At.loopk (σ := PS) [3, 4, 5, 6, 21, 23, 25, 170, 171] (fun s F0 => (172, .int .i64 (s.k : Int)) :: F0) (fun s => s.m) (fun s => .blk b25 63 s.x.cells :: .blk b21 28 u3.cells :: .blk b6 25 K.cells :: Rest) (fun s => m'.le s.m ∧ s.k ≤ l.length ∧ s.x.Ok s.m ∧ SI K (l.take s.k) s.x ∧ s.x.lab.l = la) (fun s => l.length - s.k) ⟨0, m', x0⟩ (by rfl) ?_ zsubs zml zente ?_)
  · exact ⟨Mem.le_refl _, Nat.zero_le _, hx0, hI0, hlab0⟩
  clear hx0 hI0 hlab0
  rintro ⟨k, m1, x⟩ ⟨hm1, hk, hx, hI, hlab⟩
  dsimp only at hm1 hk hx hI hlab ⊢
  replace sl2 := sl2.mono hm1
  replace sl7 := sl7.mono hm1
  by_cases hkl : k < l.length
  · have hsn := Ls.take_snoc hkl
    have hGe : Gr.Good (l.take k ++ [l[k]!]) := by rw [← hsn]; exact hG.sub (List.take_sublist _ _)
    have k1 := fun (m' : Mem) (h : m1.le m') => put_ (m := m') K x (l.take k) l[k]! hI (hx.mono h) hGe (by rw [List.length_take]; omega)
    rw [← hsn] at k1
    clear hGe hsn hI hx hK hG hS3 hx3
    (repeat' (first | refine zss ?_ | refine zsM ?_ | ((with_reducible first | apply At.c1 | apply At.c0); exact rfl; exact rfl; exact k1 _ zml; exact ztk; kernel_rfl; rintro v' m' B' hm' ⟨rfl, y, rfl, hy, hyI, hyl⟩; (try replace sl0 := sl0.mono hm'); (try replace sl1 := sl1.mono hm'); (try replace sl2 := sl2.mono hm'); (try replace sl3 := sl3.mono hm'); (try replace sl5 := sl5.mono hm'); (try replace sl6 := sl6.mono hm'); (try replace sl7 := sl7.mono hm'); (try replace sl9 := sl9.mono hm'); (try replace sl10 := sl10.mono hm'); (try (have hq0 : hm' = Mem.le_refl _ := rfl; clear hq0 hm'))) | ((with_reducible apply At.box (d := 6)); exact rfl; exact rfl; exact rfl; intro b6) | ((with_reducible apply At.box (d := 8)); exact rfl; exact rfl; exact rfl; intro b8) | ((with_reducible apply At.alloc (d := 13)); exact rfl; exact rfl; intro b13) | ((with_reducible apply At.alloc (d := 16)); exact rfl; exact rfl; intro b16) | ((with_reducible apply At.alloc (d := 17)); exact rfl; exact rfl; intro b17) | ((with_reducible apply At.alloc (d := 19)); exact rfl; exact rfl; intro b19) | ((with_reducible apply At.alloc (d := 21)); exact rfl; exact rfl; intro b21) | ((with_reducible apply At.alloc (d := 25)); exact rfl; exact rfl; intro b25) | ((with_reducible apply At.alloc (d := 28)); exact rfl; exact rfl; intro b28) | ((with_reducible apply At.alloc (d := 29)); exact rfl; exact rfl; intro b29) | ((with_reducible apply At.alloc (d := 33)); exact rfl; exact rfl; intro b33) | ((with_reducible apply At.alloc (d := 34)); exact rfl; exact rfl; intro b34) | ((with_reducible apply At.alloc (d := 36)); exact rfl; exact rfl; intro b36) | (refine zsp ?_ ?_ <;> (intro hc; (try simp only [zhcs, reduceCtorEq] at hc); (try (exfalso; first | (first | omega | exact absurd rfl hc) | contradiction | omega | exact absurd rfl hc | exact absurd (by decide) hc))))))
    all_goals ((with_reducible refine At.reachk ((⟨k + 1, m', y⟩ : PS)) ?_ ?_ ?_ ?_); exact zsubs; exact zml; exact zente; exact ⟨⟨zml, hkl, hy, hyI, by rw [hyl]; exact hlab⟩, by show l.length - (k + 1) < l.length - k; omega⟩)
  obtain rfl : k = l.length := by omega
  rw [List.take_length] at hI
  have ks := fun (m2 : Mem) (h : m1.le m2) => sameS (m := m2) x u3.pl.l[0]! (hx.mono h) (hx3.mono (Mem.le_trans hm1 h))
  rw [hI.same hS3.1 (hlab.trans hS3.2.symm) hr] at ks
  have hWv := hK.hd
  have hNv := hK.hw
  obtain ⟨hl1, hl2, hl3⟩ := hI.pos hA.ne
  have hq : IntKind.wrap .i64 (x.last.tdiv K.d) = x.last / K.d := quo_nn (by omega) hWv.1
  have g4 := Int.ediv_nonneg hl2 (show 0 ≤ K.d by omega)
  have g5 := Int.ediv_le_self K.d hl2
  have hs1 : IntKind.wrap .i64 (x.last / K.d - K.w) = x.last / K.d - K.w := IntWalk.i64_in _ (by omega)
  have hs2 : IntKind.wrap .i64 (x.last / K.d - K.w + 1) = x.last / K.d - K.w + 1 := IntWalk.i64_in _ (by omega)
  have hW0 : K.d ≠ 0 := by omega
  obtain ⟨i1, hi1⟩ : ∃ i1, (if (if i < x.last / K.d - K.w + 1 then x.last / K.d - K.w + 1 else i) < 0 then 0 else if i < x.last / K.d - K.w + 1 then x.last / K.d - K.w + 1 else i) = i1 := ⟨_, rfl⟩
  have hi2 : 0 ≤ i1 ∧ x.last / K.d - K.w < i1 := by
    subst hi1
    split <;> split <;> omega
  have pm : ∀ {n : Nat} {F : Fr} {C : World → Prop} {x1 y1 u1 : Operand} {ts : Array TypeId}, ev F x1 = some (.int .i64 i) → ev F y1 = some (.int .i64 (x.last / K.d - K.w + 1)) → ev F u1 = some (.int .i64 0) → PR Tryz.prog n F C (.call ⟨.builtin .max, #[x1, y1, u1], ts⟩) (.int .i64 i1) := fun a1 a2 a3 => hi1 ▸ pr_max3 a1 a2 a3
  by_cases hji : j < i1
  · clear hI hx hx3 hS3 hi1 hA hG hK hlab
    generalize x.last / K.d = A at *
    (repeat' (first | refine zss ?_ | ((first | (with_reducible first | apply At.val | apply AtQ.val)); (first | exact pm (by rfl) (by rfl) (by rfl) | exact pr_indexArr (k := 2) (by rfl) (by rfl) (by rfl) (by rfl) (by decide) | exact pr_quo (by rfl) (by rfl) hW0 hq | exact pr_sub (by rfl) (by rfl) hs1 | exact pr_add (by rfl) (by rfl) hs2); exact rfl) | refine zsM ?_ | fail | ((with_reducible first | apply AtM1.cr | apply AtQ.cr | apply At.cr); exact rfl; exact rfl; exact fun _ hmm => ks _ zml; exact ztk; kernel_rfl) | ((with_reducible apply At.box (d := 6)); exact rfl; exact rfl; exact rfl; intro b6) | ((with_reducible apply At.box (d := 8)); exact rfl; exact rfl; exact rfl; intro b8) | ((with_reducible apply At.alloc (d := 13)); exact rfl; exact rfl; intro b13) | ((with_reducible apply At.alloc (d := 16)); exact rfl; exact rfl; intro b16) | ((with_reducible apply At.alloc (d := 17)); exact rfl; exact rfl; intro b17) | ((with_reducible apply At.alloc (d := 19)); exact rfl; exact rfl; intro b19) | ((with_reducible apply At.alloc (d := 21)); exact rfl; exact rfl; intro b21) | ((with_reducible apply At.alloc (d := 25)); exact rfl; exact rfl; intro b25) | ((with_reducible apply At.alloc (d := 28)); exact rfl; exact rfl; intro b28) | ((with_reducible apply At.alloc (d := 29)); exact rfl; exact rfl; intro b29) | ((with_reducible apply At.alloc (d := 33)); exact rfl; exact rfl; intro b33) | ((with_reducible apply At.alloc (d := 34)); exact rfl; exact rfl; intro b34) | ((with_reducible apply At.alloc (d := 36)); exact rfl; exact rfl; intro b36) | (refine zsp ?_ ?_ <;> (intro hc; (try simp only [zhcs, reduceCtorEq] at hc); (try (exfalso; first | (first | omega | exact absurd rfl hc) | contradiction | omega | exact absurd rfl hc | exact absurd (by decide) hc))))))
    all_goals ((with_reducible apply At.retB1 (B := [])); exact rfl; exact rfl; exact zml; exact zkp; exact ⟨rfl, rfl⟩)
  obtain ⟨gg, hgg⟩ : ∃ gg : Ev → Bool, gg = fun e => decide (i1 ≤ e.T / K.d ∧ e.T / K.d < j) := ⟨_, rfl⟩
  have kr := fun (m2 : Mem) (h : m1.le m2) => range_ (m := m2) K x l 2 (by decide) i1 j hI (hx.mono h) hi2.1 (by omega)
  have e1 : rg K l 2 i1 j = cel (l.filter gg) := (congrArg cel (sel_kept (w := K.d) (n := K.w) (by rw [← hl1]; exact hi2.2))).trans (by rw [hgg])
  rw [e1] at kr
  have hF : Gr.Good (l.filter gg) := hG.sub List.filter_sublist
  have hFl : (l.filter gg).length ≤ 20 := Nat.le_trans (List.length_filter_le _ _) hlen
  have hof : Cell.ofL (l.filter gg) = (cel (l.filter gg), 0) := by
    unfold Cell.ofL
    rw [if_neg (not_not_intro (Mrg.chk_zero.2 ⟨fun e he => (hF.1 e he).1, hF.2⟩))]
    rfl
  have kof := fun (m2 : Mem) (p : Option Addr) (c : Nat) (sl : Sl m2 Ev.cells 4 p c (l.filter gg)) => Cell.of_ (m := m2) p c (l.filter gg) (by omega) (fun e he => (hF.1 e he).2) sl
  rw [hof] at kof
  clear hof hF e1 hI hx3 hS3 hi1 hlab hx
  generalize cel (l.filter gg) = C1 at kr kof
  (repeat' (first | refine zss ?_ | ((first | (with_reducible first | apply At.val | apply AtQ.val)); (first | exact pm (by rfl) (by rfl) (by rfl) | exact pr_indexArr (k := 2) (by rfl) (by rfl) (by rfl) (by rfl) (by decide) | exact pr_quo (by rfl) (by rfl) hW0 hq | exact pr_sub (by rfl) (by rfl) hs1 | exact pr_add (by rfl) (by rfl) hs2); exact rfl) | refine zsM ?_ | fail | ((with_reducible first | apply AtM1.cr | apply AtQ.cr | apply At.cr); exact rfl; exact rfl; exact fun _ hmm => ks _ zml; exact ztk; kernel_rfl) | ((with_reducible apply At.box (d := 6)); exact rfl; exact rfl; exact rfl; intro b6) | ((with_reducible apply At.box (d := 8)); exact rfl; exact rfl; exact rfl; intro b8) | ((with_reducible apply At.alloc (d := 13)); exact rfl; exact rfl; intro b13) | ((with_reducible apply At.alloc (d := 16)); exact rfl; exact rfl; intro b16) | ((with_reducible apply At.alloc (d := 17)); exact rfl; exact rfl; intro b17) | ((with_reducible apply At.alloc (d := 19)); exact rfl; exact rfl; intro b19) | ((with_reducible apply At.alloc (d := 21)); exact rfl; exact rfl; intro b21) | ((with_reducible apply At.alloc (d := 25)); exact rfl; exact rfl; intro b25) | ((with_reducible apply At.alloc (d := 28)); exact rfl; exact rfl; intro b28) | ((with_reducible apply At.alloc (d := 29)); exact rfl; exact rfl; intro b29) | ((with_reducible apply At.alloc (d := 33)); exact rfl; exact rfl; intro b33) | ((with_reducible apply At.alloc (d := 34)); exact rfl; exact rfl; intro b34) | ((with_reducible apply At.alloc (d := 36)); exact rfl; exact rfl; intro b36) | (refine zsp ?_ ?_ <;> (intro hc; (try simp only [zhcs, reduceCtorEq] at hc); (try (exfalso; first | (first | omega | exact absurd rfl hc) | contradiction | omega | exact absurd rfl hc | exact absurd (by decide) hc))))))
  clear ks pm hq hs1 hs2
  refine At.own_nil Ev.cells 4 57 ?_
  (refine At.loopk (σ := FS) [3, 4, 5, 6, 25, 212, 213] (fun s F0 => (214, .int .i64 (s.j : Int)) :: (31, .slice s.p ((l.take s.j).filter gg).length s.c) :: F0) (fun s => m1) (fun s => .own Ev.cells 4 57 s.p s.c ((l.take s.j).filter gg) :: .blk b25 63 x.cells :: .blk b6 25 K.cells :: Rest) (fun s => s.j ≤ l.length) (fun s => l.length - s.j) ⟨0, none, 0⟩ (by rfl) ?_ zsubs zml zente ?_)
  · exact Nat.zero_le _
  rintro ⟨jj, p, c⟩ hj
  dsimp only at hj ⊢
  by_cases h : jj < l.length
  · have hem := Ls.mem! h
    have heo := (hG.1 _ hem).1
    have h9 := heo.1
    have h10 := heo.2.1
    have hq2 : IntKind.wrap .i64 ((l[jj]!).T.tdiv K.d) = (l[jj]!).T / K.d := quo_nn ⟨h9, by omega⟩ hWv.1
    have hsn := filt_snoc gg h
    have hle : ((l.take jj).filter gg).length ≤ 20 := Nat.le_trans (List.length_filter_le _ _) (by rw [List.length_take]; omega)
    have hgj : gg l[jj]! = decide (i1 ≤ (l[jj]!).T / K.d ∧ (l[jj]!).T / K.d < j) := by rw [hgg]
    rw [hgj] at hsn
    generalize (l.take jj).filter gg = O at hsn hle ⊢
    clear kr kof hG hA hK hgg hgj heo hem g4 g5 hl1 hl2 hl3 hi2
    generalize (l[jj]!).T / K.d = Q at *
    by_cases h5 : i1 ≤ Q ∧ Q < j
    · rw [decide_eq_true h5, if_pos rfl] at hsn
      obtain ⟨h6, h7⟩ := h5
      (repeat' (first | refine zss ?_ | ((first | (with_reducible first | apply At.val | apply AtQ.val)); (first | exact pr_indexArr (k := 2) (by rfl) (by rfl) (by rfl) (by rfl) (by decide) | exact pr_quo (by rfl) (by rfl) hW0 hq2); exact rfl) | refine zsOM ?_ | ((with_reducible apply At.litF Ev.cells [l[jj]!]); exact inferInstance; (iterate 7 exact rfl); intro b' m' hm' sl9; (try replace sl0 := sl0.mono hm'); (try replace sl1 := sl1.mono hm'); (try replace sl2 := sl2.mono hm'); (try replace sl3 := sl3.mono hm'); (try replace sl5 := sl5.mono hm'); (try replace sl6 := sl6.mono hm'); (try replace sl7 := sl7.mono hm'); (try replace sl10 := sl10.mono hm')) | ((with_reducible apply At.apW (f := Ev.cells) (l := O)); exact rfl; exact rfl; exact (by repeat constructor); exact inferInstance; exact zrdl; (iterate 4 exact rfl); exact zom; exact rfl; intro p5 c5) | ((with_reducible apply At.box (d := 6)); exact rfl; exact rfl; exact rfl; intro b6) | ((with_reducible apply At.box (d := 8)); exact rfl; exact rfl; exact rfl; intro b8) | ((with_reducible apply At.alloc (d := 13)); exact rfl; exact rfl; intro b13) | ((with_reducible apply At.alloc (d := 16)); exact rfl; exact rfl; intro b16) | ((with_reducible apply At.alloc (d := 17)); exact rfl; exact rfl; intro b17) | ((with_reducible apply At.alloc (d := 19)); exact rfl; exact rfl; intro b19) | ((with_reducible apply At.alloc (d := 21)); exact rfl; exact rfl; intro b21) | ((with_reducible apply At.alloc (d := 25)); exact rfl; exact rfl; intro b25) | ((with_reducible apply At.alloc (d := 28)); exact rfl; exact rfl; intro b28) | ((with_reducible apply At.alloc (d := 29)); exact rfl; exact rfl; intro b29) | ((with_reducible apply At.alloc (d := 33)); exact rfl; exact rfl; intro b33) | ((with_reducible apply At.alloc (d := 34)); exact rfl; exact rfl; intro b34) | ((with_reducible apply At.alloc (d := 36)); exact rfl; exact rfl; intro b36) | (refine zsp ?_ ?_ <;> (intro hc; (try simp only [zhcs, reduceCtorEq] at hc); (try (exfalso; first | (first | omega | exact absurd rfl hc) | contradiction | omega | exact absurd rfl hc | exact absurd (by decide) hc))))))
      all_goals rw [← hsn]
      all_goals ((with_reducible refine At.reachk ((⟨jj + 1, p5, c5⟩ : FS)) ?_ ?_ ?_ ?_); exact zsubs; exact zml; exact zente; exact ⟨h, by dsimp only; omega⟩)
    · rw [decide_eq_false h5, if_neg (by decide), List.append_nil] at hsn
      (repeat' (first | refine zss ?_ | ((first | (with_reducible first | apply At.val | apply AtQ.val)); (first | exact pr_indexArr (k := 2) (by rfl) (by rfl) (by rfl) (by rfl) (by decide) | exact pr_quo (by rfl) (by rfl) hW0 hq2); exact rfl) | refine zsOM ?_ | ((with_reducible apply At.box (d := 6)); exact rfl; exact rfl; exact rfl; intro b6) | ((with_reducible apply At.box (d := 8)); exact rfl; exact rfl; exact rfl; intro b8) | ((with_reducible apply At.alloc (d := 13)); exact rfl; exact rfl; intro b13) | ((with_reducible apply At.alloc (d := 16)); exact rfl; exact rfl; intro b16) | ((with_reducible apply At.alloc (d := 17)); exact rfl; exact rfl; intro b17) | ((with_reducible apply At.alloc (d := 19)); exact rfl; exact rfl; intro b19) | ((with_reducible apply At.alloc (d := 21)); exact rfl; exact rfl; intro b21) | ((with_reducible apply At.alloc (d := 25)); exact rfl; exact rfl; intro b25) | ((with_reducible apply At.alloc (d := 28)); exact rfl; exact rfl; intro b28) | ((with_reducible apply At.alloc (d := 29)); exact rfl; exact rfl; intro b29) | ((with_reducible apply At.alloc (d := 33)); exact rfl; exact rfl; intro b33) | ((with_reducible apply At.alloc (d := 34)); exact rfl; exact rfl; intro b34) | ((with_reducible apply At.alloc (d := 36)); exact rfl; exact rfl; intro b36) | (refine zsp ?_ ?_ <;> (intro hc; (try simp only [zhcs, reduceCtorEq] at hc); (try (exfalso; first | (first | omega | exact absurd rfl hc) | contradiction | omega | exact absurd rfl hc | exact absurd (by decide) hc))))))
      all_goals rw [← hsn]
      all_goals ((with_reducible refine At.reachk ((⟨jj + 1, p, c⟩ : FS)) ?_ ?_ ?_ ?_); exact zsubs; exact zml; exact zente; exact ⟨h, by dsimp only; omega⟩)
  obtain rfl : jj = l.length := by omega
  rw [List.take_length]
  clear hG hA hK hgg
  generalize l.filter gg = O at *
  (refine At.own_freeze inferInstance (by repeat constructor) fun m' hm' sl10 => ?_; (try replace sl0 := sl0.mono hm'); (try replace sl1 := sl1.mono hm'); (try replace sl2 := sl2.mono hm'); (try replace sl3 := sl3.mono hm'); (try replace sl5 := sl5.mono hm'); (try replace sl6 := sl6.mono hm'); (try replace sl7 := sl7.mono hm'); (try replace sl9 := sl9.mono hm'))
  (repeat' (first | refine zss ?_ | ((first | (with_reducible first | apply At.val | apply AtQ.val)); (exact Cell.pr_ceq (a := C1) (b := C1) (by rfl) (by rfl)); exact rfl) | refine zsM ?_ | ((with_reducible first | apply AtM1.cr | apply AtQ.cr | apply At.cr); exact rfl; exact rfl; exact fun _ hmm => kr _ zml; exact ztk; kernel_rfl) | ((with_reducible first | apply At.c1 | apply At.c0); exact rfl; exact rfl; exact kof _ _ _ sl10; exact ztk; kernel_rfl; rintro v' m' B' hm' ⟨rfl, rfl, rfl⟩; (try replace sl0 := sl0.mono hm'); (try replace sl1 := sl1.mono hm'); (try replace sl2 := sl2.mono hm'); (try replace sl3 := sl3.mono hm'); (try replace sl5 := sl5.mono hm'); (try replace sl6 := sl6.mono hm'); (try replace sl7 := sl7.mono hm'); (try replace sl9 := sl9.mono hm'); (try replace sl10 := sl10.mono hm'); (try (have hq0 : hm' = Mem.le_refl _ := rfl; clear hq0 hm'))) | ((with_reducible apply At.box (d := 6)); exact rfl; exact rfl; exact rfl; intro b6) | ((with_reducible apply At.box (d := 8)); exact rfl; exact rfl; exact rfl; intro b8) | ((with_reducible apply At.alloc (d := 13)); exact rfl; exact rfl; intro b13) | ((with_reducible apply At.alloc (d := 16)); exact rfl; exact rfl; intro b16) | ((with_reducible apply At.alloc (d := 17)); exact rfl; exact rfl; intro b17) | ((with_reducible apply At.alloc (d := 19)); exact rfl; exact rfl; intro b19) | ((with_reducible apply At.alloc (d := 21)); exact rfl; exact rfl; intro b21) | ((with_reducible apply At.alloc (d := 25)); exact rfl; exact rfl; intro b25) | ((with_reducible apply At.alloc (d := 28)); exact rfl; exact rfl; intro b28) | ((with_reducible apply At.alloc (d := 29)); exact rfl; exact rfl; intro b29) | ((with_reducible apply At.alloc (d := 33)); exact rfl; exact rfl; intro b33) | ((with_reducible apply At.alloc (d := 34)); exact rfl; exact rfl; intro b34) | ((with_reducible apply At.alloc (d := 36)); exact rfl; exact rfl; intro b36) | (refine zsp ?_ ?_ <;> (intro hc; (try simp only [zhcs, reduceCtorEq] at hc); (try (exfalso; first | (first | omega | exact absurd rfl hc) | contradiction | omega | exact absurd rfl hc | exact absurd (by decide) hc))))))
  all_goals ((with_reducible apply At.retB1 (B := [])); exact rfl; exact rfl; exact zml; exact zkp; exact ⟨by first | rfl | (simp; done), rfl⟩)
end Tr
end Go.Proofs.YtkoijdmlehkhbaaGreatDoor
namespace Go.Proofs.YtkoijdmlehkhbaaGreatDoor
open Go Go.J
attribute [local irreducible] At AtQ AtM AtM1 PR Ct Pu Rd Res.blk Res.own Res.ex RVs RV
namespace Tr
open Slot Ti Se St Win Gr Sv
open Fo hiding pt emp
set_option maxRecDepth 100000 in
theorem repL {m : Mem} (hz : Ra.TZ m) (K : Cfg) (p0 : Option Addr) (c0 : Nat) (l : List Ev) (pw : Option Addr) (cw : Nat) (w : List Int) (k i j : Int) (hV : ∀ e ∈ l, e.V < 18446744073709551616) (hw : ∀ x ∈ w, 0 ≤ x ∧ x ≤ 255) (sl0 : Sl m Ev.cells 4 p0 c0 l) (sl1 : Sl m fb 1 pw cw w) :
    Ct Tryz.prog 4 #[K.v, .slice p0 l.length c0, .slice pw w.length cw, .int .i64 k, .int .i64 i, .int .i64 j] m [] (fun v m' B => v = .bool true ∧ B = []) := by
  have hlv := fun (m' : Mem) (h : m.le m') => Qy.begins20 (m := m') (hz.mono h)
  have kf := fun (m' : Mem) => fits_ (m := m') K
  by_cases h1 : ft K
  rotate_left
  · rw [decide_eq_false h1] at kf
    refine Ct.enterV (by rfl) Tryz.func4 rfl Tryz.ntmps4 rfl (fun w0 Rest => ?_)
    (repeat' (first | refine zss ?_ | refine zsM ?_ | ((with_reducible first | apply AtM1.cr | apply AtQ.cr | apply At.cr); exact rfl; exact rfl; exact fun _ hmm => hlv _ zml; exact ztk; kernel_rfl) | ((with_reducible first | apply AtM1.cr | apply AtQ.cr | apply At.cr); exact rfl; exact rfl; exact fun _ hmm => kf _; exact ztk; kernel_rfl) | ((with_reducible apply At.box (d := 6)); exact rfl; exact rfl; exact rfl; intro b6) | ((with_reducible apply At.box (d := 8)); exact rfl; exact rfl; exact rfl; intro b8) | ((with_reducible apply At.alloc (d := 13)); exact rfl; exact rfl; intro b13) | ((with_reducible apply At.alloc (d := 16)); exact rfl; exact rfl; intro b16) | ((with_reducible apply At.alloc (d := 17)); exact rfl; exact rfl; intro b17) | ((with_reducible apply At.alloc (d := 19)); exact rfl; exact rfl; intro b19) | ((with_reducible apply At.alloc (d := 21)); exact rfl; exact rfl; intro b21) | ((with_reducible apply At.alloc (d := 25)); exact rfl; exact rfl; intro b25) | ((with_reducible apply At.alloc (d := 28)); exact rfl; exact rfl; intro b28) | ((with_reducible apply At.alloc (d := 29)); exact rfl; exact rfl; intro b29) | ((with_reducible apply At.alloc (d := 33)); exact rfl; exact rfl; intro b33) | ((with_reducible apply At.alloc (d := 34)); exact rfl; exact rfl; intro b34) | ((with_reducible apply At.alloc (d := 36)); exact rfl; exact rfl; intro b36) | (refine zsp ?_ ?_ <;> (intro hc; (try simp only [zhcs, reduceCtorEq] at hc); (try (exfalso; first | (first | omega | exact absurd rfl hc) | contradiction | omega | exact absurd rfl hc | exact absurd (by decide) hc))))))
    all_goals ((with_reducible apply At.retB1 (B := [])); exact rfl; exact rfl; exact zml; exact zkp; exact ⟨rfl, rfl⟩)
  rw [decide_eq_true h1] at kf
  by_cases h2 : ((l.length : Int) ≤ K.r ∧ l.length ≤ 20) ∧ l.length ≤ w.length ∧ (0 ≤ k ∧ k ≤ 2) ∧ l.length ≠ 0
  rotate_left
  · refine Ct.enterV (by rfl) Tryz.func4 rfl Tryz.ntmps4 rfl (fun w0 Rest => ?_)
    (repeat' (first | (refine At.cutp (id := 3) (True) 70 [1, 3, 4, 5, 6, 8] (by rfl) ?_ ?_) | refine zss ?_ | refine zsM ?_ | ((with_reducible first | apply AtM1.cr | apply AtQ.cr | apply At.cr); exact rfl; exact rfl; exact fun _ hmm => hlv _ zml; exact ztk; kernel_rfl) | ((with_reducible first | apply AtM1.cr | apply AtQ.cr | apply At.cr); exact rfl; exact rfl; exact fun _ hmm => kf _; exact ztk; kernel_rfl) | ((with_reducible apply At.endp); exact rfl; exact zsubs; exact zml; exact zente; (refine ⟨fun _ => trivial, fun _ => ?_⟩; first | rfl | (refine decide_eq_true ?_; omega))) | ((with_reducible apply At.box (d := 6)); exact rfl; exact rfl; exact rfl; intro b6) | ((with_reducible apply At.box (d := 8)); exact rfl; exact rfl; exact rfl; intro b8) | ((with_reducible apply At.alloc (d := 13)); exact rfl; exact rfl; intro b13) | ((with_reducible apply At.alloc (d := 16)); exact rfl; exact rfl; intro b16) | ((with_reducible apply At.alloc (d := 17)); exact rfl; exact rfl; intro b17) | ((with_reducible apply At.alloc (d := 19)); exact rfl; exact rfl; intro b19) | ((with_reducible apply At.alloc (d := 21)); exact rfl; exact rfl; intro b21) | ((with_reducible apply At.alloc (d := 25)); exact rfl; exact rfl; intro b25) | ((with_reducible apply At.alloc (d := 28)); exact rfl; exact rfl; intro b28) | ((with_reducible apply At.alloc (d := 29)); exact rfl; exact rfl; intro b29) | ((with_reducible apply At.alloc (d := 33)); exact rfl; exact rfl; intro b33) | ((with_reducible apply At.alloc (d := 34)); exact rfl; exact rfl; intro b34) | ((with_reducible apply At.alloc (d := 36)); exact rfl; exact rfl; intro b36) | (refine zsp ?_ ?_ <;> (intro hc; (try simp only [zhcs, reduceCtorEq] at hc); (try (exfalso; first | (first | omega | exact absurd rfl hc | exact absurd trivial hc) | contradiction | omega | exact absurd rfl hc | exact absurd (by decide) hc))))))
    all_goals ((with_reducible apply At.retB1 (B := [])); exact rfl; exact rfl; exact zml; exact zkp; exact ⟨rfl, rfl⟩)
  obtain ⟨⟨g1, g2⟩, g3, ⟨g4, g5⟩, g6⟩ := h2
  have ko := fun (m' : Mem) (h : m.le m') => Cell.of_ (m := m') p0 c0 l (by omega) hV (sl0.mono h)
  by_cases h3 : Mrg.chk l = 0
  rotate_left
  · have hof : Cell.ofL l = (Cell.z, Mrg.chk l) := by unfold Cell.ofL; rw [if_pos h3]
    rw [hof] at ko
    generalize Mrg.chk l = e at ko h3
    refine Ct.enterV (by rfl) Tryz.func4 rfl Tryz.ntmps4 rfl (fun w0 Rest => ?_)
    (repeat' (first | refine zss ?_ | refine zsM ?_ | ((with_reducible first | apply AtM1.cr | apply AtQ.cr | apply At.cr); exact rfl; exact rfl; exact fun _ hmm => hlv _ zml; exact ztk; kernel_rfl) | ((with_reducible first | apply AtM1.cr | apply AtQ.cr | apply At.cr); exact rfl; exact rfl; exact fun _ hmm => kf _; exact ztk; kernel_rfl) | ((with_reducible first | apply At.c1 | apply At.c0); exact rfl; exact rfl; exact ko _ zml; exact ztk; kernel_rfl; rintro v' m' B' hm' ⟨rfl, rfl, rfl⟩; (try replace sl0 := sl0.mono hm'); (try replace sl1 := sl1.mono hm'); (try (have hq0 : hm' = Mem.le_refl _ := rfl; clear hq0 hm'))) | ((with_reducible apply At.box (d := 6)); exact rfl; exact rfl; exact rfl; intro b6) | ((with_reducible apply At.box (d := 8)); exact rfl; exact rfl; exact rfl; intro b8) | ((with_reducible apply At.alloc (d := 13)); exact rfl; exact rfl; intro b13) | ((with_reducible apply At.alloc (d := 16)); exact rfl; exact rfl; intro b16) | ((with_reducible apply At.alloc (d := 17)); exact rfl; exact rfl; intro b17) | ((with_reducible apply At.alloc (d := 19)); exact rfl; exact rfl; intro b19) | ((with_reducible apply At.alloc (d := 21)); exact rfl; exact rfl; intro b21) | ((with_reducible apply At.alloc (d := 25)); exact rfl; exact rfl; intro b25) | ((with_reducible apply At.alloc (d := 28)); exact rfl; exact rfl; intro b28) | ((with_reducible apply At.alloc (d := 29)); exact rfl; exact rfl; intro b29) | ((with_reducible apply At.alloc (d := 33)); exact rfl; exact rfl; intro b33) | ((with_reducible apply At.alloc (d := 34)); exact rfl; exact rfl; intro b34) | ((with_reducible apply At.alloc (d := 36)); exact rfl; exact rfl; intro b36) | (refine zsp ?_ ?_ <;> (intro hc; (try simp only [zhcs, reduceCtorEq] at hc); (try (exfalso; first | (first | omega | exact absurd rfl hc | exact absurd hc h3) | contradiction | omega | exact absurd rfl hc | exact absurd (by decide) hc))))))
    all_goals ((with_reducible apply At.retB1 (B := [])); exact rfl; exact rfl; exact zml; exact zkp; exact ⟨rfl, rfl⟩)
  by_cases h4 : ∀ e ∈ l, e.S = false
  rotate_left
  · have hof : Cell.ofL l = (cel l, 0) := by unfold Cell.ofL; rw [if_neg (not_not_intro h3)]; rfl
    rw [hof] at ko
    clear hof
    generalize cel l = C at ko
    refine Ct.enterV (by rfl) Tryz.func4 rfl Tryz.ntmps4 rfl (fun w0 Rest => ?_)
    (repeat' (first | refine zss ?_ | refine zsM ?_ | ((with_reducible first | apply AtM1.cr | apply AtQ.cr | apply At.cr); exact rfl; exact rfl; exact fun _ hmm => hlv _ zml; exact ztk; kernel_rfl) | ((with_reducible first | apply AtM1.cr | apply AtQ.cr | apply At.cr); exact rfl; exact rfl; exact fun _ hmm => kf _; exact ztk; kernel_rfl) | ((with_reducible first | apply At.c1 | apply At.c0); exact rfl; exact rfl; exact ko _ zml; exact ztk; kernel_rfl; rintro v' m' B' hm' ⟨rfl, rfl, rfl⟩; (try replace sl0 := sl0.mono hm'); (try replace sl1 := sl1.mono hm'); (try (have hq0 : hm' = Mem.le_refl _ := rfl; clear hq0 hm'))) | ((with_reducible apply At.box (d := 6)); exact rfl; exact rfl; exact rfl; intro b6) | ((with_reducible apply At.box (d := 8)); exact rfl; exact rfl; exact rfl; intro b8) | ((with_reducible apply At.alloc (d := 13)); exact rfl; exact rfl; intro b13) | ((with_reducible apply At.alloc (d := 16)); exact rfl; exact rfl; intro b16) | ((with_reducible apply At.alloc (d := 17)); exact rfl; exact rfl; intro b17) | ((with_reducible apply At.alloc (d := 19)); exact rfl; exact rfl; intro b19) | ((with_reducible apply At.alloc (d := 21)); exact rfl; exact rfl; intro b21) | ((with_reducible apply At.alloc (d := 25)); exact rfl; exact rfl; intro b25) | ((with_reducible apply At.alloc (d := 28)); exact rfl; exact rfl; intro b28) | ((with_reducible apply At.alloc (d := 29)); exact rfl; exact rfl; intro b29) | ((with_reducible apply At.alloc (d := 33)); exact rfl; exact rfl; intro b33) | ((with_reducible apply At.alloc (d := 34)); exact rfl; exact rfl; intro b34) | ((with_reducible apply At.alloc (d := 36)); exact rfl; exact rfl; intro b36) | (refine zsp ?_ ?_ <;> (intro hc; (try simp only [zhcs, reduceCtorEq] at hc); (try (exfalso; first | (first | omega | exact absurd rfl hc) | contradiction | omega | exact absurd rfl hc | exact absurd (by decide) hc))))))
    clear hlv kf ko
    (refine At.loopk (σ := Nat) [1, 3, 4, 5, 6, 8, 78, 79] (fun s F0 => (80, .int .i64 (s : Int)) :: F0) (fun s => m) (fun s => .blk b8 75 [.slice pw w.length cw] :: .blk b6 25 K.cells :: Rest) (fun s => s ≤ l.length ∧ ∀ i, i < s → (l[i]!).S = false) (fun s => l.length - s) 0 (by rfl) ?_ zsubs zml zente ?_)
    · exact ⟨Nat.zero_le _, fun i hi => absurd hi (Nat.not_lt_zero _)⟩
    rintro s ⟨hs, hb⟩
    by_cases h : s < l.length
    · by_cases hst : (l[s]!).S = false
      · have hb2 : ∀ i, i < s + 1 → (l[i]!).S = false := fun i hi => by
          by_cases e : i = s
          · subst e; exact hst
          · exact hb i (by omega)
        (repeat' (first | refine zss ?_ | refine zsM ?_ | ((with_reducible apply At.box (d := 6)); exact rfl; exact rfl; exact rfl; intro b6) | ((with_reducible apply At.box (d := 8)); exact rfl; exact rfl; exact rfl; intro b8) | ((with_reducible apply At.alloc (d := 13)); exact rfl; exact rfl; intro b13) | ((with_reducible apply At.alloc (d := 16)); exact rfl; exact rfl; intro b16) | ((with_reducible apply At.alloc (d := 17)); exact rfl; exact rfl; intro b17) | ((with_reducible apply At.alloc (d := 19)); exact rfl; exact rfl; intro b19) | ((with_reducible apply At.alloc (d := 21)); exact rfl; exact rfl; intro b21) | ((with_reducible apply At.alloc (d := 25)); exact rfl; exact rfl; intro b25) | ((with_reducible apply At.alloc (d := 28)); exact rfl; exact rfl; intro b28) | ((with_reducible apply At.alloc (d := 29)); exact rfl; exact rfl; intro b29) | ((with_reducible apply At.alloc (d := 33)); exact rfl; exact rfl; intro b33) | ((with_reducible apply At.alloc (d := 34)); exact rfl; exact rfl; intro b34) | ((with_reducible apply At.alloc (d := 36)); exact rfl; exact rfl; intro b36) | (refine zsp ?_ ?_ <;> (intro hc; (try simp only [zhcs, reduceCtorEq] at hc); (try (exfalso; first | (first | omega | exact absurd rfl hc | exact absurd (hst.symm.trans hc) Bool.false_ne_true) | contradiction | omega | exact absurd rfl hc | exact absurd (by decide) hc))))))
        all_goals ((with_reducible refine At.reachk ((s + 1)) ?_ ?_ ?_ ?_); exact zsubs; exact zml; exact zente; exact ⟨⟨h, hb2⟩, by omega⟩)
      · have hst2 : (l[s]!).S = true := by
          cases h' : (l[s]!).S
          · exact absurd h' hst
          · rfl
        (repeat' (first | refine zss ?_ | refine zsM ?_ | ((with_reducible apply At.box (d := 6)); exact rfl; exact rfl; exact rfl; intro b6) | ((with_reducible apply At.box (d := 8)); exact rfl; exact rfl; exact rfl; intro b8) | ((with_reducible apply At.alloc (d := 13)); exact rfl; exact rfl; intro b13) | ((with_reducible apply At.alloc (d := 16)); exact rfl; exact rfl; intro b16) | ((with_reducible apply At.alloc (d := 17)); exact rfl; exact rfl; intro b17) | ((with_reducible apply At.alloc (d := 19)); exact rfl; exact rfl; intro b19) | ((with_reducible apply At.alloc (d := 21)); exact rfl; exact rfl; intro b21) | ((with_reducible apply At.alloc (d := 25)); exact rfl; exact rfl; intro b25) | ((with_reducible apply At.alloc (d := 28)); exact rfl; exact rfl; intro b28) | ((with_reducible apply At.alloc (d := 29)); exact rfl; exact rfl; intro b29) | ((with_reducible apply At.alloc (d := 33)); exact rfl; exact rfl; intro b33) | ((with_reducible apply At.alloc (d := 34)); exact rfl; exact rfl; intro b34) | ((with_reducible apply At.alloc (d := 36)); exact rfl; exact rfl; intro b36) | (refine zsp ?_ ?_ <;> (intro hc; (try simp only [zhcs, reduceCtorEq] at hc); (try (exfalso; first | (first | omega | exact absurd rfl hc | exact absurd hst2 hc) | contradiction | omega | exact absurd rfl hc | exact absurd (by decide) hc))))))
        all_goals ((with_reducible apply At.retB1 (B := [])); exact rfl; exact rfl; exact zml; exact zkp; exact ⟨rfl, rfl⟩)
    · exact absurd (fun e he => by
        obtain ⟨i, hi, rfl⟩ := List.mem_iff_getElem.1 he
        have := hb i (by omega)
        rwa [getElem!_pos l i hi] at this) h4
  have hA : Arg K l w := ⟨h1, g1, g2, g3, fun e => g6 (by rw [e]; rfl), h3, h4, hV, hw⟩
  rcases (show k = 0 ∨ k = 1 ∨ k = 2 by omega) with rfl | rfl | rfl
  · exact rep0 hz K p0 c0 l pw cw w i j hA sl0 sl1
  · exact rep1 hz K p0 c0 l pw cw w i j hA sl0 sl1
  · exact rep2 hz K p0 c0 l pw cw w i j hA sl0 sl1
end Tr
end Go.Proofs.YtkoijdmlehkhbaaGreatDoor
namespace Go.J
open Go Go.ChangeShapes Go.WideShapes Go.ChangeAt Go.RowKit
theorem cell_cells {w : World} {a : Addr} {v : Value} (h : w.cell? a = some v) : a.spot = none ∧ ∃ E cs fz, w.heap[a.block]? = some (.cells cs E fz) ∧ cs[a.off]? = some v := by
  unfold World.cell? at h
  cases hb : w.heap[a.block]? with
  | none => rw [hb] at h; cases h
  | some o =>
    rw [hb] at h
    cases o <;> simp at h
    rename_i cs E fz
    exact ⟨by
      cases hs : a.spot with
      | none => rfl
      | some x => rw [hs] at h; simp at h, E, cs, fz, rfl, h.2⟩
theorem open_sl {α : Type} [Inhabited α] {f : α → List Value} {sz : Nat} (hf : Fl f sz) (φ : α → Prop) {H : Type} {enc : TypeId × Value → H} {P : Program} {W : World} {t e : TypeId} {fuel : Nat} {cs : List Value} {x : DataW H × List MemPlace}
    (ht : P.underlying t = some (.slice e)) (hc : P.cellsOf e = sz)
    (hdec : ∀ n cs' y, cs'.length = sz → DataW.trod enc P W 0 (fun _ => true) true n e cs' = some y → ∃ a, cs' = f a ∧ φ a)
    (h : DataW.trod enc P W 0 (fun _ => true) true fuel t cs = some x) : ∃ p c l, cs = [.slice p l.length c] ∧ Sl (memOf W) f sz p c l ∧ ∀ a ∈ l, φ a := by
  rcases Go.Deep.open_slice ht h with ⟨rfl, _⟩ | ⟨a, len, cap, m, n, D, Pl, rfl, _, hl, hm, hmm, _, hx⟩
  · exact ⟨none, 0, [], rfl, Sl.empty _ hf, fun a ha => by cases ha⟩
  · simp only [if_true] at hmm
    subst hmm
    obtain ⟨A, hA⟩ := Go.Deep.choose_lt (α := α) (n := m) (p := fun i y => W.cells? 0 (a.add (i * sz)) sz = some (f y) ∧ φ y) (fun i hi => by
      obtain ⟨cs', h1, h2⟩ := hx i hi
      rw [hc] at h1
      obtain ⟨_, hlen, _⟩ := World.cells?_some h1
      obtain ⟨y, rfl, hy⟩ := hdec n cs' _ hlen h2
      exact ⟨y, h1, hy⟩)
    have hll : ((List.range len).map A).length = len := by simp
    refine ⟨some a, m, (List.range len).map A, by rw [hll], ⟨hf, by rw [hll]; exact hl, hm, (fun e => by cases e), fun a' ha' hpos => ?_⟩, fun y hy => ?_⟩
    · cases ha'
      have hsz := hf.pos
      have hcell : ∀ i j, i < m → j < sz → W.cell? ((a.add (i * sz)).add j) = (f (A i))[j]? := fun i j hi hj => (World.cells?_some (hA i hi).1).2.2 j hj
      have hlen : ∀ i j, j < sz → ∃ v, (f (A i))[j]? = some v := fun i j hj => ⟨(f (A i))[j]'(by rw [hf.len]; exact hj), List.getElem?_eq_getElem _⟩
      obtain ⟨v0, hv0⟩ := hlen 0 0 hsz
      have h00 := hcell 0 0 hpos hsz
      rw [hv0] at h00
      have e0 : (a.add (0 * sz)).add 0 = a := by simp [Addr.add]
      rw [e0] at h00
      obtain ⟨hspot, E, cs, fz, hb, _⟩ := cell_cells h00
      have ea : ∀ k, a.add k = ⟨a.block, a.off + k, none⟩ := fun k => by cases a; simp only at hspot; subst hspot; exact Addr.add_eq _ _ _
      have hcell' : ∀ i j, i < m → j < sz → cs[a.off + (i * sz + j)]? = (f (A i))[j]? := fun i j hi hj => by
        have := hcell i j hi hj
        rw [ea, Addr.add_eq, World.cell_of hb] at this
        rw [← this, Nat.add_assoc]
      refine ⟨hspot, E, cs, fz, hb, ?_, fun i j hi hj => ?_⟩
      · obtain ⟨v, hv⟩ := hlen (m - 1) (sz - 1) (by omega)
        have h1 := hcell' (m - 1) (sz - 1) (by omega) (by omega)
        rw [hv] at h1
        have h2 := (Array.getElem?_eq_some_iff.1 h1).1
        have h3 : (m - 1) * sz + sz = m * sz := by
          have := Nat.succ_mul (m - 1) sz
          rw [show (m - 1).succ = m by omega] at this; omega
        omega
      · rw [hll] at hi
        rw [hcell' i j (by omega) hj]
        congr 2
        rw [List.getElem!_eq_getElem?_getD]; simp [hi]
    · obtain ⟨i, hi, rfl⟩ := List.mem_map.1 hy
      exact (hA i (by have := List.mem_range.1 hi; omega)).2
/-- a law's argument that is a slice -/
theorem open_sl_arg {α : Type} [Inhabited α] {f : α → List Value} {sz : Nat} (hf : Fl f sz) (φ : α → Prop) {H : Type} {enc : TypeId × Value → H} {P : Program} {W : World} {t e : TypeId} {v : Value} {d : DataW H} {ps : List MemPlace}
    (ht : P.underlying t = some (.slice e)) (hc : P.cellsOf e = sz)
    (hdec : ∀ n cs' y, cs'.length = sz → DataW.trod enc P W 0 (fun _ => true) true n e cs' = some y → ∃ a, cs' = f a ∧ φ a)
    (hsl : ∃ p l c, v = .slice p l c) (h : DataW.Trod enc P W 0 (fun _ => true) true t v d ps) : ∃ p c l, v = .slice p l.length c ∧ Sl (memOf W) f sz p c l ∧ ∀ a ∈ l, φ a := by
  obtain ⟨fuel, hfl⟩ := h
  obtain ⟨p0, l0, c0, rfl⟩ := hsl
  obtain ⟨p, c, l, h1, h2⟩ := open_sl hf φ ht hc hdec hfl
  refine ⟨p, c, l, ?_, h2⟩
  simpa [Value.cells] using h1
theorem dec_int {H : Type} {enc : TypeId × Value → H} {P : Program} {W : World} {e : TypeId} {k : IntKind} (he : P.underlying e = some (.int k)) : ∀ n cs' y, cs'.length = 1 → DataW.trod enc P W 0 (fun _ => true) true n e cs' = some y → ∃ a : Int, cs' = [.int k a] ∧ (Lit.int k a).wf = true := fun n cs' y _ h => by
  obtain ⟨a, h1, _, h3⟩ := DataW.trod_int he h
  exact ⟨a, h1, h3⟩
end Go.J
namespace Go.J
open Go Go.ChangeShapes Go.WideShapes Go.ChangeAt Go.RowKit
inductive LK
  | int (k : IntKind)
  | bool
  | str
  | sl (t : TypeId)
section
variable {H : Type} {enc : TypeId × Value → H} {P : Program} {W : World}
def Fit1 (enc : TypeId × Value → H) (P : Program) (W : World) : LK → Value → Prop
  | .int k, v => ∃ a, v = .int k a ∧ (Lit.int k a).wf = true
  | .bool, v => ∃ b, v = .bool b
  | .str, v => ∃ l, v = .string (str l) ∧ l.length ≤ maxLen
  | .sl t, v => ∃ n y, DataW.trod enc P W 0 (fun _ => true) true n t [v] = some y
def Fit (enc : TypeId × Value → H) (P : Program) (W : World) : List LK → List Value → Prop
  | [], [] => True
  | k :: ks, v :: vs => Fit1 enc P W k v ∧ Fit enc P W ks vs
  | _, _ => False
theorem Fit.append : ∀ {a b : List LK} {x y : List Value}, Fit enc P W a x → Fit enc P W b y → Fit enc P W (a ++ b) (x ++ y)
  | [], _, [], _, _, h => h
  | _ :: _, _, _ :: _, _, ⟨h1, h2⟩, h => ⟨h1, Fit.append h2 h⟩
  | [], _, _ :: _, _, h, _ => h.elim
  | _ :: _, _, [], _, h, _ => h.elim
theorem Fit.cons {k : LK} {ks : List LK} {cs : List Value} (h : Fit enc P W (k :: ks) cs) : ∃ v vs, cs = v :: vs ∧ Fit1 enc P W k v ∧ Fit enc P W ks vs := by
  cases cs with
  | nil => exact h.elim
  | cons v vs => exact ⟨v, vs, rfl, h.1, h.2⟩
theorem Fit.nil {cs : List Value} (h : Fit enc P W [] cs) : cs = [] := by
  cases cs with
  | nil => rfl
  | cons v vs => exact h.elim
theorem Fit1.int {k : IntKind} {v : Value} (h : Fit1 enc P W (.int k) v) : ∃ a, v = .int k a ∧ (Lit.int k a).wf = true := h
theorem Fit1.bool {v : Value} (h : Fit1 enc P W .bool v) : ∃ b, v = .bool b := h
theorem Fit1.str {v : Value} (h : Fit1 enc P W .str v) : ∃ l, v = .string (J.str l) ∧ l.length ≤ maxLen := h
def leavesF (P : Program) (rec : TypeId → Option (List LK)) (total : Nat) : Nat → List Field → Option (List LK)
  | off, [] => match Nat.beq off total with
    | true => some []
    | false => none
  | off, f :: fs => match Nat.beq f.offset off with
    | true => match rec f.type with
      | some a => match leavesF P rec total (off + P.cellsOf f.type) fs with
        | some b => some (a ++ b)
        | none => none
      | none => none
    | false => none
def leavesB (P : Program) : Nat → TypeId → Option (List LK)
  | 0, _ => none
  | d + 1, t => match P.underlying t with
    | some (.int k) => some [.int k]
    | some .bool => some [.bool]
    | some .string => some [.str]
    | some (.slice _) => some [.sl t]
    | some (.struct fs) => leavesF P (leavesB P d) (P.cellsOf t) 0 fs.toList
    | some (.array n e) => match leavesB P d e with
      | some a => match Nat.beq (P.cellsOf t) (n * P.cellsOf e) with
        | true => some (List.replicate n a).flatten
        | false => none
      | none => none
    | _ => none
theorem trod_bool' {t : TypeId} {n : Nat} {cs : List Value} {x : DataW H × List MemPlace} (ht : P.underlying t = some .bool) (h : DataW.trod enc P W 0 (fun _ => true) true n t cs = some x) : ∃ b, cs = [.bool b] := by
  cases n with
  | zero => simp [DataW.trod] at h
  | succ n =>
    unfold DataW.trod at h
    rw [ht] at h
    split at h <;> simp_all
theorem trod_fit : ∀ (d n : Nat) (t : TypeId) (cs : List Value) (x : DataW H × List MemPlace) (ks : List LK), leavesB P d t = some ks → DataW.trod enc P W 0 (fun _ => true) true n t cs = some x → Fit enc P W ks cs
  | 0, _, _, _, _, _, h, _ => by cases h
  | d + 1, n, t, cs, x, ks, h, hx => by
    have ih := trod_fit d
    unfold leavesB at h
    cases hu : P.underlying t with
    | none => rw [hu] at h; cases h
    | some u =>
      rw [hu] at h
      cases u <;> simp only at h <;> try (cases h; done)
      case int k =>
        cases h
        obtain ⟨a, rfl, _, h3⟩ := DataW.trod_int hu hx
        exact ⟨⟨a, rfl, h3⟩, trivial⟩
      case bool =>
        cases h
        obtain ⟨b, rfl⟩ := trod_bool' hu hx
        exact ⟨⟨b, rfl⟩, trivial⟩
      case string =>
        cases h
        obtain ⟨s, rfl, _, h3⟩ := DataW.trod_string hu hx
        obtain ⟨l, rfl⟩ := str_of s
        exact ⟨⟨l, rfl, by rw [str_size] at h3; exact h3⟩, trivial⟩
      case slice e =>
        cases h
        have : ∃ v, cs = [v] := by
          rcases DataW.trod_slice hu hx with ⟨rfl, _⟩ | ⟨a, len, cap, _, _, _, _, rfl, _⟩
          · exact ⟨_, rfl⟩
          · exact ⟨_, rfl⟩
        obtain ⟨v, rfl⟩ := this
        exact ⟨⟨n, x, hx⟩, trivial⟩
      case array k e =>
        cases h1 : leavesB P d e with
        | none => rw [h1] at h; cases h
        | some a =>
          rw [h1] at h
          simp only at h
          cases hb : Nat.beq (P.cellsOf t) (k * P.cellsOf e) with
          | false => rw [hb] at h; cases h
          | true =>
            rw [hb] at h
            cases h
            have hl0 := Nat.eq_of_beq_eq_true hb
            obtain ⟨xs, m, _, _, hlen, hxl, hf⟩ := DataW.trod_array hu hx
            have key : ∀ i, i ≤ k → Fit enc P W ((List.replicate i a).flatten) (cs.drop ((k - i) * P.cellsOf e)) := by
              intro i
              induction i with
              | zero =>
                intro _
                rw [List.drop_eq_nil_of_le (by rw [hlen, hl0, Nat.sub_zero]; exact Nat.le_refl _)]
                trivial
              | succ i ih2 =>
                intro hi
                have e1 := hf (k - (i + 1)) (by omega)
                have hj : k - (i + 1) < xs.length := by omega
                rw [List.getElem?_eq_getElem hj] at e1
                have g1 := ih m e _ _ a h1 e1
                have g2 := ih2 (by omega)
                have e2 : (k - (i + 1)) * P.cellsOf e + P.cellsOf e = (k - i) * P.cellsOf e := by rw [← Nat.succ_mul]; congr 1; omega
                rw [List.replicate_succ, List.flatten_cons, show cs.drop ((k - (i + 1)) * P.cellsOf e) = (cs.drop ((k - (i + 1)) * P.cellsOf e)).take (P.cellsOf e) ++ cs.drop ((k - i) * P.cellsOf e) by
                  rw [← e2, ← List.drop_drop, List.take_append_drop]]
                exact Fit.append g1 g2
            have := key k (Nat.le_refl _)
            simpa using this
      case struct fs =>
        obtain ⟨xs, n', _, _, hlen, hxs, hf⟩ := DataW.trod_struct hu hx
        have hf' : ∀ f ∈ fs.toList, ∃ y, DataW.trod enc P W 0 (fun _ => true) true n' f.type ((cs.drop f.offset).take (P.cellsOf f.type)) = some y := fun f hm => by
          obtain ⟨i, hi, he⟩ := List.mem_iff_getElem.1 hm
          have hi' : i < fs.size := by simpa using hi
          have h1 : fs[i]? = some f := by
            rw [Array.getElem?_eq_getElem hi']
            congr 1
          exact ⟨xs[i], by rw [hf i f h1, List.getElem?_eq_getElem]⟩
        have key : ∀ (l : List Field) (off : Nat) (ks : List LK), (∀ f ∈ l, ∃ y, DataW.trod enc P W 0 (fun _ => true) true n' f.type ((cs.drop f.offset).take (P.cellsOf f.type)) = some y) →
            leavesF P (leavesB P d) (P.cellsOf t) off l = some ks → Fit enc P W ks (cs.drop off) := by
          intro l
          induction l with
          | nil =>
            intro off ks _ h
            unfold leavesF at h
            cases hb : Nat.beq off (P.cellsOf t) with
            | false => rw [hb] at h; cases h
            | true =>
              rw [hb] at h
              cases h
              have := Nat.eq_of_beq_eq_true hb
              rw [List.drop_eq_nil_of_le (by omega)]
              trivial
          | cons f l ihl =>
            intro off ks hl h
            unfold leavesF at h
            cases hb : Nat.beq f.offset off with
            | false => rw [hb] at h; cases h
            | true =>
              rw [hb] at h
              simp only at h
              have hoff := Nat.eq_of_beq_eq_true hb
              cases h1 : leavesB P d f.type with
              | none => rw [h1] at h; cases h
              | some a =>
                rw [h1] at h
                simp only at h
                cases h2 : leavesF P (leavesB P d) (P.cellsOf t) (off + P.cellsOf f.type) l with
                | none => rw [h2] at h; cases h
                | some b =>
                  rw [h2] at h
                  cases h
                  obtain ⟨y, hy⟩ := hl f (List.mem_cons_self ..)
                  rw [hoff] at hy
                  have g1 := ih n' f.type _ y a h1 hy
                  have g2 := ihl (off + P.cellsOf f.type) b (fun g hg => hl g (List.mem_cons_of_mem _ hg)) h2
                  rw [show cs.drop off = (cs.drop off).take (P.cellsOf f.type) ++ cs.drop (off + P.cellsOf f.type) by
                    rw [← List.drop_drop, List.take_append_drop]]
                  exact Fit.append g1 g2
        have := key fs.toList 0 ks hf' h
        simpa using this
theorem dec_flat' {α : Type} {f : α → List Value} {φ : α → Prop} {e : TypeId} {sz : Nat} (ks : List LK) (hk : leavesB P 6 e = some ks) (h : ∀ cs, Fit enc P W ks cs → ∃ a, cs = f a ∧ φ a) :
    ∀ n cs' y, cs'.length = sz → DataW.trod enc P W 0 (fun _ => true) true n e cs' = some y → ∃ a, cs' = f a ∧ φ a := fun n cs' y _ hy =>
  h cs' (trod_fit 6 n e cs' y ks hk hy)
/-- an argument that is a struct -/
theorem open_flat_arg {α : Type} {f : α → List Value} {φ : α → Prop} {t : TypeId} {fs : Array Field} {base : Nat} {v : Value} {d : DataW H} {ps : List MemPlace} (ks : List LK) (ht : P.underlying t = some (.struct fs)) (hk : leavesB P 6 t = some ks)
    (h : ∀ cs, Fit enc P W ks cs → ∃ a, cs = f a ∧ φ a) {r : Reach} (hv : Value.okWide P W r base t v) (hx : DataW.Trod enc P W 0 (fun _ => true) true t v d ps) : ∃ a, v = .agg (f a).toArray ∧ φ a := by
  obtain ⟨cs, rfl, _⟩ := okWide_struct ht hv
  obtain ⟨fuel, hfl⟩ := hx
  obtain ⟨a, h1, h2⟩ := h _ (trod_fit 6 fuel t _ _ ks hk hfl)
  refine ⟨a, ?_, h2⟩
  have : cs.toList = f a := by simpa [Value.cells] using h1
  rw [← this]
/-- a slice that is part of something -/
theorem Fit1.sl {α : Type} [Inhabited α] {f : α → List Value} {sz : Nat} (hf : Fl f sz) (φ : α → Prop) {t e : TypeId} {v : Value} (ht : P.underlying t = some (.slice e)) (hc : P.cellsOf e = sz)
    (hdec : ∀ n cs' y, cs'.length = sz → DataW.trod enc P W 0 (fun _ => true) true n e cs' = some y → ∃ a, cs' = f a ∧ φ a) (h : Fit1 enc P W (.sl t) v) : ∃ p c l, v = .slice p l.length c ∧ Sl (memOf W) f sz p c l ∧ ∀ a ∈ l, φ a := by
  obtain ⟨n, y, hy⟩ := h
  obtain ⟨p, c, l, h1, h2⟩ := open_sl hf φ ht hc hdec hy
  exact ⟨p, c, l, by simpa using h1, h2⟩
end
end Go.J
namespace Go.Proofs.YtkoijdmlehkhbaaGreatDoor
open Go Go.J
attribute [local irreducible] At AtQ AtM AtM1 PR Ct Pu Rd Res.blk Res.own Res.ex RVs RV
namespace Qu
open Wide
/-- what a variable reads as stays as memory grows -/
theorem var_up {W w : World} {name : String} {cs : Array Value} {g : Nat} (hg : Tryz.prog.globalNamed name = some g) (t : W.var? Tryz.prog name = some cs) (hw : ∀ k o, memOf W k = some o → w.heap[k]? = some o) : w.var? Tryz.prog name = some cs := by
  unfold World.var? at t ⊢
  rw [hg] at t ⊢
  rw [Option.bind_some] at t ⊢
  cases ho : W.heap[g]? with
  | none => rw [ho] at t; cases t
  | some o => rw [hw _ o ho]; rw [ho] at t; exact t
theorem tz_of {W : World} {l : List (String × DataW Unit)} (h : laidMetH Tryz.prog l W)
    (e : (l.filter fun x => x.1 == (Tryz.prog.globals[2]!).name) = [((Tryz.prog.globals[2]!).name, Lib.tabData .u8 (Lib.deBruijn64tab.map Int.ofNat))]) : Ra.TZ (memOf W) := by
  have h1 := h.filter (fun x => x.1 == (Tryz.prog.globals[2]!).name)
  rw [e, MakeChecks.laidMetH_plain _ _ _ (by kernel_rfl)] at h1
  have hg : Tryz.prog.globalNamed (Tryz.prog.globals[2]!).name = some 2 := by kernel_rfl
  have t := Lib.tabIs_of_head hg (by kernel_rfl) Tryz.underlying301 Tryz.underlying5 (by kernel_rfl) (by kernel_rfl) h1
  intro w hw j hj
  have t' : Lib.TabIs Tryz.prog w _ .u8 _ := var_up hg t hw
  rw [t'.cell hg j (by rw [List.length_map]; exact hj)]
  simp [List.getD, hj]
end Qu
end Go.Proofs.YtkoijdmlehkhbaaGreatDoor
namespace Go.Proofs.YtkoijdmlehkhbaaGreatDoor
open Go Go.J
namespace Cfg
open Go.RowKit
theorem dec_cfg {H : Type} {enc : TypeId × Value → H} {P : Program} {W : World} : ∀ cs, Go.J.Fit enc P W [.int .i64, .int .i64, .int .i64, .int .i64, .int .i64, .int .i64, .int .i64, .int .i64, .int .i64] cs → ∃ K : Cfg, cs = cells K ∧ True := by
  intro cs h
  obtain ⟨_, _, rfl, h0, h⟩ := h.cons
  obtain ⟨_, _, rfl, h1, h⟩ := h.cons
  obtain ⟨_, _, rfl, h2, h⟩ := h.cons
  obtain ⟨_, _, rfl, h3, h⟩ := h.cons
  obtain ⟨_, _, rfl, h4, h⟩ := h.cons
  obtain ⟨_, _, rfl, h5, h⟩ := h.cons
  obtain ⟨_, _, rfl, h6, h⟩ := h.cons
  obtain ⟨_, _, rfl, h7, h⟩ := h.cons
  obtain ⟨_, _, rfl, h8, h⟩ := h.cons
  obtain rfl := h.nil
  obtain ⟨x0, rfl, _⟩ := h0.int
  obtain ⟨x1, rfl, _⟩ := h1.int
  obtain ⟨x2, rfl, _⟩ := h2.int
  obtain ⟨x3, rfl, _⟩ := h3.int
  obtain ⟨x4, rfl, _⟩ := h4.int
  obtain ⟨x5, rfl, _⟩ := h5.int
  obtain ⟨x6, rfl, _⟩ := h6.int
  obtain ⟨x7, rfl, _⟩ := h7.int
  obtain ⟨x8, rfl, _⟩ := h8.int
  exact ⟨⟨x0, x1, x2, x3, x4, x5, x6, x7, x8⟩, rfl, trivial⟩
end Cfg
end Go.Proofs.YtkoijdmlehkhbaaGreatDoor
namespace Go.Proofs.YtkoijdmlehkhbaaGreatDoor
open Go Go.J
attribute [local irreducible] At AtQ AtM AtM1 PR Ct Pu Rd Res.blk Res.own Res.ex RVs RV
namespace Ev
def In (e : Ev) : Prop := -9223372036854775808 ≤ e.T ∧ e.T ≤ 9223372036854775807 ∧ e.V < 18446744073709551616 ∧ -9223372036854775808 ≤ e.C ∧ e.C ≤ 9223372036854775807
theorem dec_ev {H : Type} {enc : TypeId × Value → H} {P : Program} {W : World} : ∀ cs, Fit enc P W [.int .i64, .int .u64, .int .i64, .bool] cs → ∃ a : Ev, cs = a.cells ∧ In a := by
  intro cs h
  obtain ⟨_, _, rfl, h1, h⟩ := h.cons
  obtain ⟨_, _, rfl, h2, h⟩ := h.cons
  obtain ⟨_, _, rfl, h3, h⟩ := h.cons
  obtain ⟨_, _, rfl, h4, h⟩ := h.cons
  obtain rfl := h.nil
  obtain ⟨a, rfl, wa⟩ := h1.int
  obtain ⟨b, rfl, wb⟩ := h2.int
  obtain ⟨c, rfl, wc⟩ := h3.int
  obtain ⟨t, rfl⟩ := h4.bool
  have hb := bounds_u64 wb
  have ha := bounds_i64 wa
  have hc := bounds_i64 wc
  refine ⟨⟨a, b.toNat, c, t⟩, ?_, ha.1, ha.2, by show b.toNat < _; omega, hc.1, hc.2⟩
  show _ = [_, Value.int .u64 (b.toNat : Int), _, _]
  rw [Int.toNat_of_nonneg (by omega)]
end Ev
end Go.Proofs.YtkoijdmlehkhbaaGreatDoor

/- Part 10 of what the law's proof needs: rules of the walk, contracts of functions, plain laws. No condition. -/
import Derived.Test.YtijgnbedilipdaaTdEZ9
import Derived.ProofKit
import Derived.OpenShut
import Derived.Below
import Derived.Carry
import Derived.Deep.Slices
import Derived.WideShapes
set_option linter.unusedSimpArgs false
set_option linter.unusedVariables false
set_option linter.unusedSectionVars false
set_option maxRecDepth 20000
set_option maxHeartbeats 4000000
namespace Go.Proofs.Ytijgnbedilipdaa
open Go Go.J
attribute [local irreducible] At AtQ AtM AtM1 PR Ct Pu Rd Res.blk Res.own Res.ex Res.obj RVs RV CW LW YC BK bodyPostM roundPost Dk.R Cod.W
namespace Td
open Dk Conf Redo
section
variable {r a b e x y w c g : Int}
theorem atOnce {m : Mem} (by_ : Int) (z1 z2 : Cm) (hb : 0 ≤ by_ ∧ by_ < 256) (hz1 : CmOk m z1) (hz2 : CmOk m z2) :
    Ct Try.prog 3 #[kv r a b e x y w c g, .int .u8 by_, .agg z1.cells.toArray, .agg z2.cells.toArray] m [] (fun v m' B => v = .bool true ∧ B = []) := by
  have k1 := begins13
  have hl1 := hz1.h1
  have hl2 := hz2.h1
  have k2 := fun (m' : Mem) (p : Option Addr) (d : Nat) (sl : Sl m' Cm.cells 6 p d [z1, z2]) => fits (r := r) (a := a) (b := b) (e := e) (x := x) (y := y) (w := w) (c := c) (g := g) (m := m') p d [z1, z2] (by show 2 ≤ 9223372036854775807; decide) sl (fun z hz => by
    simp only [List.mem_cons, List.not_mem_nil, or_false] at hz
    rcases hz with rfl | rfl <;> assumption)
  by_cases hf : Ft r a b e x y w c g [z1, z2]
  · have k2' : ∀ (m' : Mem) (p : Option Addr) (d : Nat), Sl m' Cm.cells 6 p d [z1, z2] → Ct Try.prog 6 #[kv r a b e x y w c g, .slice p 2 d] m' [] (fun v m'' B => v = .bool true ∧ m' = m'' ∧ B = []) := fun m' p d sl => (k2 m' p d sl).mono fun u m2 B _ ⟨q, e1, e2, e3⟩ => ⟨by rw [e1, e2.2 hf], e3⟩
    have hs1 : (z1.L.length : Int) ≤ min g 40 := hf.small 0 (by show 0 < 2; decide)
    have hs2 : (z2.L.length : Int) ≤ min g 40 := hf.small 1 (by show 1 < 2; decide)
    obtain ⟨t, h, N, v⟩ := hf.env
    clear hf k2
    have hv := v.num
    have hhN := v.hN
    have hfew := v.few
    by_cases hg2 : (z1.L.length : Int) + (z2.L.length : Int) ≤ g
    · have k3 : Pu Try.prog 7 #[kv r a b e x y w c g] (.tuple #[.int .i64 (N : Int), .int .i64 0]) := by
        have := sizeF v.ok
        rwa [if_neg (by rw [v.sz]; omega), v.sz] at this
      have k4 := fun (m' : Mem) => new_ (m := m') N (by omega) (by omega)
      have k5 := fun (m' : Mem) => homesG (m := m') v by_ hb
      have k7 := fun (m' : Mem) (p : Option Addr) (d : Nat) (H : List (List UInt8)) (hH : H.length = N - h) (hmm : m.le m') (sl : Sl m' Ls.fS 1 p d H) => changesG v z1 p d H hH (by omega) (hz1.mono hmm) sl
      have k8 := fun (m' : Mem) (p : Option Addr) (d : Nat) (H : List (List UInt8)) (hH : H.length = N - h) (hmm : m.le m') (sl : Sl m' Ls.fS 1 p d H) => changesG v z2 p d H hH (by omega) (hz2.mono hmm) sl
      have k6 := fun (m' : Mem) (d0 : Nat) (H : List (List UInt8)) (p : Option Addr) (d : Nat) (hH : H.length = N - h) (h5 : ∀ z ∈ H, z.length = 512) (sl : Sl m' Ls.fS 1 p d H) => formatG (H := H) v d0 p d hH h5 sl
      clear hz1 hz2
      obtain ⟨p1, c1, L1, bz, step, p2, c2, K, again, p3, c3, T⟩ := z1
      obtain ⟨q1, e1, L2, bzz, step2, q2, e2, K2, again2, q3, e3, T2⟩ := z2
      dsimp only [Cm.cells] at hl1 hl2 hs1 hs2 hg2 k7 k8 ⊢
      generalize mkD N = D0 at k4 k6
      refine Ct.enterV (by rfl) Try.func3 rfl Try.ntmps3 rfl (fun w0 Rest => ?_)
      (repeat' (first | refine zss ?_ | ((first | (with_reducible first | apply At.val | apply AtQ.val)); (exact zprA); exact rfl) | refine zs0 ?_ | ((with_reducible first | apply AtM1.callp | apply AtQ.callp | apply At.callp); kernel_rfl; exact rfl; exact rfl; exact k1) | ((with_reducible apply At.litF Cm.cells [(⟨p1, c1, L1, bz, step, p2, c2, K, again, p3, c3, T⟩ : Cm), ⟨q1, e1, L2, bzz, step2, q2, e2, K2, again2, q3, e3, T2⟩]); exact inferInstance; (iterate 7 exact rfl); intro b' m' hm' sl4; (try replace sl1 := sl1.mono hm'); (try replace sl2 := sl2.mono hm'); (try replace sl5 := sl5.mono hm'); (try replace sl6 := sl6.mono hm'); (try replace sl7 := sl7.mono hm'); (try replace sl8 := sl8.mono hm')) | ((with_reducible first | apply At.c1 | apply At.c0); exact rfl; exact rfl; exact k2' _ _ _ sl4; exact ztk; kernel_rfl; rintro v' m' B' hm' ⟨rfl, rfl, rfl⟩; (try replace sl1 := sl1.mono hm'); (try replace sl2 := sl2.mono hm'); (try replace sl4 := sl4.mono hm'); (try replace sl5 := sl5.mono hm'); (try replace sl6 := sl6.mono hm'); (try replace sl7 := sl7.mono hm'); (try replace sl8 := sl8.mono hm'); (try (have hq0 : hm' = Mem.le_refl _ := rfl; clear hq0 hm'))) | ((with_reducible first | apply AtM1.callp | apply AtQ.callp | apply At.callp); kernel_rfl; exact rfl; exact rfl; exact k3) | ((with_reducible apply At.box (d := 4)); exact rfl; exact rfl; exact rfl; intro b4) | ((with_reducible apply At.box (d := 6)); exact rfl; exact rfl; exact rfl; intro b6) | ((with_reducible apply At.box (d := 7)); exact rfl; exact rfl; exact rfl; intro b7) | (refine zsp ?_ ?_ <;> (intro hc; (try simp only [zhcs, reduceCtorEq] at hc); (try (exfalso; first | (first | omega | exact absurd rfl hc) | contradiction | omega | exact absurd rfl hc | exact absurd (by decide) hc))))))
      clear k1 k2' k3 sl4
      ((with_reducible first | apply At.c1 | apply At.c0); exact rfl; exact rfl; exact k4 _; exact ztk; kernel_rfl; rintro v' m' B' hm' ⟨d0, rfl, rfl⟩; (try replace sl1 := sl1.mono hm'); (try replace sl2 := sl2.mono hm'); (try replace sl4 := sl4.mono hm'); (try replace sl5 := sl5.mono hm'); (try replace sl6 := sl6.mono hm'); (try replace sl7 := sl7.mono hm'); (try replace sl8 := sl8.mono hm'); (try (have hq0 : hm' = Mem.le_refl _ := rfl; clear hq0 hm')))
      (repeat' (first | refine zss ?_ | ((first | (with_reducible first | apply At.val | apply AtQ.val)); (exact zprA); exact rfl) | refine zs0 ?_ | ((with_reducible apply At.box (d := 4)); exact rfl; exact rfl; exact rfl; intro b4) | ((with_reducible apply At.box (d := 6)); exact rfl; exact rfl; exact rfl; intro b6) | ((with_reducible apply At.box (d := 7)); exact rfl; exact rfl; exact rfl; intro b7) | (refine zsp ?_ ?_ <;> (intro hc; (try simp only [zhcs, reduceCtorEq] at hc); (try (exfalso; first | (first | omega | exact absurd rfl hc) | contradiction | omega | exact absurd rfl hc | exact absurd (by decide) hc))))))
      ((with_reducible first | apply At.c1 | apply At.c0); exact rfl; exact rfl; exact k4 _; exact ztk; kernel_rfl; rintro v' m' B' hm' ⟨e0, rfl, rfl⟩; (try replace sl1 := sl1.mono hm'); (try replace sl2 := sl2.mono hm'); (try replace sl4 := sl4.mono hm'); (try replace sl5 := sl5.mono hm'); (try replace sl6 := sl6.mono hm'); (try replace sl7 := sl7.mono hm'); (try replace sl8 := sl8.mono hm'); (try (have hq0 : hm' = Mem.le_refl _ := rfl; clear hq0 hm')))
      (repeat' (first | refine zss ?_ | ((first | (with_reducible first | apply At.val | apply AtQ.val)); (exact zprA); exact rfl) | refine zs0 ?_ | ((with_reducible first | apply At.c1 | apply At.c0); exact rfl; exact rfl; exact k5 _; exact ztk; kernel_rfl; rintro v' m' B' hm' ⟨p4, d4, H, rfl, sl4, hH, h5, rfl⟩; (try replace sl1 := sl1.mono hm'); (try replace sl2 := sl2.mono hm'); (try replace sl4 := sl4.mono hm'); (try replace sl5 := sl5.mono hm'); (try replace sl6 := sl6.mono hm'); (try replace sl7 := sl7.mono hm'); (try replace sl8 := sl8.mono hm'); (try (have hq0 : hm' = Mem.le_refl _ := rfl; clear hq0 hm'))) | ((with_reducible first | apply At.c1 | apply At.c0); exact rfl; exact rfl; exact k6 _ d0 H _ _ hH h5 sl4; exact ztk; kernel_rfl; rintro v' m' B' hm' ⟨rfl, D1, rfl, x1, ha1⟩; (try replace sl1 := sl1.mono hm'); (try replace sl2 := sl2.mono hm'); (try replace sl4 := sl4.mono hm'); (try replace sl5 := sl5.mono hm'); (try replace sl6 := sl6.mono hm'); (try replace sl7 := sl7.mono hm'); (try replace sl8 := sl8.mono hm'); (try (have hq0 : hm' = Mem.le_refl _ := rfl; clear hq0 hm'))) | ((with_reducible first | apply At.c1 | apply At.c0); exact rfl; exact rfl; exact k6 _ e0 H _ _ hH h5 sl4; exact ztk; kernel_rfl; rintro v' m' B' hm' ⟨rfl, E1, rfl, y1, hb1⟩; (try replace sl1 := sl1.mono hm'); (try replace sl2 := sl2.mono hm'); (try replace sl4 := sl4.mono hm'); (try replace sl5 := sl5.mono hm'); (try replace sl6 := sl6.mono hm'); (try replace sl7 := sl7.mono hm'); (try replace sl8 := sl8.mono hm'); (try (have hq0 : hm' = Mem.le_refl _ := rfl; clear hq0 hm'))) | ((with_reducible first | apply At.c1 | apply At.c0); exact rfl; exact rfl; exact k7 _ _ _ H hH zml sl4; exact ztk; kernel_rfl; rintro v' m' B' hm' ⟨X, M, p5, d5, p6, d6, rfl, sl5, sl6, hX, hXl, hM, rfl⟩; (try replace sl1 := sl1.mono hm'); (try replace sl2 := sl2.mono hm'); (try replace sl4 := sl4.mono hm'); (try replace sl5 := sl5.mono hm'); (try replace sl6 := sl6.mono hm'); (try replace sl7 := sl7.mono hm'); (try replace sl8 := sl8.mono hm'); (try (have hq0 : hm' = Mem.le_refl _ := rfl; clear hq0 hm'))) | ((with_reducible apply At.box (d := 4)); exact rfl; exact rfl; exact rfl; intro b4) | ((with_reducible apply At.box (d := 6)); exact rfl; exact rfl; exact rfl; intro b6) | ((with_reducible apply At.box (d := 7)); exact rfl; exact rfl; exact rfl; intro b7) | (refine zsp ?_ ?_ <;> (intro hc; (try simp only [zhcs, reduceCtorEq] at hc); (try (exfalso; first | (first | omega | exact absurd rfl hc) | contradiction | omega | exact absurd rfl hc | exact absurd (by decide) hc))))))
      clear k4 k5 k6 k7 sl4
      (repeat' (first | ((with_reducible apply At.mixedX (id := 15) [R d0 D1] 10 (.q 0 (.q 1 (.q 2 (.q 4 (.q 5 (.q 6 (.l 3 (.x 7 (.q 8 (.q 9 .done))))))))))); (repeat' (first | exact Take.nil | ((with_reducible apply Take.cons); (focus ((repeat constructor); done))))); exact rfl; kernel_rfl; kernel_rfl; kernel_rfl) | refine zsx ?_ | refine zss ?_ | ((with_reducible apply AtM.bo); exact rfl; exact rfl; exact rfl) | ((first | (with_reducible first | apply At.val | apply AtQ.val) | ((with_reducible first | apply AtM1.valz | apply AtM1.val); exact rfl) | ((with_reducible apply AtM1.val); exact rfl)); (exact zprA); exact rfl) | refine zs0 ?_ | refine zx0 ?_ | ((with_reducible first | apply At.c1 | apply At.c0); exact rfl; exact rfl; exact k8 _ _ _ M hM zml sl6; exact ztk; kernel_rfl; rintro v' m' B' hm' ⟨Y, W, p7, d7, p8, d8, rfl, sl7, sl8, hY, hYl, hW, rfl⟩; (try replace sl1 := sl1.mono hm'); (try replace sl2 := sl2.mono hm'); (try replace sl4 := sl4.mono hm'); (try replace sl5 := sl5.mono hm'); (try replace sl6 := sl6.mono hm'); (try replace sl7 := sl7.mono hm'); (try replace sl8 := sl8.mono hm'); (try (have hq0 : hm' = Mem.le_refl _ := rfl; clear hq0 hm'))) | ((with_reducible apply At.box (d := 4)); exact rfl; exact rfl; exact rfl; intro b4) | ((with_reducible apply At.box (d := 6)); exact rfl; exact rfl; exact rfl; intro b6) | ((with_reducible apply At.box (d := 7)); exact rfl; exact rfl; exact rfl; intro b7) | (refine zsp ?_ ?_ <;> (intro hc; (try simp only [zhcs, reduceCtorEq] at hc); (try (exfalso; first | (first | omega | exact absurd rfl hc) | contradiction | omega | exact absurd rfl hc | exact absurd (by decide) hc))))))
      clear k8 sl6
      have hXg : (X.length : Int) ≤ g := by omega
      have hX1 : X.length ≤ 40 := by omega
      have hYg : (Y.length : Int) ≤ g := by omega
      have hY1 : Y.length ≤ 40 := by omega
      have k9 := fun (m' : Mem) (sl : Sl m' fC 2 p5 d5 X) => commitG v d0 D1 p5 d5 x1 ha1 (by omega) hX hXg (by omega) sl
      have k10 := fun (m' : Mem) (D : Dsk) (q : Rst h N D (1 + min 1 X.length) M) (ha : D.arm = 0) (sl : Sl m' fC 2 p7 d7 Y) => commitG v d0 D p7 d7 q ha (by omega) hY hYg (by omega) sl
      have hWb : W.length ≤ 1000000 := by omega
      have hcat : (([] : List Chg) ++ X ++ Y).length = X.length + Y.length := by rw [List.length_append, List.nil_append]
      clear hv hhN hfew hs1 hs2 hl1 hl2 hg2 h5
      (repeat' (first | ((with_reducible apply At.mixedX (id := 15) [R d0 D1] 10 (.q 0 (.q 1 (.q 2 (.q 4 (.q 5 (.q 6 (.l 3 (.x 7 (.q 8 (.q 9 .done))))))))))); (repeat' (first | exact Take.nil | ((with_reducible apply Take.cons); (focus ((repeat constructor); done))))); exact rfl; kernel_rfl; kernel_rfl; kernel_rfl) | ((with_reducible apply At.mixedX (id := 16) [R e0 E1] 9 (.q 0 (.q 1 (.q 3 (.q 5 (.l 2 (.l 4 (.l 6 (.x 7 (.q 8 .done)))))))))); (repeat' (first | exact Take.nil | ((with_reducible apply Take.cons); (focus ((repeat constructor); done))))); exact rfl; kernel_rfl; kernel_rfl; kernel_rfl) | refine zsx ?_ | refine zss ?_ | ((with_reducible apply AtM.bo); exact rfl; exact rfl; exact rfl) | ((first | (with_reducible first | apply At.val | apply AtQ.val) | ((with_reducible first | apply AtM1.valz | apply AtM1.val); exact rfl) | ((with_reducible apply AtM1.val); exact rfl)); (exact zprA); exact rfl) | refine zs0 ?_ | refine zx0 ?_ | ((with_reducible first | apply At.c1 | apply At.c0); exact rfl; exact rfl; exact k9 _ sl5; exact ztk; kernel_rfl; rintro v' m' B' hm' ⟨rfl, D2, rfl, x2, ha2⟩; (try replace sl1 := sl1.mono hm'); (try replace sl2 := sl2.mono hm'); (try replace sl4 := sl4.mono hm'); (try replace sl5 := sl5.mono hm'); (try replace sl6 := sl6.mono hm'); (try replace sl7 := sl7.mono hm'); (try replace sl8 := sl8.mono hm'); (try (have hq0 : hm' = Mem.le_refl _ := rfl; clear hq0 hm'))) | ((with_reducible first | apply At.c1 | apply At.c0); exact rfl; exact rfl; exact k10 _ D2 x2 ha2 sl7; exact ztk; kernel_rfl; rintro v' m' B' hm' ⟨rfl, D3, rfl, x3, ha3⟩; (try replace sl1 := sl1.mono hm'); (try replace sl2 := sl2.mono hm'); (try replace sl4 := sl4.mono hm'); (try replace sl5 := sl5.mono hm'); (try replace sl6 := sl6.mono hm'); (try replace sl7 := sl7.mono hm'); (try replace sl8 := sl8.mono hm'); (try (have hq0 : hm' = Mem.le_refl _ := rfl; clear hq0 hm'))) | ((with_reducible apply At.box (d := 4)); exact rfl; exact rfl; exact rfl; intro b4) | ((with_reducible apply At.box (d := 6)); exact rfl; exact rfl; exact rfl; intro b6) | ((with_reducible apply At.box (d := 7)); exact rfl; exact rfl; exact rfl; intro b7) | (refine zsp ?_ ?_ <;> (intro hc; (try simp only [zhcs, reduceCtorEq] at hc); (try (exfalso; first | (first | omega | exact absurd rfl hc) | contradiction | omega | exact absurd rfl hc | exact absurd (by decide) hc))))))
      clear k9 k10
      have k11 := fun (m' : Mem) (p : Option Addr) (d : Nat) => commitO (m := m') (l := ([] ++ X) ++ Y) v e0 E1 p d y1 hb1 (by omega) (hX.app hY) (by rw [List.length_append, List.nil_append]; omega) (by rw [List.length_append, List.nil_append]; omega)
      have k12 := fun (m' : Mem) => homeQ (m := m') v d0 D3 x3
      have k13 := fun (m' : Mem) (E2 : Dsk) (q : Rst h N E2 (1 + min 1 ([] ++ X ++ Y).length) W) => homeQ (m := m') v e0 E2 q
      have k14 := fun (m' : Mem) => pointerQ (m := m') v d0 D3 x3 (by omega)
      have k15 := fun (m' : Mem) (E2 : Dsk) (q : Rst h N E2 (1 + min 1 ([] ++ X ++ Y).length) W) => pointerQ (m := m') v e0 E2 q (by omega)
      (repeat' (first | ((with_reducible apply At.mixedX (id := 16) [R e0 E1] 9 (.q 0 (.q 1 (.q 3 (.q 5 (.l 2 (.l 4 (.l 6 (.x 7 (.q 8 .done)))))))))); (repeat' (first | exact Take.nil | ((with_reducible apply Take.cons); (focus ((repeat constructor); done))))); exact rfl; kernel_rfl; kernel_rfl; kernel_rfl) | refine zsx ?_ | refine zss ?_ | ((with_reducible apply AtM.bo); exact rfl; exact rfl; exact rfl) | ((first | (with_reducible first | apply At.val | apply AtQ.val) | ((with_reducible first | apply AtM1.valz | apply AtM1.val); exact rfl) | ((with_reducible apply AtM1.val); exact rfl)); (exact zprA); exact rfl) | refine zs0 ?_ | refine zx0 ?_ | ((with_reducible apply At.lit fC ([] : List Chg)); exact inferInstance; (iterate 7 exact rfl); intro _) | ((with_reducible apply At.apW (f := fC) (l := ([] : List Chg))); exact rfl; exact rfl; exact (by repeat constructor); exact inferInstance; exact zrdl; (iterate 4 exact rfl); exact zom; exact rfl; intro p9 d9) | ((with_reducible apply At.apW (f := fC) (l := ([] : List Chg) ++ X)); exact rfl; exact rfl; exact (by repeat constructor); exact inferInstance; exact zrdl; (iterate 4 exact rfl); exact zom; exact rfl; intro pa da) | ((with_reducible first | apply At.c1 | apply At.c0); exact rfl; exact rfl; exact k11 _ _ _; exact ztk; kernel_rfl; rintro v' m' B' hm' ⟨rfl, E2, rfl, y2, _⟩; (try replace sl1 := sl1.mono hm'); (try replace sl2 := sl2.mono hm'); (try replace sl4 := sl4.mono hm'); (try replace sl5 := sl5.mono hm'); (try replace sl6 := sl6.mono hm'); (try replace sl7 := sl7.mono hm'); (try replace sl8 := sl8.mono hm'); (try (have hq0 : hm' = Mem.le_refl _ := rfl; clear hq0 hm'))) | ((with_reducible first | apply At.c1 | apply At.c0); exact rfl; exact rfl; exact k12 _; exact ztk; kernel_rfl; rintro v' m' B' hm' ⟨pb, db, rfl, sl1, rfl⟩; (try replace sl1 := sl1.mono hm'); (try replace sl2 := sl2.mono hm'); (try replace sl4 := sl4.mono hm'); (try replace sl5 := sl5.mono hm'); (try replace sl6 := sl6.mono hm'); (try replace sl7 := sl7.mono hm'); (try replace sl8 := sl8.mono hm'); (try (have hq0 : hm' = Mem.le_refl _ := rfl; clear hq0 hm'))) | ((with_reducible first | apply At.c1 | apply At.c0); exact rfl; exact rfl; exact k13 _ E2 y2; exact ztk; kernel_rfl; rintro v' m' B' hm' ⟨pc, dc, rfl, sl2, rfl⟩; (try replace sl1 := sl1.mono hm'); (try replace sl2 := sl2.mono hm'); (try replace sl4 := sl4.mono hm'); (try replace sl5 := sl5.mono hm'); (try replace sl6 := sl6.mono hm'); (try replace sl7 := sl7.mono hm'); (try replace sl8 := sl8.mono hm'); (try (have hq0 : hm' = Mem.le_refl _ := rfl; clear hq0 hm'))) | ((with_reducible first | apply At.c1 | apply At.c0); exact rfl; exact rfl; exact k14 _; exact ztk; kernel_rfl; rintro v' m' B' hm' ⟨rfl, rfl⟩; (try replace sl1 := sl1.mono hm'); (try replace sl2 := sl2.mono hm'); (try replace sl4 := sl4.mono hm'); (try replace sl5 := sl5.mono hm'); (try replace sl6 := sl6.mono hm'); (try replace sl7 := sl7.mono hm'); (try replace sl8 := sl8.mono hm'); (try (have hq0 : hm' = Mem.le_refl _ := rfl; clear hq0 hm'))) | ((with_reducible first | apply At.c1 | apply At.c0); exact rfl; exact rfl; exact k15 _ E2 y2; exact ztk; kernel_rfl; rintro v' m' B' hm' ⟨rfl, rfl⟩; (try replace sl1 := sl1.mono hm'); (try replace sl2 := sl2.mono hm'); (try replace sl4 := sl4.mono hm'); (try replace sl5 := sl5.mono hm'); (try replace sl6 := sl6.mono hm'); (try replace sl7 := sl7.mono hm'); (try replace sl8 := sl8.mono hm'); (try (have hq0 : hm' = Mem.le_refl _ := rfl; clear hq0 hm'))) | ((with_reducible apply At.box (d := 4)); exact rfl; exact rfl; exact rfl; intro b4) | ((with_reducible apply At.box (d := 6)); exact rfl; exact rfl; exact rfl; intro b6) | ((with_reducible apply At.box (d := 7)); exact rfl; exact rfl; exact rfl; intro b7) | (refine zsp ?_ ?_ <;> (intro hc; (try simp only [zhcs, reduceCtorEq] at hc); (try (exfalso; first | (first | omega | exact absurd rfl hc) | contradiction | omega | exact absurd rfl hc | exact absurd (by decide) hc))))))
      all_goals clear k11 k12 k13 k14 k15 x1 x2 y1 ha1 ha2 ha3 hb1 hX hY
      all_goals have k16 := fun (m' : Mem) (s1 : Sl m' Ls.fS 1 pb db W) (s2 : Sl m' Ls.fS 1 p8 d8 W) => sameT pb db W p8 d8 hWb s1 s2
      all_goals have k17 := fun (m' : Mem) (s1 : Sl m' Ls.fS 1 pc dc W) (s2 : Sl m' Ls.fS 1 p8 d8 W) => sameT pc dc W p8 d8 hWb s1 s2
      (repeat' (first | refine zss ?_ | ((first | (with_reducible first | apply At.val | apply AtQ.val)); (exact zprA); exact rfl) | refine zs0 ?_ | ((with_reducible first | apply AtM1.cr | apply AtQ.cr | apply At.cr); exact rfl; exact rfl; exact fun _ hmm => k16 _ (sl1.mono hmm) (sl8.mono hmm); exact ztk; kernel_rfl) | ((with_reducible first | apply AtM1.cr | apply AtQ.cr | apply At.cr); exact rfl; exact rfl; exact fun _ hmm => k17 _ (sl2.mono hmm) (sl8.mono hmm); exact ztk; kernel_rfl) | ((with_reducible apply At.box (d := 4)); exact rfl; exact rfl; exact rfl; intro b4) | ((with_reducible apply At.box (d := 6)); exact rfl; exact rfl; exact rfl; intro b6) | ((with_reducible apply At.box (d := 7)); exact rfl; exact rfl; exact rfl; intro b7) | (refine zsp ?_ ?_ <;> (intro hc; (try simp only [zhcs, reduceCtorEq] at hc); (try (exfalso; first | (first | omega | exact absurd rfl hc) | contradiction | omega | exact absurd rfl hc | exact absurd (by decide) hc))))))
      all_goals ((with_reducible apply At.retB1 (B := [])); exact rfl; exact rfl; exact zml; exact zkp; exact ⟨congrArg Value.bool (decide_eq_true (by omega)), rfl⟩)
    · clear hz1 hz2
      obtain ⟨p1, c1, L1, bz, step, p2, c2, K, again, p3, c3, T⟩ := z1
      obtain ⟨q1, e1, L2, bzz, step2, q2, e2, K2, again2, q3, e3, T2⟩ := z2
      dsimp only [Cm.cells] at hl1 hl2 hs1 hs2 hg2 ⊢
      refine Ct.enterV (by rfl) Try.func3 rfl Try.ntmps3 rfl (fun w0 Rest => ?_)
      (repeat' (first | refine zss ?_ | ((first | (with_reducible first | apply At.val | apply AtQ.val)); (exact zprA); exact rfl) | refine zs0 ?_ | ((with_reducible first | apply AtM1.callp | apply AtQ.callp | apply At.callp); kernel_rfl; exact rfl; exact rfl; exact k1) | ((with_reducible apply At.litF Cm.cells [(⟨p1, c1, L1, bz, step, p2, c2, K, again, p3, c3, T⟩ : Cm), ⟨q1, e1, L2, bzz, step2, q2, e2, K2, again2, q3, e3, T2⟩]); exact inferInstance; (iterate 7 exact rfl); intro b' m' hm' sl4; (try replace sl1 := sl1.mono hm'); (try replace sl2 := sl2.mono hm'); (try replace sl5 := sl5.mono hm'); (try replace sl6 := sl6.mono hm'); (try replace sl7 := sl7.mono hm'); (try replace sl8 := sl8.mono hm')) | ((with_reducible first | apply At.c1 | apply At.c0); exact rfl; exact rfl; exact k2' _ _ _ sl4; exact ztk; kernel_rfl; rintro v' m' B' hm' ⟨rfl, rfl, rfl⟩; (try replace sl1 := sl1.mono hm'); (try replace sl2 := sl2.mono hm'); (try replace sl4 := sl4.mono hm'); (try replace sl5 := sl5.mono hm'); (try replace sl6 := sl6.mono hm'); (try replace sl7 := sl7.mono hm'); (try replace sl8 := sl8.mono hm'); (try (have hq0 : hm' = Mem.le_refl _ := rfl; clear hq0 hm'))) | ((with_reducible apply At.box (d := 4)); exact rfl; exact rfl; exact rfl; intro b4) | ((with_reducible apply At.box (d := 6)); exact rfl; exact rfl; exact rfl; intro b6) | ((with_reducible apply At.box (d := 7)); exact rfl; exact rfl; exact rfl; intro b7) | (refine zsp ?_ ?_ <;> (intro hc; (try simp only [zhcs, reduceCtorEq] at hc); (try (exfalso; first | (first | omega | exact absurd rfl hc) | contradiction | omega | exact absurd rfl hc | exact absurd (by decide) hc))))))
      all_goals ((with_reducible apply At.retB1 (B := [])); exact rfl; exact rfl; exact zml; exact zkp; exact ⟨rfl, rfl⟩)
  · have k2' : ∀ (m' : Mem) (p : Option Addr) (d : Nat), Sl m' Cm.cells 6 p d [z1, z2] → Ct Try.prog 6 #[kv r a b e x y w c g, .slice p 2 d] m' [] (fun v m'' B => v = .bool false ∧ m' = m'' ∧ B = []) := fun m' p d sl => (k2 m' p d sl).mono fun u m2 B _ ⟨q, e1, e2, e3⟩ => ⟨by
      rw [e1]
      cases q
      · rfl
      · exact absurd (e2.1 rfl) hf, e3⟩
    clear k2 hf hz1 hz2
    obtain ⟨p1, c1, L1, bz, step, p2, c2, K, again, p3, c3, T⟩ := z1
    obtain ⟨q1, e1, L2, bzz, step2, q2, e2, K2, again2, q3, e3, T2⟩ := z2
    dsimp only [Cm.cells] at hl1 hl2 ⊢
    refine Ct.enterV (by rfl) Try.func3 rfl Try.ntmps3 rfl (fun w0 Rest => ?_)
    (repeat' (first | refine zss ?_ | ((first | (with_reducible first | apply At.val | apply AtQ.val)); (exact zprA); exact rfl) | refine zs0 ?_ | ((with_reducible first | apply AtM1.callp | apply AtQ.callp | apply At.callp); kernel_rfl; exact rfl; exact rfl; exact k1) | ((with_reducible apply At.litF Cm.cells [(⟨p1, c1, L1, bz, step, p2, c2, K, again, p3, c3, T⟩ : Cm), ⟨q1, e1, L2, bzz, step2, q2, e2, K2, again2, q3, e3, T2⟩]); exact inferInstance; (iterate 7 exact rfl); intro b' m' hm' sl4; (try replace sl1 := sl1.mono hm'); (try replace sl2 := sl2.mono hm'); (try replace sl5 := sl5.mono hm'); (try replace sl6 := sl6.mono hm'); (try replace sl7 := sl7.mono hm'); (try replace sl8 := sl8.mono hm')) | ((with_reducible first | apply At.c1 | apply At.c0); exact rfl; exact rfl; exact k2' _ _ _ sl4; exact ztk; kernel_rfl; rintro v' m' B' hm' ⟨rfl, rfl, rfl⟩; (try replace sl1 := sl1.mono hm'); (try replace sl2 := sl2.mono hm'); (try replace sl4 := sl4.mono hm'); (try replace sl5 := sl5.mono hm'); (try replace sl6 := sl6.mono hm'); (try replace sl7 := sl7.mono hm'); (try replace sl8 := sl8.mono hm'); (try (have hq0 : hm' = Mem.le_refl _ := rfl; clear hq0 hm'))) | ((with_reducible apply At.box (d := 4)); exact rfl; exact rfl; exact rfl; intro b4) | ((with_reducible apply At.box (d := 6)); exact rfl; exact rfl; exact rfl; intro b6) | ((with_reducible apply At.box (d := 7)); exact rfl; exact rfl; exact rfl; intro b7) | (refine zsp ?_ ?_ <;> (intro hc; (try simp only [zhcs, reduceCtorEq] at hc); (try (exfalso; first | (first | omega | exact absurd rfl hc) | contradiction | omega | exact absurd rfl hc | exact absurd (by decide) hc))))))
    all_goals ((with_reducible apply At.retB1 (B := [])); exact rfl; exact rfl; exact zml; exact zkp; exact ⟨rfl, rfl⟩)
end
end Td
end Go.Proofs.Ytijgnbedilipdaa
namespace Go.J
open Go Go.ChangeShapes Go.WideShapes Go.ChangeAt Go.RowKit
def memOf (W : World) : Mem := fun k => W.heap[k]?
theorem HW.init (W : World) : HW W (memOf W) [] W :=
  ⟨rfl, rfl, rfl, Nat.le_refl _, drB_le W, fun _ _ h => h, fun _ => False, fun _ h => h, fun _ h => h.elim⟩
theorem HW.below {W w' : World} {m' : Mem} {Rs : List Res} (h : HW W m' Rs w') (hm : (memOf W).le m') : Below W.heap.size W w' :=
  ⟨h.os, h.tape, h.output, h.size, fun k hk => by
    have hk' : W.heap[k]? = some W.heap[k] := Array.getElem?_eq_getElem hk
    rw [hk']
    exact h.mem k _ (hm k _ hk')⟩
theorem law_calls {P : Program} {f : FuncId} {args : Array Value} {W : World} (h : Ct P f args (memOf W) [] (fun v _ _ => v = .bool true)) :
    Calls P f args W fun e W' => e = .returned (.bool true) ∧ Below W.heap.size W W' :=
  (h W [] W (HW.init W)).mono fun _ _ ⟨_, _, _, he, hm, hv, hw⟩ => ⟨by rw [he, hv], hw.below hm⟩
theorem law_calls_pu {P : Program} {f : FuncId} {args : Array Value} {W : World} (h : Pu P f args (.bool true)) :
    Calls P f args W fun e W' => e = .returned (.bool true) ∧ Below W.heap.size W W' :=
  law_calls ((h (memOf W)).mono fun _ _ _ _ ⟨hv, _, _⟩ => hv)
/-- the arguments read as they did -/
theorem trodAll_below {H : Type} {enc : TypeId × Value → H} {P : Program} (hl : laidOutB P = true) {W W' : World} (hb : Below W.heap.size W W') :
    ∀ (ts : List TypeId) (vs : List Value) (ds : List (DataW H)) (ps : List MemPlace), (ts.all fun t => P.readableRec t && decide (t < P.types.size)) = true →
      DataW.TrodAll enc P W 0 (fun _ => true) true ts vs ds ps → (∀ x ∈ ps, x.block < W.heap.size) → DataW.TrodAll enc P W' 0 (fun b => decide (b < W.heap.size)) true ts vs ds ps
  | [], vs, ds, ps, _, h, _ => by
    obtain ⟨rfl, rfl, rfl⟩ := trodAll_nil h
    exact trodAll_mk0
  | t :: ts, vs, ds, ps, hr, h, hlt => by
    obtain ⟨v, vs', d, ds', p, q, rfl, rfl, rfl, h0, h1⟩ := trodAll_cons h
    simp only [List.all_cons, Bool.and_eq_true, decide_eq_true_eq] at hr
    exact trodAll_cons_mk (Below.trod hl hr.1.1 hr.1.2 h0 hb (fun x hx => hlt x (by simp [hx]))) (trodAll_below hl hb ts vs' ds' q hr.2 h1 (fun x hx => hlt x (by simp [hx])))
end Go.J
namespace Go.J
open Go Go.ChangeShapes Go.WideShapes Go.ChangeAt Go.RowKit
theorem cell_cells {w : World} {a : Addr} {v : Value} (h : w.cell? a = some v) : a.spot = none ∧ ∃ E cs fz, w.heap[a.block]? = some (.cells cs E fz) ∧ cs[a.off]? = some v := by
  unfold World.cell? at h
  cases hb : w.heap[a.block]? with
  | none => rw [hb] at h; cases h
  | some o =>
    rw [hb] at h
    cases o <;> simp at h
    rename_i cs E fz
    exact ⟨by
      cases hs : a.spot with
      | none => rfl
      | some x => rw [hs] at h; simp at h, E, cs, fz, rfl, h.2⟩
theorem open_sl {α : Type} [Inhabited α] {f : α → List Value} {sz : Nat} (hf : Fl f sz) (φ : α → Prop) {H : Type} {enc : TypeId × Value → H} {P : Program} {W : World} {t e : TypeId} {fuel : Nat} {cs : List Value} {x : DataW H × List MemPlace}
    (ht : P.underlying t = some (.slice e)) (hc : P.cellsOf e = sz)
    (hdec : ∀ n cs' y, cs'.length = sz → DataW.trod enc P W 0 (fun _ => true) true n e cs' = some y → ∃ a, cs' = f a ∧ φ a)
    (h : DataW.trod enc P W 0 (fun _ => true) true fuel t cs = some x) : ∃ p c l, cs = [.slice p l.length c] ∧ Sl (memOf W) f sz p c l ∧ ∀ a ∈ l, φ a := by
  rcases Go.Deep.open_slice ht h with ⟨rfl, _⟩ | ⟨a, len, cap, m, n, D, Pl, rfl, _, hl, hm, hmm, _, hx⟩
  · exact ⟨none, 0, [], rfl, Sl.empty _ hf, fun a ha => by cases ha⟩
  · simp only [if_true] at hmm
    subst hmm
    obtain ⟨A, hA⟩ := Go.Deep.choose_lt (α := α) (n := m) (p := fun i y => W.cells? 0 (a.add (i * sz)) sz = some (f y) ∧ φ y) (fun i hi => by
      obtain ⟨cs', h1, h2⟩ := hx i hi
      rw [hc] at h1
      obtain ⟨_, hlen, _⟩ := World.cells?_some h1
      obtain ⟨y, rfl, hy⟩ := hdec n cs' _ hlen h2
      exact ⟨y, h1, hy⟩)
    have hll : ((List.range len).map A).length = len := by simp
    refine ⟨some a, m, (List.range len).map A, by rw [hll], ⟨hf, by rw [hll]; exact hl, hm, (fun e => by cases e), fun a' ha' hpos => ?_⟩, fun y hy => ?_⟩
    · cases ha'
      have hsz := hf.pos
      have hcell : ∀ i j, i < m → j < sz → W.cell? ((a.add (i * sz)).add j) = (f (A i))[j]? := fun i j hi hj => (World.cells?_some (hA i hi).1).2.2 j hj
      have hlen : ∀ i j, j < sz → ∃ v, (f (A i))[j]? = some v := fun i j hj => ⟨(f (A i))[j]'(by rw [hf.len]; exact hj), List.getElem?_eq_getElem _⟩
      obtain ⟨v0, hv0⟩ := hlen 0 0 hsz
      have h00 := hcell 0 0 hpos hsz
      rw [hv0] at h00
      have e0 : (a.add (0 * sz)).add 0 = a := by simp [Addr.add]
      rw [e0] at h00
      obtain ⟨hspot, E, cs, fz, hb, _⟩ := cell_cells h00
      have ea : ∀ k, a.add k = ⟨a.block, a.off + k, none⟩ := fun k => by cases a; simp only at hspot; subst hspot; exact Addr.add_eq _ _ _
      have hcell' : ∀ i j, i < m → j < sz → cs[a.off + (i * sz + j)]? = (f (A i))[j]? := fun i j hi hj => by
        have := hcell i j hi hj
        rw [ea, Addr.add_eq, World.cell_of hb] at this
        rw [← this, Nat.add_assoc]
      refine ⟨hspot, E, cs, fz, hb, ?_, fun i j hi hj => ?_⟩
      · obtain ⟨v, hv⟩ := hlen (m - 1) (sz - 1) (by omega)
        have h1 := hcell' (m - 1) (sz - 1) (by omega) (by omega)
        rw [hv] at h1
        have h2 := (Array.getElem?_eq_some_iff.1 h1).1
        have h3 : (m - 1) * sz + sz = m * sz := by
          have := Nat.succ_mul (m - 1) sz
          rw [show (m - 1).succ = m by omega] at this; omega
        omega
      · rw [hll] at hi
        rw [hcell' i j (by omega) hj]
        congr 2
        rw [List.getElem!_eq_getElem?_getD]; simp [hi]
    · obtain ⟨i, hi, rfl⟩ := List.mem_map.1 hy
      exact (hA i (by have := List.mem_range.1 hi; omega)).2
/-- a law's argument that is a slice -/
theorem open_sl_arg {α : Type} [Inhabited α] {f : α → List Value} {sz : Nat} (hf : Fl f sz) (φ : α → Prop) {H : Type} {enc : TypeId × Value → H} {P : Program} {W : World} {t e : TypeId} {v : Value} {d : DataW H} {ps : List MemPlace}
    (ht : P.underlying t = some (.slice e)) (hc : P.cellsOf e = sz)
    (hdec : ∀ n cs' y, cs'.length = sz → DataW.trod enc P W 0 (fun _ => true) true n e cs' = some y → ∃ a, cs' = f a ∧ φ a)
    (hsl : ∃ p l c, v = .slice p l c) (h : DataW.Trod enc P W 0 (fun _ => true) true t v d ps) : ∃ p c l, v = .slice p l.length c ∧ Sl (memOf W) f sz p c l ∧ ∀ a ∈ l, φ a := by
  obtain ⟨fuel, hfl⟩ := h
  obtain ⟨p0, l0, c0, rfl⟩ := hsl
  obtain ⟨p, c, l, h1, h2⟩ := open_sl hf φ ht hc hdec hfl
  refine ⟨p, c, l, ?_, h2⟩
  simpa [Value.cells] using h1
theorem dec_int {H : Type} {enc : TypeId × Value → H} {P : Program} {W : World} {e : TypeId} {k : IntKind} (he : P.underlying e = some (.int k)) : ∀ n cs' y, cs'.length = 1 → DataW.trod enc P W 0 (fun _ => true) true n e cs' = some y → ∃ a : Int, cs' = [.int k a] ∧ (Lit.int k a).wf = true := fun n cs' y _ h => by
  obtain ⟨a, h1, _, h3⟩ := DataW.trod_int he h
  exact ⟨a, h1, h3⟩
end Go.J
namespace Go.J
open Go Go.ChangeShapes Go.WideShapes Go.ChangeAt Go.RowKit
inductive LK
  | int (k : IntKind)
  | bool
  | str
  | sl (t : TypeId)
section
variable {H : Type} {enc : TypeId × Value → H} {P : Program} {W : World}
def Fit1 (enc : TypeId × Value → H) (P : Program) (W : World) : LK → Value → Prop
  | .int k, v => ∃ a, v = .int k a ∧ (Lit.int k a).wf = true
  | .bool, v => ∃ b, v = .bool b
  | .str, v => ∃ l, v = .string (str l) ∧ l.length ≤ maxLen
  | .sl t, v => ∃ n y, DataW.trod enc P W 0 (fun _ => true) true n t [v] = some y
def Fit (enc : TypeId × Value → H) (P : Program) (W : World) : List LK → List Value → Prop
  | [], [] => True
  | k :: ks, v :: vs => Fit1 enc P W k v ∧ Fit enc P W ks vs
  | _, _ => False
theorem Fit.append : ∀ {a b : List LK} {x y : List Value}, Fit enc P W a x → Fit enc P W b y → Fit enc P W (a ++ b) (x ++ y)
  | [], _, [], _, _, h => h
  | _ :: _, _, _ :: _, _, ⟨h1, h2⟩, h => ⟨h1, Fit.append h2 h⟩
  | [], _, _ :: _, _, h, _ => h.elim
  | _ :: _, _, [], _, h, _ => h.elim
theorem Fit.cons {k : LK} {ks : List LK} {cs : List Value} (h : Fit enc P W (k :: ks) cs) : ∃ v vs, cs = v :: vs ∧ Fit1 enc P W k v ∧ Fit enc P W ks vs := by
  cases cs with
  | nil => exact h.elim
  | cons v vs => exact ⟨v, vs, rfl, h.1, h.2⟩
theorem Fit.nil {cs : List Value} (h : Fit enc P W [] cs) : cs = [] := by
  cases cs with
  | nil => rfl
  | cons v vs => exact h.elim
theorem Fit1.int {k : IntKind} {v : Value} (h : Fit1 enc P W (.int k) v) : ∃ a, v = .int k a ∧ (Lit.int k a).wf = true := h
theorem Fit1.bool {v : Value} (h : Fit1 enc P W .bool v) : ∃ b, v = .bool b := h
theorem Fit1.str {v : Value} (h : Fit1 enc P W .str v) : ∃ l, v = .string (J.str l) ∧ l.length ≤ maxLen := h
def leavesF (P : Program) (rec : TypeId → Option (List LK)) (total : Nat) : Nat → List Field → Option (List LK)
  | off, [] => match Nat.beq off total with
    | true => some []
    | false => none
  | off, f :: fs => match Nat.beq f.offset off with
    | true => match rec f.type with
      | some a => match leavesF P rec total (off + P.cellsOf f.type) fs with
        | some b => some (a ++ b)
        | none => none
      | none => none
    | false => none
def leavesB (P : Program) : Nat → TypeId → Option (List LK)
  | 0, _ => none
  | d + 1, t => match P.underlying t with
    | some (.int k) => some [.int k]
    | some .bool => some [.bool]
    | some .string => some [.str]
    | some (.slice _) => some [.sl t]
    | some (.struct fs) => leavesF P (leavesB P d) (P.cellsOf t) 0 fs.toList
    | some (.array n e) => match leavesB P d e with
      | some a => match Nat.beq (P.cellsOf t) (n * P.cellsOf e) with
        | true => some (List.replicate n a).flatten
        | false => none
      | none => none
    | _ => none
theorem trod_bool' {t : TypeId} {n : Nat} {cs : List Value} {x : DataW H × List MemPlace} (ht : P.underlying t = some .bool) (h : DataW.trod enc P W 0 (fun _ => true) true n t cs = some x) : ∃ b, cs = [.bool b] := by
  cases n with
  | zero => simp [DataW.trod] at h
  | succ n =>
    unfold DataW.trod at h
    rw [ht] at h
    split at h <;> simp_all
theorem trod_fit : ∀ (d n : Nat) (t : TypeId) (cs : List Value) (x : DataW H × List MemPlace) (ks : List LK), leavesB P d t = some ks → DataW.trod enc P W 0 (fun _ => true) true n t cs = some x → Fit enc P W ks cs
  | 0, _, _, _, _, _, h, _ => by cases h
  | d + 1, n, t, cs, x, ks, h, hx => by
    have ih := trod_fit d
    unfold leavesB at h
    cases hu : P.underlying t with
    | none => rw [hu] at h; cases h
    | some u =>
      rw [hu] at h
      cases u <;> simp only at h <;> try (cases h; done)
      case int k =>
        cases h
        obtain ⟨a, rfl, _, h3⟩ := DataW.trod_int hu hx
        exact ⟨⟨a, rfl, h3⟩, trivial⟩
      case bool =>
        cases h
        obtain ⟨b, rfl⟩ := trod_bool' hu hx
        exact ⟨⟨b, rfl⟩, trivial⟩
      case string =>
        cases h
        obtain ⟨s, rfl, _, h3⟩ := DataW.trod_string hu hx
        obtain ⟨l, rfl⟩ := str_of s
        exact ⟨⟨l, rfl, by rw [str_size] at h3; exact h3⟩, trivial⟩
      case slice e =>
        cases h
        have : ∃ v, cs = [v] := by
          rcases DataW.trod_slice hu hx with ⟨rfl, _⟩ | ⟨a, len, cap, _, _, _, _, rfl, _⟩
          · exact ⟨_, rfl⟩
          · exact ⟨_, rfl⟩
        obtain ⟨v, rfl⟩ := this
        exact ⟨⟨n, x, hx⟩, trivial⟩
      case array k e =>
        cases h1 : leavesB P d e with
        | none => rw [h1] at h; cases h
        | some a =>
          rw [h1] at h
          simp only at h
          cases hb : Nat.beq (P.cellsOf t) (k * P.cellsOf e) with
          | false => rw [hb] at h; cases h
          | true =>
            rw [hb] at h
            cases h
            have hl0 := Nat.eq_of_beq_eq_true hb
            obtain ⟨xs, m, _, _, hlen, hxl, hf⟩ := DataW.trod_array hu hx
            have key : ∀ i, i ≤ k → Fit enc P W ((List.replicate i a).flatten) (cs.drop ((k - i) * P.cellsOf e)) := by
              intro i
              induction i with
              | zero =>
                intro _
                rw [List.drop_eq_nil_of_le (by rw [hlen, hl0, Nat.sub_zero]; exact Nat.le_refl _)]
                trivial
              | succ i ih2 =>
                intro hi
                have e1 := hf (k - (i + 1)) (by omega)
                have hj : k - (i + 1) < xs.length := by omega
                rw [List.getElem?_eq_getElem hj] at e1
                have g1 := ih m e _ _ a h1 e1
                have g2 := ih2 (by omega)
                have e2 : (k - (i + 1)) * P.cellsOf e + P.cellsOf e = (k - i) * P.cellsOf e := by rw [← Nat.succ_mul]; congr 1; omega
                rw [List.replicate_succ, List.flatten_cons, show cs.drop ((k - (i + 1)) * P.cellsOf e) = (cs.drop ((k - (i + 1)) * P.cellsOf e)).take (P.cellsOf e) ++ cs.drop ((k - i) * P.cellsOf e) by
                  rw [← e2, ← List.drop_drop, List.take_append_drop]]
                exact Fit.append g1 g2
            have := key k (Nat.le_refl _)
            simpa using this
      case struct fs =>
        obtain ⟨xs, n', _, _, hlen, hxs, hf⟩ := DataW.trod_struct hu hx
        have hf' : ∀ f ∈ fs.toList, ∃ y, DataW.trod enc P W 0 (fun _ => true) true n' f.type ((cs.drop f.offset).take (P.cellsOf f.type)) = some y := fun f hm => by
          obtain ⟨i, hi, he⟩ := List.mem_iff_getElem.1 hm
          have hi' : i < fs.size := by simpa using hi
          have h1 : fs[i]? = some f := by
            rw [Array.getElem?_eq_getElem hi']
            congr 1
          exact ⟨xs[i], by rw [hf i f h1, List.getElem?_eq_getElem]⟩
        have key : ∀ (l : List Field) (off : Nat) (ks : List LK), (∀ f ∈ l, ∃ y, DataW.trod enc P W 0 (fun _ => true) true n' f.type ((cs.drop f.offset).take (P.cellsOf f.type)) = some y) →
            leavesF P (leavesB P d) (P.cellsOf t) off l = some ks → Fit enc P W ks (cs.drop off) := by
          intro l
          induction l with
          | nil =>
            intro off ks _ h
            unfold leavesF at h
            cases hb : Nat.beq off (P.cellsOf t) with
            | false => rw [hb] at h; cases h
            | true =>
              rw [hb] at h
              cases h
              have := Nat.eq_of_beq_eq_true hb
              rw [List.drop_eq_nil_of_le (by omega)]
              trivial
          | cons f l ihl =>
            intro off ks hl h
            unfold leavesF at h
            cases hb : Nat.beq f.offset off with
            | false => rw [hb] at h; cases h
            | true =>
              rw [hb] at h
              simp only at h
              have hoff := Nat.eq_of_beq_eq_true hb
              cases h1 : leavesB P d f.type with
              | none => rw [h1] at h; cases h
              | some a =>
                rw [h1] at h
                simp only at h
                cases h2 : leavesF P (leavesB P d) (P.cellsOf t) (off + P.cellsOf f.type) l with
                | none => rw [h2] at h; cases h
                | some b =>
                  rw [h2] at h
                  cases h
                  obtain ⟨y, hy⟩ := hl f (List.mem_cons_self ..)
                  rw [hoff] at hy
                  have g1 := ih n' f.type _ y a h1 hy
                  have g2 := ihl (off + P.cellsOf f.type) b (fun g hg => hl g (List.mem_cons_of_mem _ hg)) h2
                  rw [show cs.drop off = (cs.drop off).take (P.cellsOf f.type) ++ cs.drop (off + P.cellsOf f.type) by
                    rw [← List.drop_drop, List.take_append_drop]]
                  exact Fit.append g1 g2
        have := key fs.toList 0 ks hf' h
        simpa using this
/-- an element of a slice, by its leaves -/
theorem dec_flat {α : Type} {f : α → List Value} {φ : α → Prop} {e : TypeId} (ks : List LK) (hk : leavesB P 6 e = some ks) (h : ∀ cs, Fit enc P W ks cs → ∃ a, cs = f a ∧ φ a) :
    ∀ n cs' y, cs'.length = P.cellsOf e → DataW.trod enc P W 0 (fun _ => true) true n e cs' = some y → ∃ a, cs' = f a ∧ φ a := fun n cs' y _ hy =>
  h cs' (trod_fit 6 n e cs' y ks hk hy)
theorem dec_flat' {α : Type} {f : α → List Value} {φ : α → Prop} {e : TypeId} {sz : Nat} (ks : List LK) (hk : leavesB P 6 e = some ks) (h : ∀ cs, Fit enc P W ks cs → ∃ a, cs = f a ∧ φ a) :
    ∀ n cs' y, cs'.length = sz → DataW.trod enc P W 0 (fun _ => true) true n e cs' = some y → ∃ a, cs' = f a ∧ φ a := fun n cs' y _ hy =>
  h cs' (trod_fit 6 n e cs' y ks hk hy)
/-- an argument that is a struct -/
theorem open_flat_arg {α : Type} {f : α → List Value} {φ : α → Prop} {t : TypeId} {fs : Array Field} {base : Nat} {v : Value} {d : DataW H} {ps : List MemPlace} (ks : List LK) (ht : P.underlying t = some (.struct fs)) (hk : leavesB P 6 t = some ks)
    (h : ∀ cs, Fit enc P W ks cs → ∃ a, cs = f a ∧ φ a) {r : Reach} (hv : Value.okWide P W r base t v) (hx : DataW.Trod enc P W 0 (fun _ => true) true t v d ps) : ∃ a, v = .agg (f a).toArray ∧ φ a := by
  obtain ⟨cs, rfl, _⟩ := okWide_struct ht hv
  obtain ⟨fuel, hfl⟩ := hx
  obtain ⟨a, h1, h2⟩ := h _ (trod_fit 6 fuel t _ _ ks hk hfl)
  refine ⟨a, ?_, h2⟩
  have : cs.toList = f a := by simpa [Value.cells] using h1
  rw [← this]
/-- a slice that is part of something -/
theorem Fit1.sl {α : Type} [Inhabited α] {f : α → List Value} {sz : Nat} (hf : Fl f sz) (φ : α → Prop) {t e : TypeId} {v : Value} (ht : P.underlying t = some (.slice e)) (hc : P.cellsOf e = sz)
    (hdec : ∀ n cs' y, cs'.length = sz → DataW.trod enc P W 0 (fun _ => true) true n e cs' = some y → ∃ a, cs' = f a ∧ φ a) (h : Fit1 enc P W (.sl t) v) : ∃ p c l, v = .slice p l.length c ∧ Sl (memOf W) f sz p c l ∧ ∀ a ∈ l, φ a := by
  obtain ⟨n, y, hy⟩ := h
  obtain ⟨p, c, l, h1, h2⟩ := open_sl hf φ ht hc hdec hy
  exact ⟨p, c, l, by simpa using h1, h2⟩
end
end Go.J
namespace Go.Proofs.Ytijgnbedilipdaa
open Go Go.J
namespace Td
open Go.RowKit
structure Kf where
  (r a b e x y w c g : Int)
instance : Inhabited Kf := ⟨⟨0, 0, 0, 0, 0, 0, 0, 0, 0⟩⟩
abbrev Kf.cells (k : Kf) : List Value := [.int .i64 k.r, .int .i64 k.a, .int .i64 k.b, .int .i64 k.e, .int .i64 k.x, .int .i64 k.y, .int .i64 k.w, .int .i64 k.c, .int .i64 k.g]
theorem dec_kf {H : Type} {enc : TypeId × Value → H} {P : Program} {W : World} : ∀ cs, Go.J.Fit enc P W [.int .i64, .int .i64, .int .i64, .int .i64, .int .i64, .int .i64, .int .i64, .int .i64, .int .i64] cs → ∃ K : Kf, cs = Kf.cells K ∧ True := by
  intro cs h
  obtain ⟨_, _, rfl, h0, h⟩ := h.cons
  obtain ⟨_, _, rfl, h1, h⟩ := h.cons
  obtain ⟨_, _, rfl, h2, h⟩ := h.cons
  obtain ⟨_, _, rfl, h3, h⟩ := h.cons
  obtain ⟨_, _, rfl, h4, h⟩ := h.cons
  obtain ⟨_, _, rfl, h5, h⟩ := h.cons
  obtain ⟨_, _, rfl, h6, h⟩ := h.cons
  obtain ⟨_, _, rfl, h7, h⟩ := h.cons
  obtain ⟨_, _, rfl, h8, h⟩ := h.cons
  obtain rfl := h.nil
  obtain ⟨x0, rfl, _⟩ := h0.int
  obtain ⟨x1, rfl, _⟩ := h1.int
  obtain ⟨x2, rfl, _⟩ := h2.int
  obtain ⟨x3, rfl, _⟩ := h3.int
  obtain ⟨x4, rfl, _⟩ := h4.int
  obtain ⟨x5, rfl, _⟩ := h5.int
  obtain ⟨x6, rfl, _⟩ := h6.int
  obtain ⟨x7, rfl, _⟩ := h7.int
  obtain ⟨x8, rfl, _⟩ := h8.int
  exact ⟨⟨x0, x1, x2, x3, x4, x5, x6, x7, x8⟩, rfl, trivial⟩
theorem dec_h {H : Type} {enc : TypeId × Value → H} {W : World} : ∀ cs, Go.J.Fit enc Try.prog W [.int .u16] cs → ∃ a : Nat, cs = Ls.fH a ∧ a < 65536 := by
  intro cs h
  obtain ⟨_, _, rfl, h1, h⟩ := h.cons
  obtain rfl := h.nil
  obtain ⟨a, rfl, wa⟩ := h1.int
  have hb : 0 ≤ a ∧ a ≤ 65535 := by
    simp only [Lit.wf, IntKind.min, IntKind.max, IntKind.signed, IntKind.bits, Bool.and_eq_true, decide_eq_true_eq] at wa
    simpa using wa
  exact ⟨a.toNat, by show [_] = [Value.int .u16 (a.toNat : Int)]; rw [Int.toNat_of_nonneg hb.1], by omega⟩
theorem dec_o {H : Type} {enc : TypeId × Value → H} {W : World} : ∀ cs, Go.J.Fit enc Try.prog W [.bool] cs → ∃ a : Bool, cs = Ls.fO a ∧ True := by
  intro cs h
  obtain ⟨_, _, rfl, h1, h⟩ := h.cons
  obtain rfl := h.nil
  obtain ⟨a, rfl⟩ := h1.bool
  exact ⟨a, rfl, trivial⟩
theorem len_big {α : Type} [Inhabited α] {m : Mem} {f : α → List Value} {sz : Nat} {p : Option Addr} {c : Nat} {l : List α} (s : Sl m f sz p c l) : l.length ≤ 9223372036854775807 := by
  have h1 := s.le
  have h2 := s.big
  simp only [maxLen] at h2
  omega
theorem dec_cm {H : Type} {enc : TypeId × Value → H} {W : World} : ∀ cs, Go.J.Fit enc Try.prog W [.sl 26, .int .u8, .int .i64, .sl 27, .int .i64, .sl 27] cs → ∃ z : Cm, cs = Cm.cells z ∧ CmOk (memOf W) z := by
  intro cs h
  obtain ⟨_, _, rfl, h0, h⟩ := h.cons
  obtain ⟨_, _, rfl, h1, h⟩ := h.cons
  obtain ⟨_, _, rfl, h2, h⟩ := h.cons
  obtain ⟨_, _, rfl, h3, h⟩ := h.cons
  obtain ⟨_, _, rfl, h4, h⟩ := h.cons
  obtain ⟨_, _, rfl, h5, h⟩ := h.cons
  obtain rfl := h.nil
  obtain ⟨p1, c1, L, rfl, s1, w1⟩ := Fit1.sl (f := Ls.fH) inferInstance (fun y => y < 65536) Try.underlying26 (by rfl) (dec_flat' [.int .u16] (by kernel_rfl) dec_h) h0
  obtain ⟨b, rfl, wb⟩ := h1.int
  obtain ⟨st, rfl, ws⟩ := h2.int
  obtain ⟨p2, c2, K, rfl, s2, _⟩ := Fit1.sl (f := Ls.fO) inferInstance (fun _ => True) Try.underlying27 (by rfl) (dec_flat' [.bool] (by kernel_rfl) dec_o) h3
  obtain ⟨ag, rfl, wa⟩ := h4.int
  obtain ⟨p3, c3, T, rfl, s3, _⟩ := Fit1.sl (f := Ls.fO) inferInstance (fun _ => True) Try.underlying27 (by rfl) (dec_flat' [.bool] (by kernel_rfl) dec_o) h5
  have hb : 0 ≤ b ∧ b ≤ 255 := by
    simp only [Lit.wf, IntKind.min, IntKind.max, IntKind.signed, IntKind.bits, Bool.and_eq_true, decide_eq_true_eq] at wb
    simpa using wb
  exact ⟨⟨p1, c1, L, b, st, p2, c2, K, ag, p3, c3, T⟩, rfl, s1, s2, s3, w1, ⟨hb.1, by dsimp only; omega⟩, (bounds_i64 ws).2, (bounds_i64 wa).2, len_big s1, len_big s2, len_big s3⟩
end Td
end Go.Proofs.Ytijgnbedilipdaa

/- Part 16 of what the law's proof needs: rules of the walk, contracts of functions, plain laws. No condition. -/
import Derived.Test.YtkoijdmlehkhbaaGreatDoorTrLWZ15
set_option linter.unusedSimpArgs false
set_option linter.unusedVariables false
set_option linter.unusedSectionVars false
set_option maxRecDepth 20000
set_option maxHeartbeats 4000000
namespace Go.Proofs.YtkoijdmlehkhbaaGreatDoor
open Go Go.J
attribute [local irreducible] At AtQ AtM AtM1 PR Ct Pu Rd Res.blk Res.own Res.ex RVs RV
namespace Qu
open Wide
def rkV (n : Int) (num den : Nat) : Int × Int := if n < 1 ∨ den = 0 ∨ num > den then (0, 1) else (((rk n.toNat num den : Nat) : Int), 0)
theorem rank_ (n : Int) (hn : n ≤ 9223372036854775807) (num den : Nat) (h1 : num < 18446744073709551616) (h2 : den < 18446744073709551616) :
    Pu Tryz.prog 41 #[.int .i64 n, .int .u64 (num : Int), .int .u64 (den : Int)] (.tuple #[.int .i64 (rkV n num den).1, .int .i64 (rkV n num den).2]) := Pu.intro fun m => by
  unfold rkV
  by_cases h : n < 1 ∨ den = 0 ∨ num > den
  · rw [if_pos h]
    refine Ct.enterV (by rfl) Tryz.func41 rfl Tryz.ntmps41 rfl (fun w0 Rest => ?_)
    (repeat' (first | refine zss ?_ | ((first | (with_reducible first | apply At.val | apply AtQ.val)); (exact zprA); exact rfl) | refine zs0 ?_ | (refine zsp ?_ ?_ <;> (intro hc; (try simp only [zhcs, reduceCtorEq] at hc); (try (exfalso; first | omega | contradiction | omega | exact absurd rfl hc | exact absurd (by decide) hc))))))
    all_goals ((with_reducible apply At.retV (B := [])); exact rfl; (repeat' (first | exact RVs.nil | (with_reducible apply RVs.cons) | exact rv_tmp (by rfl) | exact rv_cellN (by rfl) (by repeat constructor) (by rfl) (by rfl) (by rfl) | exact rv_cell1 (by rfl) (by repeat constructor) (by rfl) (by rfl) | exact rv_cellA (by rfl) (by repeat constructor) (by rfl) (by rfl) zlq)); exact zml; exact zkp; exact ⟨rfl, rfl, rfl⟩)
  · rw [if_neg h]
    obtain ⟨N, rfl⟩ : ∃ N : Nat, n = (N : Int) := ⟨n.toNat, by omega⟩
    rw [Int.toNat_natCast]
    have hd : 0 < den := by omega
    have hle : num ≤ den := by omega
    have hN : 1 ≤ N := by omega
    have hN2 : N ≤ 9223372036854775807 := by omega
    have hr := rk_le hN hd hle
    have hV : N * num ≤ N * den := Nat.mul_le_mul_left _ hle
    have hV2 : N * den ≤ 9223372036854775807 * den := Nat.mul_le_mul_right _ hN2
    have m1 := mul64 (N : Int) (num : Int) (by omega) (by omega) (by omega) (by omega)
    rw [← Int.natCast_mul] at m1
    unfold rk up at hr ⊢
    generalize N * num = V at *
    have m2 := div64 (V / 18446744073709551616) (V % 18446744073709551616) den V (by omega) (by omega) h2 (by omega)
    generalize V / den = q at *
    generalize V % den = r at *
    by_cases h0 : r = 0
    · rw [if_pos h0] at hr ⊢
      clear hV hV2 h
      refine Ct.enterV (by rfl) Tryz.func41 rfl Tryz.ntmps41 rfl (fun w0 Rest => ?_)
      (repeat' (first | refine zss ?_ | ((first | (with_reducible first | apply At.val | apply AtQ.val)); (exact zprA); exact rfl) | refine zs0 ?_ | ((with_reducible first | apply AtM1.callp | apply AtQ.callp | apply At.callp); kernel_rfl; exact rfl; exact rfl; exact m1) | ((with_reducible first | apply AtM1.callp | apply AtQ.callp | apply At.callp); kernel_rfl; exact rfl; exact rfl; exact m2) | (refine zsp ?_ ?_ <;> (intro hc; (try simp only [zhcs, reduceCtorEq] at hc); (try (exfalso; first | omega | contradiction | omega | exact absurd rfl hc | exact absurd (by decide) hc))))))
      all_goals ((with_reducible apply At.retV (B := [])); exact rfl; (repeat' (first | exact RVs.nil | (with_reducible apply RVs.cons) | exact rv_tmp (by rfl) | exact rv_cellN (by rfl) (by repeat constructor) (by rfl) (by rfl) (by rfl) | exact rv_cell1 (by rfl) (by repeat constructor) (by rfl) (by rfl) | exact rv_cellA (by rfl) (by repeat constructor) (by rfl) (by rfl) zlq)); exact zml; exact zkp; exact ⟨congrArg (fun x => Value.tuple #[.int .i64 x, .int .i64 0]) (by first | omega | (split <;> omega)), rfl, rfl⟩)
    · rw [if_neg h0] at hr ⊢
      clear hV hV2 h
      refine Ct.enterV (by rfl) Tryz.func41 rfl Tryz.ntmps41 rfl (fun w0 Rest => ?_)
      (repeat' (first | refine zss ?_ | ((first | (with_reducible first | apply At.val | apply AtQ.val)); (exact zprA); exact rfl) | refine zs0 ?_ | ((with_reducible first | apply AtM1.callp | apply AtQ.callp | apply At.callp); kernel_rfl; exact rfl; exact rfl; exact m1) | ((with_reducible first | apply AtM1.callp | apply AtQ.callp | apply At.callp); kernel_rfl; exact rfl; exact rfl; exact m2) | (refine zsp ?_ ?_ <;> (intro hc; (try simp only [zhcs, reduceCtorEq] at hc); (try (exfalso; first | omega | contradiction | omega | exact absurd rfl hc | exact absurd (by decide) hc))))))
      all_goals ((with_reducible apply At.retV (B := [])); exact rfl; (repeat' (first | exact RVs.nil | (with_reducible apply RVs.cons) | exact rv_tmp (by rfl) | exact rv_cellN (by rfl) (by repeat constructor) (by rfl) (by rfl) (by rfl) | exact rv_cell1 (by rfl) (by repeat constructor) (by rfl) (by rfl) | exact rv_cellA (by rfl) (by repeat constructor) (by rfl) (by rfl) zlq)); exact zml; exact zkp; exact ⟨congrArg (fun x => Value.tuple #[.int .i64 x, .int .i64 0]) (by first | omega | (split <;> omega)), rfl, rfl⟩)
def ofV (num den : Nat) (l : List (Nat × Nat)) : (Nat × Nat) × Int := if chkL l ≠ 0 then ((0, 0), chkL l) else if (rkV l.length num den).2 ≠ 0 then ((0, 0), 1) else ((srt l)[(rkV l.length num den).1.toNat - 1]!, 0)
theorem rkV_no {n : Int} {num den : Nat} (h : (rkV n num den).2 ≠ 0) : rkV n num den = (0, 1) := by
  unfold rkV at h ⊢
  split
  · rfl
  · rename_i k
    rw [if_neg k] at h
    exact absurd rfl h
theorem rkV_yes {n : Int} {num den : Nat} (h : (rkV n num den).2 = 0) : ∃ K : Nat, rkV n num den = (((K + 1 : Nat) : Int), 0) ∧ ((K + 1 : Nat) : Int) ≤ n := by
  unfold rkV at h ⊢
  by_cases k : n < 1 ∨ den = 0 ∨ num > den
  · rw [if_pos k] at h; exact absurd h (by decide)
  · rw [if_neg k]
    have h1 := rk_one n.toNat num den
    have h2 := rk_le (n := n.toNat) (num := num) (den := den) (by omega) (by omega) (by omega)
    exact ⟨rk n.toNat num den - 1, by rw [show rk n.toNat num den - 1 + 1 = rk n.toNat num den by omega], by omega⟩
theorem fv0 : fv (0, 0) = .agg #[.int .u64 0, .int .u64 0, .int .u64 0, .int .u64 0] := by rfl
theorem none_v (w : Int) : Value.tuple #[.agg #[.int .u64 0, .int .u64 0, .int .u64 0, .int .u64 0], .int .i64 w] = .tuple #[fv ((0, 0), w).1, .int .i64 ((0, 0), w).2] := by
  show _ = Value.tuple #[fv (0, 0), .int .i64 w]
  rw [fv0]
theorem of_q {m : Mem} (ht : Ra.TZ m) (num den : Nat) (h1 : num < 18446744073709551616) (h2 : den < 18446744073709551616) (p : Option Addr) (c : Nat) (l : List (Nat × Nat)) (hl : l.length ≤ 1000000) (hb : ∀ x ∈ l, In2 x) (sl0 : Sl m fd 4 p c l) :
    Ct Tryz.prog 11 #[.int .u64 (num : Int), .int .u64 (den : Int), .slice p l.length c] m [] (fun v m' B => v = .tuple #[fv (ofV num den l).1, .int .i64 (ofV num den l).2] ∧ m = m' ∧ B = []) := by
  have k1 := fun (m' : Mem) (hm' : m.le m') => sort_ (m := m') (ht.mono hm') p c l hl hb (sl0.mono hm')
  have k2 := rank_ (l.length : Int) (by omega) num den h1 h2
  unfold ofV
  unfold outS at k1
  by_cases hk : chkL l = 0
  · rw [hk, if_pos rfl] at k1
    rw [hk, if_neg (fun e => e rfl)]
    have hn := srt_len l
    have hR : rkV ((srt l).length : Nat) num den = rkV l.length num den := by rw [hn]
    rw [← hn, hR] at k2
    clear hR
    generalize srt l = X at *
    by_cases hr : (rkV l.length num den).2 = 0
    · obtain ⟨K, eK, hK⟩ := rkV_yes hr
      rw [eK] at k2 ⊢
      rw [if_neg (fun e => e rfl)]
      have hw : IntKind.wrap .i64 (((K + 1 : Nat) : Int) - 1) = (K : Int) := by rw [show ((K + 1 : Nat) : Int) - 1 = (K : Int) by omega]; exact IntWalk.i64_in _ (by omega)
      rw [show ((((K + 1 : Nat) : Int), (0 : Int)).1).toNat - 1 = K from rfl]
      clear eK hr
      refine Ct.enterV (by rfl) Tryz.func11 rfl Tryz.ntmps11 rfl (fun w0 Rest => ?_)
      (repeat' (first | refine zss ?_ | ((first | (with_reducible first | apply At.val | apply AtQ.val)); (first | exact pr_sub (by rfl) (by rfl) hw | exact zprA); exact rfl) | refine zsOM ?_ | ((with_reducible first | apply At.c1 | apply At.c0); exact rfl; exact rfl; exact k1 _ zml; exact ztk; kernel_rfl; rintro v' m' B' hm' ⟨rfl, p1, c1, rfl, rfl⟩; (try replace sl0 := sl0.mono hm'); (try (have hq0 : hm' = Mem.le_refl _ := rfl; clear hq0 hm'))) | ((with_reducible first | apply AtM1.callp | apply AtQ.callp | apply At.callp); kernel_rfl; exact rfl; exact rfl; exact k2) | ((with_reducible apply At.alloc (d := 6)); exact rfl; exact rfl; intro b6) | (refine zsp ?_ ?_ <;> (intro hc; (try simp only [zhcs, reduceCtorEq] at hc); (try (exfalso; first | omega | contradiction | omega | exact absurd rfl hc | exact absurd (by decide) hc))))))
      all_goals ((with_reducible apply At.retV (B := [])); exact rfl; (repeat' (first | exact RVs.nil | (with_reducible apply RVs.cons) | exact rv_tmp (by rfl) | exact rv_cellN (by rfl) (by repeat constructor) (by rfl) (by rfl) (by rfl) | exact rv_cell1 (by rfl) (by repeat constructor) (by rfl) (by rfl) | exact rv_cellA (by rfl) (by repeat constructor) (by rfl) (by rfl) zlq)); exact zml; exact zkp; exact ⟨rfl, rfl, rfl⟩)
    · rw [rkV_no hr] at k2
      rw [if_pos hr]
      refine Ct.enterV (by rfl) Tryz.func11 rfl Tryz.ntmps11 rfl (fun w0 Rest => ?_)
      (repeat' (first | refine zss ?_ | ((first | (with_reducible first | apply At.val | apply AtQ.val)); (exact zprA); exact rfl) | refine zsOM ?_ | ((with_reducible first | apply At.c1 | apply At.c0); exact rfl; exact rfl; exact k1 _ zml; exact ztk; kernel_rfl; rintro v' m' B' hm' ⟨rfl, p1, c1, rfl, rfl⟩; (try replace sl0 := sl0.mono hm'); (try (have hq0 : hm' = Mem.le_refl _ := rfl; clear hq0 hm'))) | ((with_reducible first | apply AtM1.callp | apply AtQ.callp | apply At.callp); kernel_rfl; exact rfl; exact rfl; exact k2) | ((with_reducible apply At.alloc (d := 6)); exact rfl; exact rfl; intro b6) | (refine zsp ?_ ?_ <;> (intro hc; (try simp only [zhcs, reduceCtorEq] at hc); (try (exfalso; first | omega | contradiction | omega | exact absurd rfl hc | exact absurd (by decide) hc))))))
      all_goals ((with_reducible apply At.retV (B := [])); exact rfl; (repeat' (first | exact RVs.nil | (with_reducible apply RVs.cons) | exact rv_tmp (by rfl) | exact rv_cellN (by rfl) (by repeat constructor) (by rfl) (by rfl) (by rfl) | exact rv_cell1 (by rfl) (by repeat constructor) (by rfl) (by rfl) | exact rv_cellA (by rfl) (by repeat constructor) (by rfl) (by rfl) zlq)); exact zml; exact zkp; exact ⟨rfl, rfl, rfl⟩)
  · rw [if_neg hk] at k1
    rw [if_pos hk]
    generalize chkL l = w at *
    refine Ct.enterV (by rfl) Tryz.func11 rfl Tryz.ntmps11 rfl (fun w0 Rest => ?_)
    (repeat' (first | refine zss ?_ | ((first | (with_reducible first | apply At.val | apply AtQ.val)); (exact zprA); exact rfl) | refine zsOM ?_ | ((with_reducible first | apply At.c1 | apply At.c0); exact rfl; exact rfl; exact k1 _ zml; exact ztk; kernel_rfl; rintro v' m' B' hm' ⟨rfl, p1, c1, rfl, rfl⟩; (try replace sl0 := sl0.mono hm'); (try (have hq0 : hm' = Mem.le_refl _ := rfl; clear hq0 hm'))) | ((with_reducible apply At.alloc (d := 6)); exact rfl; exact rfl; intro b6) | (refine zsp ?_ ?_ <;> (intro hc; (try simp only [zhcs, reduceCtorEq] at hc); (try (exfalso; first | (first | omega | exact absurd hc hk) | contradiction | omega | exact absurd rfl hc | exact absurd (by decide) hc))))))
    all_goals ((with_reducible apply At.retV (B := [])); exact rfl; (repeat' (first | exact RVs.nil | (with_reducible apply RVs.cons) | exact rv_tmp (by rfl) | exact rv_cellN (by rfl) (by repeat constructor) (by rfl) (by rfl) (by rfl) | exact rv_cell1 (by rfl) (by repeat constructor) (by rfl) (by rfl) | exact rv_cellA (by rfl) (by repeat constructor) (by rfl) (by rfl) zlq)); exact zml; exact zkp; exact ⟨none_v w, rfl, rfl⟩)
end Qu
end Go.Proofs.YtkoijdmlehkhbaaGreatDoor
namespace Go.Proofs.YtkoijdmlehkhbaaGreatDoor
namespace Qu
def lt (x y : Nat × Nat) : Bool := decide (x.1 * y.2 < y.1 * x.2)
end Qu
end Go.Proofs.YtkoijdmlehkhbaaGreatDoor
namespace Go.Proofs.YtkoijdmlehkhbaaGreatDoor
open Go Go.J
attribute [local irreducible] At AtQ AtM AtM1 PR Ct Pu Rd Res.blk Res.own Res.ex RVs RV
namespace Qu
open Wide
theorem Rd.of_le {P : Program} {f : FuncId} {a : Array Value} {m : Mem} {V : Value} (h : Ct P f a m [] (fun v m' B => v = V ∧ m.le m' ∧ B = [])) : Rd P f a m [] V := by
  unfold Rd
  exact Ct.forget h fun _ _ _ _ ⟨h1, _, h3⟩ => ⟨h1, rfl, h3⟩
theorem Rd.of_eq {P : Program} {f : FuncId} {a : Array Value} {m : Mem} {V : Value} (h : Ct P f a m [] (fun v m' B => v = V ∧ m = m' ∧ B = [])) : Rd P f a m [] V := by
  unfold Rd
  exact Ct.mono h fun _ _ _ _ ⟨h1, h2, h3⟩ => ⟨h1, h2.symm, h3⟩
theorem sm_in {a : Nat × Nat} (h : Sm a) : In2 a := by
  have h1 := h.1
  have h2 := h.2.1
  exact ⟨by unfold In; omega, by unfold In; omega⟩
theorem ofC {m : Mem} (ht : Ra.TZ m) (num den : Nat) (h1 : num < 18446744073709551616) (h2 : den < 18446744073709551616) (p : Option Addr) (c n : Nat) (l : List (Nat × Nat)) (hn : l.length = n) (hl : l.length ≤ 1000000) (hb : ∀ x ∈ l, In2 x) (sl0 : Sl m fd 4 p c l) :
    Rd Tryz.prog 11 #[.int .u64 (num : Int), .int .u64 (den : Int), .slice p n c] m [] (.tuple #[fv (ofV num den l).1, .int .i64 (ofV num den l).2]) := by
  subst hn
  exact Rd.of_eq (of_q ht num den h1 h2 p c l hl hb sl0)
theorem of_mid {l : List (Nat × Nat)} (h : chkL l = 0) (hn : l ≠ []) : ofV 1 2 l = ((srt l)[rk l.length 1 2 - 1]!, 0) := by
  have hp : 0 < l.length := List.length_pos_iff.2 hn
  have hr : rkV l.length 1 2 = (((rk l.length 1 2 : Nat) : Int), 0) := by unfold rkV; rw [if_neg (by omega), Int.toNat_natCast]
  unfold ofV
  rw [h, if_neg (fun e => e rfl), hr, if_neg (fun e => e rfl), Int.toNat_natCast]
end Qu
end Go.Proofs.YtkoijdmlehkhbaaGreatDoor
namespace Go.Proofs.YtkoijdmlehkhbaaGreatDoor
open Go Go.J
attribute [local irreducible] At AtQ AtM AtM1 PR Ct Pu Rd Res.blk Res.own Res.ex RVs RV
namespace Qy
abbrev a3 : Ev := ⟨3, 1, 0, false⟩
abbrev b5 : Ev := ⟨5, 2, 0, false⟩
theorem may53 : Mrg.may [b5] [a3] = 0 := Mrg.may_zero.2 ⟨by decide, by decide, fun x hx y hy h => by
  rw [List.mem_singleton.1 hx, List.mem_singleton.1 hy] at h
  exact absurd h (by decide)⟩
theorem two20 {m : Mem} (pa : Option Addr) (ca : Nat) (pb : Option Addr) (cb : Nat) (sl0 : Sl m Ev.cells 4 pa ca [b5]) (sl1 : Sl m Ev.cells 4 pb cb [a3]) :
    Ct Tryz.prog 23 #[.slice pa 1 ca, .slice pb 1 cb] m [] (fun v m' B => B = [] ∧ ∃ p c, v = .tuple #[.slice p 2 c, .int .i64 0] ∧ Sl m' Ev.cells 4 p c [a3, b5]) := by
  have k := Mrg.twoP (m := m) pa ca [b5] pb cb [a3] (by decide) (by decide) sl0 sl1
  have e1 : Mrg.two [b5] [a3] = [a3, b5] := Mrg.two_eq may53 (by
    refine List.pairwise_cons.2 ⟨fun x hx => ?_, List.pairwise_singleton _ _⟩
    rw [List.mem_singleton.1 hx]; decide) fun e => by
    simp only [List.mem_cons, List.not_mem_nil, or_false]
    exact or_comm
  have e2 : Mrg.out [b5] [a3] (Mrg.two [b5] [a3]) = [a3, b5] := by rw [e1]; exact if_pos may53
  rw [e2, may53] at k
  exact k
theorem sm31 : Qu.Sm (3, 1) := ⟨by decide, by decide, by decide, by decide⟩
theorem of31 : Qu.ofV 1 2 [(3, 1)] = ((3, 1), 0) := by
  have hc : Qu.chkL [(3, 1)] = 0 := Qu.ok_chkL fun p hp => by rw [List.mem_singleton.1 hp]; exact sm31
  rw [Qu.of_mid hc (by decide)]
  have hl := Qu.srt_len [(3, 1)]
  have hm := fun p => Qu.srt_mem (l := [(3, 1)]) (p := p)
  generalize Qu.srt [(3, 1)] = r at hl hm ⊢
  match r, hl with
  | [x], _ =>
    have : x = (3, 1) := List.mem_singleton.1 ((hm x).1 (List.mem_singleton.2 rfl))
    subst this
    rfl
theorem begins20 {m : Mem} (hz : Ra.TZ m) : Rd Tryz.prog 6 #[] m [] (.bool true) := Qu.Rd.of_le (by
  have k1 := fun (m' : Mem) => two20 (m := m')
  have k2 := fun (m' : Mem) (h : m.le m') (p : Option Addr) (c : Nat) (sl0 : _) => Qu.ofC (m := m') (hz.mono h) 1 2 (by decide) (by decide) p c 1 [(3, 1)] rfl (by decide) (fun x hx => by rw [List.mem_singleton.1 hx]; exact Qu.sm_in sm31) sl0
  rw [of31] at k2
  refine Ct.enterV (by rfl) Tryz.func6 rfl Tryz.ntmps6 rfl (fun w0 Rest => ?_)
  (repeat' (first | refine zss ?_ | ((first | (with_reducible first | apply At.val | apply AtQ.val)); (exact Ev.pr_eveq (a := a3) (b := a3) (by rfl) (by rfl)); exact rfl) | refine zsM ?_ | ((with_reducible apply At.litF Ev.cells [b5]); exact inferInstance; (iterate 7 exact rfl); intro b' m' hm' sl1; (try replace sl0 := sl0.mono hm'); (try replace sl2 := sl2.mono hm'); (try replace sl3 := sl3.mono hm'); (try replace sl5 := sl5.mono hm')) | ((with_reducible apply At.litF Ev.cells [a3]); exact inferInstance; (iterate 7 exact rfl); intro b' m' hm' sl2; (try replace sl0 := sl0.mono hm'); (try replace sl1 := sl1.mono hm'); (try replace sl3 := sl3.mono hm'); (try replace sl5 := sl5.mono hm')) | ((with_reducible apply At.litF Qu.fd [((3, 1) : Nat × Nat)]); exact inferInstance; (iterate 7 exact rfl); intro b' m' hm' sl3; (try replace sl0 := sl0.mono hm'); (try replace sl1 := sl1.mono hm'); (try replace sl2 := sl2.mono hm'); (try replace sl5 := sl5.mono hm')) | ((with_reducible first | apply At.c1 | apply At.c0); exact rfl; exact rfl; exact k1 _ _ _ _ _ sl1 sl2; exact ztk; kernel_rfl; rintro v' m' B' hm' ⟨rfl, p, c, rfl, sl5⟩; (try replace sl0 := sl0.mono hm'); (try replace sl1 := sl1.mono hm'); (try replace sl2 := sl2.mono hm'); (try replace sl3 := sl3.mono hm'); (try replace sl5 := sl5.mono hm'); (try (have hq0 : hm' = Mem.le_refl _ := rfl; clear hq0 hm'))) | ((with_reducible first | apply AtM1.cr | apply AtQ.cr | apply At.cr); exact rfl; exact rfl; exact fun _ hmm => k2 _ zml _ _ (sl3.mono hmm); exact ztk; kernel_rfl) | ((with_reducible apply At.alloc (d := 1)); exact rfl; exact rfl; intro b1) | ((with_reducible apply At.alloc (d := 2)); exact rfl; exact rfl; intro b2) | ((with_reducible apply At.alloc (d := 5)); exact rfl; exact rfl; intro b5) | (refine zsp ?_ ?_ <;> (intro hc; (try simp only [zhcs, reduceCtorEq] at hc); (try (exfalso; first | (first | omega | exact absurd rfl hc | exact absurd hc (by decide)) | contradiction | omega | exact absurd rfl hc | exact absurd (by decide) hc))))))
  all_goals ((with_reducible apply At.retB1 (B := [])); exact rfl; exact rfl; exact zml; exact zkp; exact ⟨rfl, zml, rfl⟩))
end Qy
end Go.Proofs.YtkoijdmlehkhbaaGreatDoor
namespace Go.Proofs.YtkoijdmlehkhbaaGreatDoor
open Go Go.J
attribute [local irreducible] At AtQ AtM AtM1 PR Ct Pu Rd Res.blk Res.own Res.ex RVs RV
namespace Tr
open Slot Ti Se St Win Gr Sv
open Fo hiding pt emp
set_option maxRecDepth 100000 in
theorem rep0 {m : Mem} (hz : Ra.TZ m) (K : Cfg) (p0 : Option Addr) (c0 : Nat) (l : List Ev) (pw : Option Addr) (cw : Nat) (w : List Int) (i j : Int) (hA : Arg K l w) (sl0 : Sl m Ev.cells 4 p0 c0 l) (sl1 : Sl m fb 1 pw cw w) :
    Ct Tryz.prog 4 #[K.v, .slice p0 l.length c0, .slice pw w.length cw, .int .i64 0, .int .i64 i, .int .i64 j] m [] (fun v m' B => v = .bool true ∧ B = []) := by
  have hG := hA.good
  have hK := hA.ft.1.1
  have hlen := hA.len
  have hr := hA.r
  have hlw := hA.lw
  have hne : l.length ≠ 0 := fun h => hA.ne (List.eq_nil_of_length_eq_zero h)
  have hlv := fun (m' : Mem) (h : m.le m') => Qy.begins20 (m := m') (hz.mono h)
  have kf := fun (m' : Mem) => fits_ (m := m') K
  rw [decide_eq_true hA.ft] at kf
  have ko := fun (m' : Mem) (h : m.le m') => Cell.of_ (m := m') p0 c0 l (by omega) hA.V (sl0.mono h)
  have hof : Cell.ofL l = (cel l, 0) := by unfold Cell.ofL; rw [if_neg (not_not_intro hA.chk)]; rfl
  rw [hof] at ko
  refine Ct.enterV (by rfl) Tryz.func4 rfl Tryz.ntmps4 rfl (fun w0 Rest => ?_)
  (repeat' (first | refine zss ?_ | refine zsM ?_ | ((with_reducible first | apply AtM1.cr | apply AtQ.cr | apply At.cr); exact rfl; exact rfl; exact fun _ hmm => hlv _ zml; exact ztk; kernel_rfl) | ((with_reducible first | apply AtM1.cr | apply AtQ.cr | apply At.cr); exact rfl; exact rfl; exact fun _ hmm => kf _; exact ztk; kernel_rfl) | ((with_reducible first | apply At.c1 | apply At.c0); exact rfl; exact rfl; exact ko _ zml; exact ztk; kernel_rfl; rintro v' m' B' hm' ⟨rfl, rfl, rfl⟩; (try replace sl0 := sl0.mono hm'); (try replace sl1 := sl1.mono hm'); (try replace sl2 := sl2.mono hm'); (try replace sl3 := sl3.mono hm'); (try replace sl5 := sl5.mono hm'); (try replace sl6 := sl6.mono hm'); (try replace sl7 := sl7.mono hm'); (try replace sl9 := sl9.mono hm'); (try replace sl10 := sl10.mono hm'); (try (have hq0 : hm' = Mem.le_refl _ := rfl; clear hq0 hm'))) | ((with_reducible apply At.box (d := 6)); exact rfl; exact rfl; exact rfl; intro b6) | ((with_reducible apply At.box (d := 8)); exact rfl; exact rfl; exact rfl; intro b8) | ((with_reducible apply At.alloc (d := 13)); exact rfl; exact rfl; intro b13) | ((with_reducible apply At.alloc (d := 16)); exact rfl; exact rfl; intro b16) | ((with_reducible apply At.alloc (d := 17)); exact rfl; exact rfl; intro b17) | ((with_reducible apply At.alloc (d := 19)); exact rfl; exact rfl; intro b19) | ((with_reducible apply At.alloc (d := 21)); exact rfl; exact rfl; intro b21) | ((with_reducible apply At.alloc (d := 25)); exact rfl; exact rfl; intro b25) | ((with_reducible apply At.alloc (d := 28)); exact rfl; exact rfl; intro b28) | ((with_reducible apply At.alloc (d := 29)); exact rfl; exact rfl; intro b29) | ((with_reducible apply At.alloc (d := 33)); exact rfl; exact rfl; intro b33) | ((with_reducible apply At.alloc (d := 34)); exact rfl; exact rfl; intro b34) | ((with_reducible apply At.alloc (d := 36)); exact rfl; exact rfl; intro b36) | (refine zsp ?_ ?_ <;> (intro hc; (try simp only [zhcs, reduceCtorEq] at hc); (try (exfalso; first | (first | omega | exact absurd rfl hc) | contradiction | omega | exact absurd rfl hc | exact absurd (by decide) hc))))))
  clear hlv kf ko hof
  (refine At.loopk (σ := Nat) [1, 3, 4, 5, 6, 8, 78, 79] (fun s F0 => (80, .int .i64 (s : Int)) :: F0) (fun s => m) (fun s => .blk b8 75 [.slice pw w.length cw] :: .blk b6 25 K.cells :: Rest) (fun s => s ≤ l.length) (fun s => l.length - s) 0 (by rfl) ?_ zsubs zml zente ?_)
  · exact Nat.zero_le _
  intro s hs
  by_cases h : s < l.length
  · have hst := hA.st _ (Ls.mem! h)
    (repeat' (first | refine zss ?_ | refine zsM ?_ | ((with_reducible apply At.box (d := 6)); exact rfl; exact rfl; exact rfl; intro b6) | ((with_reducible apply At.box (d := 8)); exact rfl; exact rfl; exact rfl; intro b8) | ((with_reducible apply At.alloc (d := 13)); exact rfl; exact rfl; intro b13) | ((with_reducible apply At.alloc (d := 16)); exact rfl; exact rfl; intro b16) | ((with_reducible apply At.alloc (d := 17)); exact rfl; exact rfl; intro b17) | ((with_reducible apply At.alloc (d := 19)); exact rfl; exact rfl; intro b19) | ((with_reducible apply At.alloc (d := 21)); exact rfl; exact rfl; intro b21) | ((with_reducible apply At.alloc (d := 25)); exact rfl; exact rfl; intro b25) | ((with_reducible apply At.alloc (d := 28)); exact rfl; exact rfl; intro b28) | ((with_reducible apply At.alloc (d := 29)); exact rfl; exact rfl; intro b29) | ((with_reducible apply At.alloc (d := 33)); exact rfl; exact rfl; intro b33) | ((with_reducible apply At.alloc (d := 34)); exact rfl; exact rfl; intro b34) | ((with_reducible apply At.alloc (d := 36)); exact rfl; exact rfl; intro b36) | (refine zsp ?_ ?_ <;> (intro hc; (try simp only [zhcs, reduceCtorEq] at hc); (try (exfalso; first | (first | omega | exact absurd rfl hc | exact absurd (hst.symm.trans hc) Bool.false_ne_true) | contradiction | omega | exact absurd rfl hc | exact absurd (by decide) hc))))))
    all_goals ((with_reducible refine At.reachk ((s + 1)) ?_ ?_ ?_ ?_); exact zsubs; exact zml; exact zente; exact ⟨h, by omega⟩)
  obtain rfl : s = l.length := by omega
  clear hs h
  have k1 := fun (m' : Mem) (h : m.le m') (b : Nat) => seen (m := m') K p0 c0 l 20 [pb b] (wb b pw w.length cw) (q1 w) hA.ft.1 hG hA.st (by omega) (by kernel_rfl) (fun m2 h2 i hi => saw1 b i pw cw w (by omega) hA.bw ((sl1.mono h).mono h2)) (sl0.mono h)
  have k2 := fun (m' : Mem) (h : m.le m') (b : Nat) => seen (m := m') K p0 c0 l 21 [pb b] (wb b pw w.length cw) (q2 w) hA.ft.1 hG hA.st (by omega) (by kernel_rfl) (fun m2 h2 i hi => saw2 b i pw cw w (by omega) hA.bw ((sl1.mono h).mono h2)) (sl0.mono h)
  have k3 := fun (m' : Mem) (h : m.le m') (b : Nat) => seen (m := m') K p0 c0 l 22 [] (wb b pw w.length cw) q3 hA.ft.1 hG hA.st (by omega) (by kernel_rfl) (fun m2 h2 i hi => saw3 i (wb b pw w.length cw)) (sl0.mono h)
  have k4 := fun (m2 : Mem) (u v : Sta) (hu : u.Ok m2) (hv : v.Ok m2) (hR : RI K (pk (q1 w) l l.length) u) (hS : RI K (pk (q2 w) l l.length) v) => twoL (m := m2) w l u.pl.l[0]!.raw v.pl.l[0]!.raw (hR.raw (by
    have := (pk_sub (q1 w) l l.length (Nat.le_refl _)).length_le
    rw [List.take_length] at this
    omega)) (hS.raw (by
    have := (pk_sub (q2 w) l l.length (Nat.le_refl _)).length_le
    rw [List.take_length] at this
    omega)) hA.chk (by omega) (hu.at hR.len0).sr (hv.at hS.len0).sr
  have k5 := fun (m2 : Mem) (h : m.le m2) (p : Option Addr) (c : Nat) (sl : Sl m2 Ev.cells 4 p c l) => sameL (m := m2) p c p0 c0 l (by omega) sl (sl0.mono h)
  have k6 := fun (m2 : Mem) p c sl => new_ (m := m2) K p c la hK la_right la_mid sl
  (repeat' (first | (refine At.cutp (id := 17) (False) 134 [1, 3, 4, 5, 6, 17, 19, 21] (by rfl) ?_ ?_) | ((with_reducible apply At.mixed (id := 19) 18 (.q 0 (.q 1 (.q 2 (.q 3 (.q 4 (.q 5 (.q 6 (.q 7 (.q 8 (.q 9 (.q 10 (.q 11 (.x 12 (.q 13 (.q 14 (.q 15 (.q 16 (.q 17 .done))))))))))))))))))); exact rfl; kernel_rfl; kernel_rfl; kernel_rfl) | refine zsx ?_ | refine zss ?_ | ((with_reducible apply AtM.bo); exact rfl; exact rfl; exact rfl) | ((first | (with_reducible first | apply At.val | apply AtQ.val) | ((with_reducible first | apply AtM1.valz | apply AtM1.val); exact rfl) | ((with_reducible apply AtM1.val); exact rfl)); (first | exact pr_fieldAddr_at (k := 0 * 23) (by rfl) (by rfl) | exact pr_fieldAddr_at2 (k := 0) (q := 23) (j := 2) (by rfl) (by rfl) (by rfl)); exact rfl) | refine zsM ?_ | refine zxM ?_ | ((with_reducible first | apply At.c1 | apply At.c0); exact rfl; exact rfl; exact k1 _ zml b8; exact ztk; kernel_rfl; rintro v' m' B' hm' ⟨rfl, u1, rfl, hu1, hR1⟩; (try replace sl0 := sl0.mono hm'); (try replace sl1 := sl1.mono hm'); (try replace sl2 := sl2.mono hm'); (try replace sl3 := sl3.mono hm'); (try replace sl5 := sl5.mono hm'); (try replace sl6 := sl6.mono hm'); (try replace sl7 := sl7.mono hm'); (try replace sl9 := sl9.mono hm'); (try replace sl10 := sl10.mono hm'); (try (have hq0 : hm' = Mem.le_refl _ := rfl; clear hq0 hm')); have sl5 := hu1.sl; have g1 := hR1.len0) | ((with_reducible first | apply At.c1 | apply At.c0); exact rfl; exact rfl; exact k2 _ zml b8; exact ztk; kernel_rfl; rintro v' m' B' hm' ⟨rfl, u2, rfl, hu2, hR2⟩; (try replace sl0 := sl0.mono hm'); (try replace sl1 := sl1.mono hm'); (try replace sl2 := sl2.mono hm'); (try replace sl3 := sl3.mono hm'); (try replace sl5 := sl5.mono hm'); (try replace sl6 := sl6.mono hm'); (try replace sl7 := sl7.mono hm'); (try replace sl9 := sl9.mono hm'); (try replace sl10 := sl10.mono hm'); (try (have hq0 : hm' = Mem.le_refl _ := rfl; clear hq0 hm')); have sl6 := hu2.sl; have g2 := hR2.len0) | ((with_reducible first | apply At.c1 | apply At.c0); exact rfl; exact rfl; exact k3 _ zml b8; exact ztk; kernel_rfl; rintro v' m' B' hm' ⟨rfl, u3, rfl, hu3, hR3⟩; (try replace sl0 := sl0.mono hm'); (try replace sl1 := sl1.mono hm'); (try replace sl2 := sl2.mono hm'); (try replace sl3 := sl3.mono hm'); (try replace sl5 := sl5.mono hm'); (try replace sl6 := sl6.mono hm'); (try replace sl7 := sl7.mono hm'); (try replace sl9 := sl9.mono hm'); (try replace sl10 := sl10.mono hm'); (try (have hq0 : hm' = Mem.le_refl _ := rfl; clear hq0 hm')); have sl7 := hu3.sl; have g3 := hR3.len0) | ((with_reducible apply At.endp); exact rfl; exact zsubs; exact zml; exact zente; (exact ⟨fun hh => absurd (of_decide_eq_true hh) (by omega), fun hh => hh.elim⟩)) | ((with_reducible first | apply At.c1 | apply At.c0); exact rfl; exact rfl; exact k4 _ u1 u2 (hu1.mono zml) (hu2.mono zml) hR1 hR2; exact ztk; kernel_rfl; rintro v' m' B' hm' ⟨rfl, p4, c4, rfl, sl2⟩; (try replace sl0 := sl0.mono hm'); (try replace sl1 := sl1.mono hm'); (try replace sl2 := sl2.mono hm'); (try replace sl3 := sl3.mono hm'); (try replace sl5 := sl5.mono hm'); (try replace sl6 := sl6.mono hm'); (try replace sl7 := sl7.mono hm'); (try replace sl9 := sl9.mono hm'); (try replace sl10 := sl10.mono hm'); (try (have hq0 : hm' = Mem.le_refl _ := rfl; clear hq0 hm'))) | ((with_reducible apply At.litF Lb.cells la); exact inferInstance; (iterate 7 exact rfl); intro b' m' hm' sl3; (try replace sl0 := sl0.mono hm'); (try replace sl1 := sl1.mono hm'); (try replace sl2 := sl2.mono hm'); (try replace sl5 := sl5.mono hm'); (try replace sl6 := sl6.mono hm'); (try replace sl7 := sl7.mono hm'); (try replace sl9 := sl9.mono hm'); (try replace sl10 := sl10.mono hm')) | ((with_reducible first | apply At.c1 | apply At.c0); exact rfl; exact rfl; exact k6 _ _ _ sl3; exact ztk; kernel_rfl; rintro v' m' B' hm' ⟨rfl, x0, rfl, hx0, hI0, hlab0⟩; (try replace sl0 := sl0.mono hm'); (try replace sl1 := sl1.mono hm'); (try replace sl2 := sl2.mono hm'); (try replace sl3 := sl3.mono hm'); (try replace sl5 := sl5.mono hm'); (try replace sl6 := sl6.mono hm'); (try replace sl7 := sl7.mono hm'); (try replace sl9 := sl9.mono hm'); (try replace sl10 := sl10.mono hm'); (try (have hq0 : hm' = Mem.le_refl _ := rfl; clear hq0 hm'))) | ((with_reducible first | apply AtM1.cr | apply AtQ.cr | apply At.cr); exact rfl; exact rfl; exact fun _ hmm => k5 _ zml _ _ (sl2.mono hmm); exact ztk; kernel_rfl) | ((with_reducible apply At.box (d := 6)); exact rfl; exact rfl; exact rfl; intro b6) | ((with_reducible apply At.box (d := 8)); exact rfl; exact rfl; exact rfl; intro b8) | ((with_reducible apply At.alloc (d := 13)); exact rfl; exact rfl; intro b13) | ((with_reducible apply At.alloc (d := 16)); exact rfl; exact rfl; intro b16) | ((with_reducible apply At.alloc (d := 17)); exact rfl; exact rfl; intro b17) | ((with_reducible apply At.alloc (d := 19)); exact rfl; exact rfl; intro b19) | ((with_reducible apply At.alloc (d := 21)); exact rfl; exact rfl; intro b21) | ((with_reducible apply At.alloc (d := 25)); exact rfl; exact rfl; intro b25) | ((with_reducible apply At.alloc (d := 28)); exact rfl; exact rfl; intro b28) | ((with_reducible apply At.alloc (d := 29)); exact rfl; exact rfl; intro b29) | ((with_reducible apply At.alloc (d := 33)); exact rfl; exact rfl; intro b33) | ((with_reducible apply At.alloc (d := 34)); exact rfl; exact rfl; intro b34) | ((with_reducible apply At.alloc (d := 36)); exact rfl; exact rfl; intro b36) | (refine zsp ?_ ?_ <;> (intro hc; (try simp only [zhcs, reduceCtorEq] at hc); (try (exfalso; first | (first | omega | exact absurd rfl hc | exact hc) | contradiction | omega | exact absurd rfl hc | exact absurd (by decide) hc))))))
  obtain ⟨e3, hR3'⟩ : ∃ x3, u3.pl.l[0]! = x3 := ⟨_, rfl⟩
  have hu3' := hu3.mono (show Mem.le _ m' from zml)
  have hS3 := (hR3.si (by rw [show pk q3 l l.length = l from pk_all l]; exact hA.ne))
  rw [show pk q3 l l.length = l from pk_all l] at hS3
  have hx3 := hu3'.at g3
  clear k1 k2 k3 k4 k5 k6 hu1 hu2 hu3 hR1 hR2 hR3 hz sl0 sl1 hu3'
  rw [show ([] : List Ev) = l.take 0 from rfl] at hI0
  (refine At.loopk (σ := PS) [3, 4, 5, 6, 21, 23, 25, 170, 171] (fun s F0 => (172, .int .i64 (s.k : Int)) :: F0) (fun s => s.m) (fun s => .blk b25 63 s.x.cells :: .blk b21 28 u3.cells :: .blk b6 25 K.cells :: Rest) (fun s => m'.le s.m ∧ s.k ≤ l.length ∧ s.x.Ok s.m ∧ SI K (l.take s.k) s.x ∧ s.x.lab.l = la) (fun s => l.length - s.k) ⟨0, m', x0⟩ (by rfl) ?_ zsubs zml zente ?_)
  · exact ⟨Mem.le_refl _, Nat.zero_le _, hx0, hI0, hlab0⟩
  clear hx0 hI0 hlab0
  rintro ⟨k, m1, x⟩ ⟨hm1, hk, hx, hI, hlab⟩
  dsimp only at hm1 hk hx hI hlab ⊢
  replace sl2 := sl2.mono hm1
  replace sl7 := sl7.mono hm1
  by_cases hkl : k < l.length
  · have hsn := Ls.take_snoc hkl
    have hGe : Gr.Good (l.take k ++ [l[k]!]) := by rw [← hsn]; exact hG.sub (List.take_sublist _ _)
    have k1 := fun (m' : Mem) (h : m1.le m') => put_ (m := m') K x (l.take k) l[k]! hI (hx.mono h) hGe (by rw [List.length_take]; omega)
    rw [← hsn] at k1
    clear hGe hsn hI hx hK hG hS3 hx3
    (repeat' (first | refine zss ?_ | refine zsM ?_ | ((with_reducible first | apply At.c1 | apply At.c0); exact rfl; exact rfl; exact k1 _ zml; exact ztk; kernel_rfl; rintro v' m' B' hm' ⟨rfl, y, rfl, hy, hyI, hyl⟩; (try replace sl0 := sl0.mono hm'); (try replace sl1 := sl1.mono hm'); (try replace sl2 := sl2.mono hm'); (try replace sl3 := sl3.mono hm'); (try replace sl5 := sl5.mono hm'); (try replace sl6 := sl6.mono hm'); (try replace sl7 := sl7.mono hm'); (try replace sl9 := sl9.mono hm'); (try replace sl10 := sl10.mono hm'); (try (have hq0 : hm' = Mem.le_refl _ := rfl; clear hq0 hm'))) | ((with_reducible apply At.box (d := 6)); exact rfl; exact rfl; exact rfl; intro b6) | ((with_reducible apply At.box (d := 8)); exact rfl; exact rfl; exact rfl; intro b8) | ((with_reducible apply At.alloc (d := 13)); exact rfl; exact rfl; intro b13) | ((with_reducible apply At.alloc (d := 16)); exact rfl; exact rfl; intro b16) | ((with_reducible apply At.alloc (d := 17)); exact rfl; exact rfl; intro b17) | ((with_reducible apply At.alloc (d := 19)); exact rfl; exact rfl; intro b19) | ((with_reducible apply At.alloc (d := 21)); exact rfl; exact rfl; intro b21) | ((with_reducible apply At.alloc (d := 25)); exact rfl; exact rfl; intro b25) | ((with_reducible apply At.alloc (d := 28)); exact rfl; exact rfl; intro b28) | ((with_reducible apply At.alloc (d := 29)); exact rfl; exact rfl; intro b29) | ((with_reducible apply At.alloc (d := 33)); exact rfl; exact rfl; intro b33) | ((with_reducible apply At.alloc (d := 34)); exact rfl; exact rfl; intro b34) | ((with_reducible apply At.alloc (d := 36)); exact rfl; exact rfl; intro b36) | (refine zsp ?_ ?_ <;> (intro hc; (try simp only [zhcs, reduceCtorEq] at hc); (try (exfalso; first | (first | omega | exact absurd rfl hc) | contradiction | omega | exact absurd rfl hc | exact absurd (by decide) hc))))))
    all_goals ((with_reducible refine At.reachk ((⟨k + 1, m', y⟩ : PS)) ?_ ?_ ?_ ?_); exact zsubs; exact zml; exact zente; exact ⟨⟨zml, hkl, hy, hyI, by rw [hyl]; exact hlab⟩, by show l.length - (k + 1) < l.length - k; omega⟩)
  obtain rfl : k = l.length := by omega
  rw [List.take_length] at hI
  have ks := fun (m2 : Mem) (h : m1.le m2) => sameS (m := m2) x u3.pl.l[0]! (hx.mono h) (hx3.mono (Mem.le_trans hm1 h))
  rw [hI.same hS3.1 (hlab.trans hS3.2.symm) hr] at ks
  have hWv := hK.ha
  have hNv := hK.hx
  obtain ⟨hl1, hl2, hl3⟩ := hI.pos hA.ne
  have hq : IntKind.wrap .i64 (x.last.tdiv K.a) = x.last / K.a := quo_nn (by omega) hWv.1
  have g4 := Int.ediv_nonneg hl2 (show 0 ≤ K.a by omega)
  have g5 := Int.ediv_le_self K.a hl2
  have hs1 : IntKind.wrap .i64 (x.last / K.a - K.x) = x.last / K.a - K.x := IntWalk.i64_in _ (by omega)
  have hs2 : IntKind.wrap .i64 (x.last / K.a - K.x + 1) = x.last / K.a - K.x + 1 := IntWalk.i64_in _ (by omega)
  have hW0 : K.a ≠ 0 := by omega
  obtain ⟨i1, hi1⟩ : ∃ i1, (if (if i < x.last / K.a - K.x + 1 then x.last / K.a - K.x + 1 else i) < 0 then 0 else if i < x.last / K.a - K.x + 1 then x.last / K.a - K.x + 1 else i) = i1 := ⟨_, rfl⟩
  have hi2 : 0 ≤ i1 ∧ x.last / K.a - K.x < i1 := by
    subst hi1
    split <;> split <;> omega
  have pm : ∀ {n : Nat} {F : Fr} {C : World → Prop} {x1 y1 u1 : Operand} {ts : Array TypeId}, ev F x1 = some (.int .i64 i) → ev F y1 = some (.int .i64 (x.last / K.a - K.x + 1)) → ev F u1 = some (.int .i64 0) → PR Tryz.prog n F C (.call ⟨.builtin .max, #[x1, y1, u1], ts⟩) (.int .i64 i1) := fun a1 a2 a3 => hi1 ▸ pr_max3 a1 a2 a3
  by_cases hji : j < i1
  · clear hI hx hx3 hS3 hi1 hA hG hK hlab
    generalize x.last / K.a = A at *
    (repeat' (first | refine zss ?_ | ((first | (with_reducible first | apply At.val | apply AtQ.val)); (first | exact pm (by rfl) (by rfl) (by rfl) | exact pr_indexArr (k := 0) (by rfl) (by rfl) (by rfl) (by rfl) (by decide) | exact pr_quo (by rfl) (by rfl) hW0 hq | exact pr_sub (by rfl) (by rfl) hs1 | exact pr_add (by rfl) (by rfl) hs2); exact rfl) | refine zsM ?_ | fail | ((with_reducible first | apply AtM1.cr | apply AtQ.cr | apply At.cr); exact rfl; exact rfl; exact fun _ hmm => ks _ zml; exact ztk; kernel_rfl) | ((with_reducible apply At.box (d := 6)); exact rfl; exact rfl; exact rfl; intro b6) | ((with_reducible apply At.box (d := 8)); exact rfl; exact rfl; exact rfl; intro b8) | ((with_reducible apply At.alloc (d := 13)); exact rfl; exact rfl; intro b13) | ((with_reducible apply At.alloc (d := 16)); exact rfl; exact rfl; intro b16) | ((with_reducible apply At.alloc (d := 17)); exact rfl; exact rfl; intro b17) | ((with_reducible apply At.alloc (d := 19)); exact rfl; exact rfl; intro b19) | ((with_reducible apply At.alloc (d := 21)); exact rfl; exact rfl; intro b21) | ((with_reducible apply At.alloc (d := 25)); exact rfl; exact rfl; intro b25) | ((with_reducible apply At.alloc (d := 28)); exact rfl; exact rfl; intro b28) | ((with_reducible apply At.alloc (d := 29)); exact rfl; exact rfl; intro b29) | ((with_reducible apply At.alloc (d := 33)); exact rfl; exact rfl; intro b33) | ((with_reducible apply At.alloc (d := 34)); exact rfl; exact rfl; intro b34) | ((with_reducible apply At.alloc (d := 36)); exact rfl; exact rfl; intro b36) | (refine zsp ?_ ?_ <;> (intro hc; (try simp only [zhcs, reduceCtorEq] at hc); (try (exfalso; first | (first | omega | exact absurd rfl hc) | contradiction | omega | exact absurd rfl hc | exact absurd (by decide) hc))))))
    all_goals ((with_reducible apply At.retB1 (B := [])); exact rfl; exact rfl; exact zml; exact zkp; exact ⟨rfl, rfl⟩)
  obtain ⟨gg, hgg⟩ : ∃ gg : Ev → Bool, gg = fun e => decide (i1 ≤ e.T / K.a ∧ e.T / K.a < j) := ⟨_, rfl⟩
  have kr := fun (m2 : Mem) (h : m1.le m2) => range_ (m := m2) K x l 0 (by decide) i1 j hI (hx.mono h) hi2.1 (by omega)
  have e1 : rg K l 0 i1 j = cel (l.filter gg) := (congrArg cel (sel_kept (w := K.a) (n := K.x) (by rw [← hl1]; exact hi2.2))).trans (by rw [hgg])
  rw [e1] at kr
  have hF : Gr.Good (l.filter gg) := hG.sub List.filter_sublist
  have hFl : (l.filter gg).length ≤ 20 := Nat.le_trans (List.length_filter_le _ _) hlen
  have hof : Cell.ofL (l.filter gg) = (cel (l.filter gg), 0) := by
    unfold Cell.ofL
    rw [if_neg (not_not_intro (Mrg.chk_zero.2 ⟨fun e he => (hF.1 e he).1, hF.2⟩))]
    rfl
  have kof := fun (m2 : Mem) (p : Option Addr) (c : Nat) (sl : Sl m2 Ev.cells 4 p c (l.filter gg)) => Cell.of_ (m := m2) p c (l.filter gg) (by omega) (fun e he => (hF.1 e he).2) sl
  rw [hof] at kof
  clear hof hF e1 hI hx3 hS3 hi1 hlab hx
  generalize cel (l.filter gg) = C1 at kr kof
  (repeat' (first | refine zss ?_ | ((first | (with_reducible first | apply At.val | apply AtQ.val)); (first | exact pm (by rfl) (by rfl) (by rfl) | exact pr_indexArr (k := 0) (by rfl) (by rfl) (by rfl) (by rfl) (by decide) | exact pr_quo (by rfl) (by rfl) hW0 hq | exact pr_sub (by rfl) (by rfl) hs1 | exact pr_add (by rfl) (by rfl) hs2); exact rfl) | refine zsM ?_ | fail | ((with_reducible first | apply AtM1.cr | apply AtQ.cr | apply At.cr); exact rfl; exact rfl; exact fun _ hmm => ks _ zml; exact ztk; kernel_rfl) | ((with_reducible apply At.box (d := 6)); exact rfl; exact rfl; exact rfl; intro b6) | ((with_reducible apply At.box (d := 8)); exact rfl; exact rfl; exact rfl; intro b8) | ((with_reducible apply At.alloc (d := 13)); exact rfl; exact rfl; intro b13) | ((with_reducible apply At.alloc (d := 16)); exact rfl; exact rfl; intro b16) | ((with_reducible apply At.alloc (d := 17)); exact rfl; exact rfl; intro b17) | ((with_reducible apply At.alloc (d := 19)); exact rfl; exact rfl; intro b19) | ((with_reducible apply At.alloc (d := 21)); exact rfl; exact rfl; intro b21) | ((with_reducible apply At.alloc (d := 25)); exact rfl; exact rfl; intro b25) | ((with_reducible apply At.alloc (d := 28)); exact rfl; exact rfl; intro b28) | ((with_reducible apply At.alloc (d := 29)); exact rfl; exact rfl; intro b29) | ((with_reducible apply At.alloc (d := 33)); exact rfl; exact rfl; intro b33) | ((with_reducible apply At.alloc (d := 34)); exact rfl; exact rfl; intro b34) | ((with_reducible apply At.alloc (d := 36)); exact rfl; exact rfl; intro b36) | (refine zsp ?_ ?_ <;> (intro hc; (try simp only [zhcs, reduceCtorEq] at hc); (try (exfalso; first | (first | omega | exact absurd rfl hc) | contradiction | omega | exact absurd rfl hc | exact absurd (by decide) hc))))))
  clear ks pm hq hs1 hs2
  refine At.own_nil Ev.cells 4 57 ?_
  (refine At.loopk (σ := FS) [3, 4, 5, 6, 25, 212, 213] (fun s F0 => (214, .int .i64 (s.j : Int)) :: (31, .slice s.p ((l.take s.j).filter gg).length s.c) :: F0) (fun s => m1) (fun s => .own Ev.cells 4 57 s.p s.c ((l.take s.j).filter gg) :: .blk b25 63 x.cells :: .blk b6 25 K.cells :: Rest) (fun s => s.j ≤ l.length) (fun s => l.length - s.j) ⟨0, none, 0⟩ (by rfl) ?_ zsubs zml zente ?_)
  · exact Nat.zero_le _
  rintro ⟨jj, p, c⟩ hj
  dsimp only at hj ⊢
  by_cases h : jj < l.length
  · have hem := Ls.mem! h
    have heo := (hG.1 _ hem).1
    have h9 := heo.1
    have h10 := heo.2.1
    have hq2 : IntKind.wrap .i64 ((l[jj]!).T.tdiv K.a) = (l[jj]!).T / K.a := quo_nn ⟨h9, by omega⟩ hWv.1
    have hsn := filt_snoc gg h
    have hle : ((l.take jj).filter gg).length ≤ 20 := Nat.le_trans (List.length_filter_le _ _) (by rw [List.length_take]; omega)
    have hgj : gg l[jj]! = decide (i1 ≤ (l[jj]!).T / K.a ∧ (l[jj]!).T / K.a < j) := by rw [hgg]
    rw [hgj] at hsn
    generalize (l.take jj).filter gg = O at hsn hle ⊢
    clear kr kof hG hA hK hgg hgj heo hem g4 g5 hl1 hl2 hl3 hi2
    generalize (l[jj]!).T / K.a = Q at *
    by_cases h5 : i1 ≤ Q ∧ Q < j
    · rw [decide_eq_true h5, if_pos rfl] at hsn
      obtain ⟨h6, h7⟩ := h5
      (repeat' (first | refine zss ?_ | ((first | (with_reducible first | apply At.val | apply AtQ.val)); (first | exact pr_indexArr (k := 0) (by rfl) (by rfl) (by rfl) (by rfl) (by decide) | exact pr_quo (by rfl) (by rfl) hW0 hq2); exact rfl) | refine zsOM ?_ | ((with_reducible apply At.litF Ev.cells [l[jj]!]); exact inferInstance; (iterate 7 exact rfl); intro b' m' hm' sl9; (try replace sl0 := sl0.mono hm'); (try replace sl1 := sl1.mono hm'); (try replace sl2 := sl2.mono hm'); (try replace sl3 := sl3.mono hm'); (try replace sl5 := sl5.mono hm'); (try replace sl6 := sl6.mono hm'); (try replace sl7 := sl7.mono hm'); (try replace sl10 := sl10.mono hm')) | ((with_reducible apply At.apW (f := Ev.cells) (l := O)); exact rfl; exact rfl; exact (by repeat constructor); exact inferInstance; exact zrdl; (iterate 4 exact rfl); exact zom; exact rfl; intro p5 c5) | ((with_reducible apply At.box (d := 6)); exact rfl; exact rfl; exact rfl; intro b6) | ((with_reducible apply At.box (d := 8)); exact rfl; exact rfl; exact rfl; intro b8) | ((with_reducible apply At.alloc (d := 13)); exact rfl; exact rfl; intro b13) | ((with_reducible apply At.alloc (d := 16)); exact rfl; exact rfl; intro b16) | ((with_reducible apply At.alloc (d := 17)); exact rfl; exact rfl; intro b17) | ((with_reducible apply At.alloc (d := 19)); exact rfl; exact rfl; intro b19) | ((with_reducible apply At.alloc (d := 21)); exact rfl; exact rfl; intro b21) | ((with_reducible apply At.alloc (d := 25)); exact rfl; exact rfl; intro b25) | ((with_reducible apply At.alloc (d := 28)); exact rfl; exact rfl; intro b28) | ((with_reducible apply At.alloc (d := 29)); exact rfl; exact rfl; intro b29) | ((with_reducible apply At.alloc (d := 33)); exact rfl; exact rfl; intro b33) | ((with_reducible apply At.alloc (d := 34)); exact rfl; exact rfl; intro b34) | ((with_reducible apply At.alloc (d := 36)); exact rfl; exact rfl; intro b36) | (refine zsp ?_ ?_ <;> (intro hc; (try simp only [zhcs, reduceCtorEq] at hc); (try (exfalso; first | (first | omega | exact absurd rfl hc) | contradiction | omega | exact absurd rfl hc | exact absurd (by decide) hc))))))
      all_goals rw [← hsn]
      all_goals ((with_reducible refine At.reachk ((⟨jj + 1, p5, c5⟩ : FS)) ?_ ?_ ?_ ?_); exact zsubs; exact zml; exact zente; exact ⟨h, by dsimp only; omega⟩)
    · rw [decide_eq_false h5, if_neg (by decide), List.append_nil] at hsn
      (repeat' (first | refine zss ?_ | ((first | (with_reducible first | apply At.val | apply AtQ.val)); (first | exact pr_indexArr (k := 0) (by rfl) (by rfl) (by rfl) (by rfl) (by decide) | exact pr_quo (by rfl) (by rfl) hW0 hq2); exact rfl) | refine zsOM ?_ | ((with_reducible apply At.box (d := 6)); exact rfl; exact rfl; exact rfl; intro b6) | ((with_reducible apply At.box (d := 8)); exact rfl; exact rfl; exact rfl; intro b8) | ((with_reducible apply At.alloc (d := 13)); exact rfl; exact rfl; intro b13) | ((with_reducible apply At.alloc (d := 16)); exact rfl; exact rfl; intro b16) | ((with_reducible apply At.alloc (d := 17)); exact rfl; exact rfl; intro b17) | ((with_reducible apply At.alloc (d := 19)); exact rfl; exact rfl; intro b19) | ((with_reducible apply At.alloc (d := 21)); exact rfl; exact rfl; intro b21) | ((with_reducible apply At.alloc (d := 25)); exact rfl; exact rfl; intro b25) | ((with_reducible apply At.alloc (d := 28)); exact rfl; exact rfl; intro b28) | ((with_reducible apply At.alloc (d := 29)); exact rfl; exact rfl; intro b29) | ((with_reducible apply At.alloc (d := 33)); exact rfl; exact rfl; intro b33) | ((with_reducible apply At.alloc (d := 34)); exact rfl; exact rfl; intro b34) | ((with_reducible apply At.alloc (d := 36)); exact rfl; exact rfl; intro b36) | (refine zsp ?_ ?_ <;> (intro hc; (try simp only [zhcs, reduceCtorEq] at hc); (try (exfalso; first | (first | omega | exact absurd rfl hc) | contradiction | omega | exact absurd rfl hc | exact absurd (by decide) hc))))))
      all_goals rw [← hsn]
      all_goals ((with_reducible refine At.reachk ((⟨jj + 1, p, c⟩ : FS)) ?_ ?_ ?_ ?_); exact zsubs; exact zml; exact zente; exact ⟨h, by dsimp only; omega⟩)
  obtain rfl : jj = l.length := by omega
  rw [List.take_length]
  clear hG hA hK hgg
  generalize l.filter gg = O at *
  (refine At.own_freeze inferInstance (by repeat constructor) fun m' hm' sl10 => ?_; (try replace sl0 := sl0.mono hm'); (try replace sl1 := sl1.mono hm'); (try replace sl2 := sl2.mono hm'); (try replace sl3 := sl3.mono hm'); (try replace sl5 := sl5.mono hm'); (try replace sl6 := sl6.mono hm'); (try replace sl7 := sl7.mono hm'); (try replace sl9 := sl9.mono hm'))
  (repeat' (first | refine zss ?_ | ((first | (with_reducible first | apply At.val | apply AtQ.val)); (exact Cell.pr_ceq (a := C1) (b := C1) (by rfl) (by rfl)); exact rfl) | refine zsM ?_ | ((with_reducible first | apply AtM1.cr | apply AtQ.cr | apply At.cr); exact rfl; exact rfl; exact fun _ hmm => kr _ zml; exact ztk; kernel_rfl) | ((with_reducible first | apply At.c1 | apply At.c0); exact rfl; exact rfl; exact kof _ _ _ sl10; exact ztk; kernel_rfl; rintro v' m' B' hm' ⟨rfl, rfl, rfl⟩; (try replace sl0 := sl0.mono hm'); (try replace sl1 := sl1.mono hm'); (try replace sl2 := sl2.mono hm'); (try replace sl3 := sl3.mono hm'); (try replace sl5 := sl5.mono hm'); (try replace sl6 := sl6.mono hm'); (try replace sl7 := sl7.mono hm'); (try replace sl9 := sl9.mono hm'); (try replace sl10 := sl10.mono hm'); (try (have hq0 : hm' = Mem.le_refl _ := rfl; clear hq0 hm'))) | ((with_reducible apply At.box (d := 6)); exact rfl; exact rfl; exact rfl; intro b6) | ((with_reducible apply At.box (d := 8)); exact rfl; exact rfl; exact rfl; intro b8) | ((with_reducible apply At.alloc (d := 13)); exact rfl; exact rfl; intro b13) | ((with_reducible apply At.alloc (d := 16)); exact rfl; exact rfl; intro b16) | ((with_reducible apply At.alloc (d := 17)); exact rfl; exact rfl; intro b17) | ((with_reducible apply At.alloc (d := 19)); exact rfl; exact rfl; intro b19) | ((with_reducible apply At.alloc (d := 21)); exact rfl; exact rfl; intro b21) | ((with_reducible apply At.alloc (d := 25)); exact rfl; exact rfl; intro b25) | ((with_reducible apply At.alloc (d := 28)); exact rfl; exact rfl; intro b28) | ((with_reducible apply At.alloc (d := 29)); exact rfl; exact rfl; intro b29) | ((with_reducible apply At.alloc (d := 33)); exact rfl; exact rfl; intro b33) | ((with_reducible apply At.alloc (d := 34)); exact rfl; exact rfl; intro b34) | ((with_reducible apply At.alloc (d := 36)); exact rfl; exact rfl; intro b36) | (refine zsp ?_ ?_ <;> (intro hc; (try simp only [zhcs, reduceCtorEq] at hc); (try (exfalso; first | (first | omega | exact absurd rfl hc) | contradiction | omega | exact absurd rfl hc | exact absurd (by decide) hc))))))
  all_goals ((with_reducible apply At.retB1 (B := [])); exact rfl; exact rfl; exact zml; exact zkp; exact ⟨by first | rfl | (simp; done), rfl⟩)
end Tr
end Go.Proofs.YtkoijdmlehkhbaaGreatDoor
namespace Go.Proofs.YtkoijdmlehkhbaaGreatDoor
open Go Go.J
attribute [local irreducible] At AtQ AtM AtM1 PR Ct Pu Rd Res.blk Res.own Res.ex RVs RV
namespace Tr
open Slot Ti Se St Win Gr Sv
open Fo hiding pt emp
set_option maxRecDepth 100000 in
theorem rep1 {m : Mem} (hz : Ra.TZ m) (K : Cfg) (p0 : Option Addr) (c0 : Nat) (l : List Ev) (pw : Option Addr) (cw : Nat) (w : List Int) (i j : Int) (hA : Arg K l w) (sl0 : Sl m Ev.cells 4 p0 c0 l) (sl1 : Sl m fb 1 pw cw w) :
    Ct Tryz.prog 4 #[K.v, .slice p0 l.length c0, .slice pw w.length cw, .int .i64 1, .int .i64 i, .int .i64 j] m [] (fun v m' B => v = .bool true ∧ B = []) := by
  have hG := hA.good
  have hK := hA.ft.1.1
  have hlen := hA.len
  have hr := hA.r
  have hlw := hA.lw
  have hne : l.length ≠ 0 := fun h => hA.ne (List.eq_nil_of_length_eq_zero h)
  have hlv := fun (m' : Mem) (h : m.le m') => Qy.begins20 (m := m') (hz.mono h)
  have kf := fun (m' : Mem) => fits_ (m := m') K
  rw [decide_eq_true hA.ft] at kf
  have ko := fun (m' : Mem) (h : m.le m') => Cell.of_ (m := m') p0 c0 l (by omega) hA.V (sl0.mono h)
  have hof : Cell.ofL l = (cel l, 0) := by unfold Cell.ofL; rw [if_neg (not_not_intro hA.chk)]; rfl
  rw [hof] at ko
  refine Ct.enterV (by rfl) Tryz.func4 rfl Tryz.ntmps4 rfl (fun w0 Rest => ?_)
  (repeat' (first | refine zss ?_ | refine zsM ?_ | ((with_reducible first | apply AtM1.cr | apply AtQ.cr | apply At.cr); exact rfl; exact rfl; exact fun _ hmm => hlv _ zml; exact ztk; kernel_rfl) | ((with_reducible first | apply AtM1.cr | apply AtQ.cr | apply At.cr); exact rfl; exact rfl; exact fun _ hmm => kf _; exact ztk; kernel_rfl) | ((with_reducible first | apply At.c1 | apply At.c0); exact rfl; exact rfl; exact ko _ zml; exact ztk; kernel_rfl; rintro v' m' B' hm' ⟨rfl, rfl, rfl⟩; (try replace sl0 := sl0.mono hm'); (try replace sl1 := sl1.mono hm'); (try replace sl2 := sl2.mono hm'); (try replace sl3 := sl3.mono hm'); (try replace sl5 := sl5.mono hm'); (try replace sl6 := sl6.mono hm'); (try replace sl7 := sl7.mono hm'); (try replace sl9 := sl9.mono hm'); (try replace sl10 := sl10.mono hm'); (try (have hq0 : hm' = Mem.le_refl _ := rfl; clear hq0 hm'))) | ((with_reducible apply At.box (d := 6)); exact rfl; exact rfl; exact rfl; intro b6) | ((with_reducible apply At.box (d := 8)); exact rfl; exact rfl; exact rfl; intro b8) | ((with_reducible apply At.alloc (d := 13)); exact rfl; exact rfl; intro b13) | ((with_reducible apply At.alloc (d := 16)); exact rfl; exact rfl; intro b16) | ((with_reducible apply At.alloc (d := 17)); exact rfl; exact rfl; intro b17) | ((with_reducible apply At.alloc (d := 19)); exact rfl; exact rfl; intro b19) | ((with_reducible apply At.alloc (d := 21)); exact rfl; exact rfl; intro b21) | ((with_reducible apply At.alloc (d := 25)); exact rfl; exact rfl; intro b25) | ((with_reducible apply At.alloc (d := 28)); exact rfl; exact rfl; intro b28) | ((with_reducible apply At.alloc (d := 29)); exact rfl; exact rfl; intro b29) | ((with_reducible apply At.alloc (d := 33)); exact rfl; exact rfl; intro b33) | ((with_reducible apply At.alloc (d := 34)); exact rfl; exact rfl; intro b34) | ((with_reducible apply At.alloc (d := 36)); exact rfl; exact rfl; intro b36) | (refine zsp ?_ ?_ <;> (intro hc; (try simp only [zhcs, reduceCtorEq] at hc); (try (exfalso; first | (first | omega | exact absurd rfl hc) | contradiction | omega | exact absurd rfl hc | exact absurd (by decide) hc))))))
  clear hlv kf ko hof
  (refine At.loopk (σ := Nat) [1, 3, 4, 5, 6, 8, 78, 79] (fun s F0 => (80, .int .i64 (s : Int)) :: F0) (fun s => m) (fun s => .blk b8 75 [.slice pw w.length cw] :: .blk b6 25 K.cells :: Rest) (fun s => s ≤ l.length) (fun s => l.length - s) 0 (by rfl) ?_ zsubs zml zente ?_)
  · exact Nat.zero_le _
  intro s hs
  by_cases h : s < l.length
  · have hst := hA.st _ (Ls.mem! h)
    (repeat' (first | refine zss ?_ | refine zsM ?_ | ((with_reducible apply At.box (d := 6)); exact rfl; exact rfl; exact rfl; intro b6) | ((with_reducible apply At.box (d := 8)); exact rfl; exact rfl; exact rfl; intro b8) | ((with_reducible apply At.alloc (d := 13)); exact rfl; exact rfl; intro b13) | ((with_reducible apply At.alloc (d := 16)); exact rfl; exact rfl; intro b16) | ((with_reducible apply At.alloc (d := 17)); exact rfl; exact rfl; intro b17) | ((with_reducible apply At.alloc (d := 19)); exact rfl; exact rfl; intro b19) | ((with_reducible apply At.alloc (d := 21)); exact rfl; exact rfl; intro b21) | ((with_reducible apply At.alloc (d := 25)); exact rfl; exact rfl; intro b25) | ((with_reducible apply At.alloc (d := 28)); exact rfl; exact rfl; intro b28) | ((with_reducible apply At.alloc (d := 29)); exact rfl; exact rfl; intro b29) | ((with_reducible apply At.alloc (d := 33)); exact rfl; exact rfl; intro b33) | ((with_reducible apply At.alloc (d := 34)); exact rfl; exact rfl; intro b34) | ((with_reducible apply At.alloc (d := 36)); exact rfl; exact rfl; intro b36) | (refine zsp ?_ ?_ <;> (intro hc; (try simp only [zhcs, reduceCtorEq] at hc); (try (exfalso; first | (first | omega | exact absurd rfl hc | exact absurd (hst.symm.trans hc) Bool.false_ne_true) | contradiction | omega | exact absurd rfl hc | exact absurd (by decide) hc))))))
    all_goals ((with_reducible refine At.reachk ((s + 1)) ?_ ?_ ?_ ?_); exact zsubs; exact zml; exact zente; exact ⟨h, by omega⟩)
  obtain rfl : s = l.length := by omega
  clear hs h
  have k1 := fun (m' : Mem) (h : m.le m') (b : Nat) => seen (m := m') K p0 c0 l 20 [pb b] (wb b pw w.length cw) (q1 w) hA.ft.1 hG hA.st (by omega) (by kernel_rfl) (fun m2 h2 i hi => saw1 b i pw cw w (by omega) hA.bw ((sl1.mono h).mono h2)) (sl0.mono h)
  have k2 := fun (m' : Mem) (h : m.le m') (b : Nat) => seen (m := m') K p0 c0 l 21 [pb b] (wb b pw w.length cw) (q2 w) hA.ft.1 hG hA.st (by omega) (by kernel_rfl) (fun m2 h2 i hi => saw2 b i pw cw w (by omega) hA.bw ((sl1.mono h).mono h2)) (sl0.mono h)
  have k3 := fun (m' : Mem) (h : m.le m') (b : Nat) => seen (m := m') K p0 c0 l 22 [] (wb b pw w.length cw) q3 hA.ft.1 hG hA.st (by omega) (by kernel_rfl) (fun m2 h2 i hi => saw3 i (wb b pw w.length cw)) (sl0.mono h)
  have k4 := fun (m2 : Mem) (u v : Sta) (hu : u.Ok m2) (hv : v.Ok m2) (hR : RI K (pk (q1 w) l l.length) u) (hS : RI K (pk (q2 w) l l.length) v) => twoL (m := m2) w l u.pl.l[0]!.raw v.pl.l[0]!.raw (hR.raw (by
    have := (pk_sub (q1 w) l l.length (Nat.le_refl _)).length_le
    rw [List.take_length] at this
    omega)) (hS.raw (by
    have := (pk_sub (q2 w) l l.length (Nat.le_refl _)).length_le
    rw [List.take_length] at this
    omega)) hA.chk (by omega) (hu.at hR.len0).sr (hv.at hS.len0).sr
  have k5 := fun (m2 : Mem) (h : m.le m2) (p : Option Addr) (c : Nat) (sl : Sl m2 Ev.cells 4 p c l) => sameL (m := m2) p c p0 c0 l (by omega) sl (sl0.mono h)
  have k6 := fun (m2 : Mem) p c sl => new_ (m := m2) K p c la hK la_right la_mid sl
  (repeat' (first | (refine At.cutp (id := 17) (False) 134 [1, 3, 4, 5, 6, 17, 19, 21] (by rfl) ?_ ?_) | ((with_reducible apply At.mixed (id := 19) 18 (.q 0 (.q 1 (.q 2 (.q 3 (.q 4 (.q 5 (.q 6 (.q 7 (.q 8 (.q 9 (.q 10 (.q 11 (.x 12 (.q 13 (.q 14 (.q 15 (.q 16 (.q 17 .done))))))))))))))))))); exact rfl; kernel_rfl; kernel_rfl; kernel_rfl) | refine zsx ?_ | refine zss ?_ | ((with_reducible apply AtM.bo); exact rfl; exact rfl; exact rfl) | ((first | (with_reducible first | apply At.val | apply AtQ.val) | ((with_reducible first | apply AtM1.valz | apply AtM1.val); exact rfl) | ((with_reducible apply AtM1.val); exact rfl)); (first | exact pr_fieldAddr_at (k := 0 * 23) (by rfl) (by rfl) | exact pr_fieldAddr_at2 (k := 0) (q := 23) (j := 2) (by rfl) (by rfl) (by rfl)); exact rfl) | refine zsM ?_ | refine zxM ?_ | ((with_reducible first | apply At.c1 | apply At.c0); exact rfl; exact rfl; exact k1 _ zml b8; exact ztk; kernel_rfl; rintro v' m' B' hm' ⟨rfl, u1, rfl, hu1, hR1⟩; (try replace sl0 := sl0.mono hm'); (try replace sl1 := sl1.mono hm'); (try replace sl2 := sl2.mono hm'); (try replace sl3 := sl3.mono hm'); (try replace sl5 := sl5.mono hm'); (try replace sl6 := sl6.mono hm'); (try replace sl7 := sl7.mono hm'); (try replace sl9 := sl9.mono hm'); (try replace sl10 := sl10.mono hm'); (try (have hq0 : hm' = Mem.le_refl _ := rfl; clear hq0 hm')); have sl5 := hu1.sl; have g1 := hR1.len0) | ((with_reducible first | apply At.c1 | apply At.c0); exact rfl; exact rfl; exact k2 _ zml b8; exact ztk; kernel_rfl; rintro v' m' B' hm' ⟨rfl, u2, rfl, hu2, hR2⟩; (try replace sl0 := sl0.mono hm'); (try replace sl1 := sl1.mono hm'); (try replace sl2 := sl2.mono hm'); (try replace sl3 := sl3.mono hm'); (try replace sl5 := sl5.mono hm'); (try replace sl6 := sl6.mono hm'); (try replace sl7 := sl7.mono hm'); (try replace sl9 := sl9.mono hm'); (try replace sl10 := sl10.mono hm'); (try (have hq0 : hm' = Mem.le_refl _ := rfl; clear hq0 hm')); have sl6 := hu2.sl; have g2 := hR2.len0) | ((with_reducible first | apply At.c1 | apply At.c0); exact rfl; exact rfl; exact k3 _ zml b8; exact ztk; kernel_rfl; rintro v' m' B' hm' ⟨rfl, u3, rfl, hu3, hR3⟩; (try replace sl0 := sl0.mono hm'); (try replace sl1 := sl1.mono hm'); (try replace sl2 := sl2.mono hm'); (try replace sl3 := sl3.mono hm'); (try replace sl5 := sl5.mono hm'); (try replace sl6 := sl6.mono hm'); (try replace sl7 := sl7.mono hm'); (try replace sl9 := sl9.mono hm'); (try replace sl10 := sl10.mono hm'); (try (have hq0 : hm' = Mem.le_refl _ := rfl; clear hq0 hm')); have sl7 := hu3.sl; have g3 := hR3.len0) | ((with_reducible apply At.endp); exact rfl; exact zsubs; exact zml; exact zente; (exact ⟨fun hh => absurd (of_decide_eq_true hh) (by omega), fun hh => hh.elim⟩)) | ((with_reducible first | apply At.c1 | apply At.c0); exact rfl; exact rfl; exact k4 _ u1 u2 (hu1.mono zml) (hu2.mono zml) hR1 hR2; exact ztk; kernel_rfl; rintro v' m' B' hm' ⟨rfl, p4, c4, rfl, sl2⟩; (try replace sl0 := sl0.mono hm'); (try replace sl1 := sl1.mono hm'); (try replace sl2 := sl2.mono hm'); (try replace sl3 := sl3.mono hm'); (try replace sl5 := sl5.mono hm'); (try replace sl6 := sl6.mono hm'); (try replace sl7 := sl7.mono hm'); (try replace sl9 := sl9.mono hm'); (try replace sl10 := sl10.mono hm'); (try (have hq0 : hm' = Mem.le_refl _ := rfl; clear hq0 hm'))) | ((with_reducible apply At.litF Lb.cells la); exact inferInstance; (iterate 7 exact rfl); intro b' m' hm' sl3; (try replace sl0 := sl0.mono hm'); (try replace sl1 := sl1.mono hm'); (try replace sl2 := sl2.mono hm'); (try replace sl5 := sl5.mono hm'); (try replace sl6 := sl6.mono hm'); (try replace sl7 := sl7.mono hm'); (try replace sl9 := sl9.mono hm'); (try replace sl10 := sl10.mono hm')) | ((with_reducible first | apply At.c1 | apply At.c0); exact rfl; exact rfl; exact k6 _ _ _ sl3; exact ztk; kernel_rfl; rintro v' m' B' hm' ⟨rfl, x0, rfl, hx0, hI0, hlab0⟩; (try replace sl0 := sl0.mono hm'); (try replace sl1 := sl1.mono hm'); (try replace sl2 := sl2.mono hm'); (try replace sl3 := sl3.mono hm'); (try replace sl5 := sl5.mono hm'); (try replace sl6 := sl6.mono hm'); (try replace sl7 := sl7.mono hm'); (try replace sl9 := sl9.mono hm'); (try replace sl10 := sl10.mono hm'); (try (have hq0 : hm' = Mem.le_refl _ := rfl; clear hq0 hm'))) | ((with_reducible first | apply AtM1.cr | apply AtQ.cr | apply At.cr); exact rfl; exact rfl; exact fun _ hmm => k5 _ zml _ _ (sl2.mono hmm); exact ztk; kernel_rfl) | ((with_reducible apply At.box (d := 6)); exact rfl; exact rfl; exact rfl; intro b6) | ((with_reducible apply At.box (d := 8)); exact rfl; exact rfl; exact rfl; intro b8) | ((with_reducible apply At.alloc (d := 13)); exact rfl; exact rfl; intro b13) | ((with_reducible apply At.alloc (d := 16)); exact rfl; exact rfl; intro b16) | ((with_reducible apply At.alloc (d := 17)); exact rfl; exact rfl; intro b17) | ((with_reducible apply At.alloc (d := 19)); exact rfl; exact rfl; intro b19) | ((with_reducible apply At.alloc (d := 21)); exact rfl; exact rfl; intro b21) | ((with_reducible apply At.alloc (d := 25)); exact rfl; exact rfl; intro b25) | ((with_reducible apply At.alloc (d := 28)); exact rfl; exact rfl; intro b28) | ((with_reducible apply At.alloc (d := 29)); exact rfl; exact rfl; intro b29) | ((with_reducible apply At.alloc (d := 33)); exact rfl; exact rfl; intro b33) | ((with_reducible apply At.alloc (d := 34)); exact rfl; exact rfl; intro b34) | ((with_reducible apply At.alloc (d := 36)); exact rfl; exact rfl; intro b36) | (refine zsp ?_ ?_ <;> (intro hc; (try simp only [zhcs, reduceCtorEq] at hc); (try (exfalso; first | (first | omega | exact absurd rfl hc | exact hc) | contradiction | omega | exact absurd rfl hc | exact absurd (by decide) hc))))))
  obtain ⟨e3, hR3'⟩ : ∃ x3, u3.pl.l[0]! = x3 := ⟨_, rfl⟩
  have hu3' := hu3.mono (show Mem.le _ m' from zml)
  have hS3 := (hR3.si (by rw [show pk q3 l l.length = l from pk_all l]; exact hA.ne))
  rw [show pk q3 l l.length = l from pk_all l] at hS3
  have hx3 := hu3'.at g3
  clear k1 k2 k3 k4 k5 k6 hu1 hu2 hu3 hR1 hR2 hR3 hz sl0 sl1 hu3'
  rw [show ([] : List Ev) = l.take 0 from rfl] at hI0
  (refine At.loopk (σ := PS) [3, 4, 5, 6, 21, 23, 25, 170, 171] (fun s F0 => (172, .int .i64 (s.k : Int)) :: F0) (fun s => s.m) (fun s => .blk b25 63 s.x.cells :: .blk b21 28 u3.cells :: .blk b6 25 K.cells :: Rest) (fun s => m'.le s.m ∧ s.k ≤ l.length ∧ s.x.Ok s.m ∧ SI K (l.take s.k) s.x ∧ s.x.lab.l = la) (fun s => l.length - s.k) ⟨0, m', x0⟩ (by rfl) ?_ zsubs zml zente ?_)
  · exact ⟨Mem.le_refl _, Nat.zero_le _, hx0, hI0, hlab0⟩
  clear hx0 hI0 hlab0
  rintro ⟨k, m1, x⟩ ⟨hm1, hk, hx, hI, hlab⟩
  dsimp only at hm1 hk hx hI hlab ⊢
  replace sl2 := sl2.mono hm1
  replace sl7 := sl7.mono hm1
  by_cases hkl : k < l.length
  · have hsn := Ls.take_snoc hkl
    have hGe : Gr.Good (l.take k ++ [l[k]!]) := by rw [← hsn]; exact hG.sub (List.take_sublist _ _)
    have k1 := fun (m' : Mem) (h : m1.le m') => put_ (m := m') K x (l.take k) l[k]! hI (hx.mono h) hGe (by rw [List.length_take]; omega)
    rw [← hsn] at k1
    clear hGe hsn hI hx hK hG hS3 hx3
    (repeat' (first | refine zss ?_ | refine zsM ?_ | ((with_reducible first | apply At.c1 | apply At.c0); exact rfl; exact rfl; exact k1 _ zml; exact ztk; kernel_rfl; rintro v' m' B' hm' ⟨rfl, y, rfl, hy, hyI, hyl⟩; (try replace sl0 := sl0.mono hm'); (try replace sl1 := sl1.mono hm'); (try replace sl2 := sl2.mono hm'); (try replace sl3 := sl3.mono hm'); (try replace sl5 := sl5.mono hm'); (try replace sl6 := sl6.mono hm'); (try replace sl7 := sl7.mono hm'); (try replace sl9 := sl9.mono hm'); (try replace sl10 := sl10.mono hm'); (try (have hq0 : hm' = Mem.le_refl _ := rfl; clear hq0 hm'))) | ((with_reducible apply At.box (d := 6)); exact rfl; exact rfl; exact rfl; intro b6) | ((with_reducible apply At.box (d := 8)); exact rfl; exact rfl; exact rfl; intro b8) | ((with_reducible apply At.alloc (d := 13)); exact rfl; exact rfl; intro b13) | ((with_reducible apply At.alloc (d := 16)); exact rfl; exact rfl; intro b16) | ((with_reducible apply At.alloc (d := 17)); exact rfl; exact rfl; intro b17) | ((with_reducible apply At.alloc (d := 19)); exact rfl; exact rfl; intro b19) | ((with_reducible apply At.alloc (d := 21)); exact rfl; exact rfl; intro b21) | ((with_reducible apply At.alloc (d := 25)); exact rfl; exact rfl; intro b25) | ((with_reducible apply At.alloc (d := 28)); exact rfl; exact rfl; intro b28) | ((with_reducible apply At.alloc (d := 29)); exact rfl; exact rfl; intro b29) | ((with_reducible apply At.alloc (d := 33)); exact rfl; exact rfl; intro b33) | ((with_reducible apply At.alloc (d := 34)); exact rfl; exact rfl; intro b34) | ((with_reducible apply At.alloc (d := 36)); exact rfl; exact rfl; intro b36) | (refine zsp ?_ ?_ <;> (intro hc; (try simp only [zhcs, reduceCtorEq] at hc); (try (exfalso; first | (first | omega | exact absurd rfl hc) | contradiction | omega | exact absurd rfl hc | exact absurd (by decide) hc))))))
    all_goals ((with_reducible refine At.reachk ((⟨k + 1, m', y⟩ : PS)) ?_ ?_ ?_ ?_); exact zsubs; exact zml; exact zente; exact ⟨⟨zml, hkl, hy, hyI, by rw [hyl]; exact hlab⟩, by show l.length - (k + 1) < l.length - k; omega⟩)
  obtain rfl : k = l.length := by omega
  rw [List.take_length] at hI
  have ks := fun (m2 : Mem) (h : m1.le m2) => sameS (m := m2) x u3.pl.l[0]! (hx.mono h) (hx3.mono (Mem.le_trans hm1 h))
  rw [hI.same hS3.1 (hlab.trans hS3.2.symm) hr] at ks
  have hWv := hK.hb
  have hNv := hK.hy
  obtain ⟨hl1, hl2, hl3⟩ := hI.pos hA.ne
  have hq : IntKind.wrap .i64 (x.last.tdiv K.b) = x.last / K.b := quo_nn (by omega) hWv.1
  have g4 := Int.ediv_nonneg hl2 (show 0 ≤ K.b by omega)
  have g5 := Int.ediv_le_self K.b hl2
  have hs1 : IntKind.wrap .i64 (x.last / K.b - K.y) = x.last / K.b - K.y := IntWalk.i64_in _ (by omega)
  have hs2 : IntKind.wrap .i64 (x.last / K.b - K.y + 1) = x.last / K.b - K.y + 1 := IntWalk.i64_in _ (by omega)
  have hW0 : K.b ≠ 0 := by omega
  obtain ⟨i1, hi1⟩ : ∃ i1, (if (if i < x.last / K.b - K.y + 1 then x.last / K.b - K.y + 1 else i) < 0 then 0 else if i < x.last / K.b - K.y + 1 then x.last / K.b - K.y + 1 else i) = i1 := ⟨_, rfl⟩
  have hi2 : 0 ≤ i1 ∧ x.last / K.b - K.y < i1 := by
    subst hi1
    split <;> split <;> omega
  have pm : ∀ {n : Nat} {F : Fr} {C : World → Prop} {x1 y1 u1 : Operand} {ts : Array TypeId}, ev F x1 = some (.int .i64 i) → ev F y1 = some (.int .i64 (x.last / K.b - K.y + 1)) → ev F u1 = some (.int .i64 0) → PR Tryz.prog n F C (.call ⟨.builtin .max, #[x1, y1, u1], ts⟩) (.int .i64 i1) := fun a1 a2 a3 => hi1 ▸ pr_max3 a1 a2 a3
  by_cases hji : j < i1
  · clear hI hx hx3 hS3 hi1 hA hG hK hlab
    generalize x.last / K.b = A at *
    (repeat' (first | refine zss ?_ | ((first | (with_reducible first | apply At.val | apply AtQ.val)); (first | exact pm (by rfl) (by rfl) (by rfl) | exact pr_indexArr (k := 1) (by rfl) (by rfl) (by rfl) (by rfl) (by decide) | exact pr_quo (by rfl) (by rfl) hW0 hq | exact pr_sub (by rfl) (by rfl) hs1 | exact pr_add (by rfl) (by rfl) hs2); exact rfl) | refine zsM ?_ | fail | ((with_reducible first | apply AtM1.cr | apply AtQ.cr | apply At.cr); exact rfl; exact rfl; exact fun _ hmm => ks _ zml; exact ztk; kernel_rfl) | ((with_reducible apply At.box (d := 6)); exact rfl; exact rfl; exact rfl; intro b6) | ((with_reducible apply At.box (d := 8)); exact rfl; exact rfl; exact rfl; intro b8) | ((with_reducible apply At.alloc (d := 13)); exact rfl; exact rfl; intro b13) | ((with_reducible apply At.alloc (d := 16)); exact rfl; exact rfl; intro b16) | ((with_reducible apply At.alloc (d := 17)); exact rfl; exact rfl; intro b17) | ((with_reducible apply At.alloc (d := 19)); exact rfl; exact rfl; intro b19) | ((with_reducible apply At.alloc (d := 21)); exact rfl; exact rfl; intro b21) | ((with_reducible apply At.alloc (d := 25)); exact rfl; exact rfl; intro b25) | ((with_reducible apply At.alloc (d := 28)); exact rfl; exact rfl; intro b28) | ((with_reducible apply At.alloc (d := 29)); exact rfl; exact rfl; intro b29) | ((with_reducible apply At.alloc (d := 33)); exact rfl; exact rfl; intro b33) | ((with_reducible apply At.alloc (d := 34)); exact rfl; exact rfl; intro b34) | ((with_reducible apply At.alloc (d := 36)); exact rfl; exact rfl; intro b36) | (refine zsp ?_ ?_ <;> (intro hc; (try simp only [zhcs, reduceCtorEq] at hc); (try (exfalso; first | (first | omega | exact absurd rfl hc) | contradiction | omega | exact absurd rfl hc | exact absurd (by decide) hc))))))
    all_goals ((with_reducible apply At.retB1 (B := [])); exact rfl; exact rfl; exact zml; exact zkp; exact ⟨rfl, rfl⟩)
  obtain ⟨gg, hgg⟩ : ∃ gg : Ev → Bool, gg = fun e => decide (i1 ≤ e.T / K.b ∧ e.T / K.b < j) := ⟨_, rfl⟩
  have kr := fun (m2 : Mem) (h : m1.le m2) => range_ (m := m2) K x l 1 (by decide) i1 j hI (hx.mono h) hi2.1 (by omega)
  have e1 : rg K l 1 i1 j = cel (l.filter gg) := (congrArg cel (sel_kept (w := K.b) (n := K.y) (by rw [← hl1]; exact hi2.2))).trans (by rw [hgg])
  rw [e1] at kr
  have hF : Gr.Good (l.filter gg) := hG.sub List.filter_sublist
  have hFl : (l.filter gg).length ≤ 20 := Nat.le_trans (List.length_filter_le _ _) hlen
  have hof : Cell.ofL (l.filter gg) = (cel (l.filter gg), 0) := by
    unfold Cell.ofL
    rw [if_neg (not_not_intro (Mrg.chk_zero.2 ⟨fun e he => (hF.1 e he).1, hF.2⟩))]
    rfl
  have kof := fun (m2 : Mem) (p : Option Addr) (c : Nat) (sl : Sl m2 Ev.cells 4 p c (l.filter gg)) => Cell.of_ (m := m2) p c (l.filter gg) (by omega) (fun e he => (hF.1 e he).2) sl
  rw [hof] at kof
  clear hof hF e1 hI hx3 hS3 hi1 hlab hx
  generalize cel (l.filter gg) = C1 at kr kof
  (repeat' (first | refine zss ?_ | ((first | (with_reducible first | apply At.val | apply AtQ.val)); (first | exact pm (by rfl) (by rfl) (by rfl) | exact pr_indexArr (k := 1) (by rfl) (by rfl) (by rfl) (by rfl) (by decide) | exact pr_quo (by rfl) (by rfl) hW0 hq | exact pr_sub (by rfl) (by rfl) hs1 | exact pr_add (by rfl) (by rfl) hs2); exact rfl) | refine zsM ?_ | fail | ((with_reducible first | apply AtM1.cr | apply AtQ.cr | apply At.cr); exact rfl; exact rfl; exact fun _ hmm => ks _ zml; exact ztk; kernel_rfl) | ((with_reducible apply At.box (d := 6)); exact rfl; exact rfl; exact rfl; intro b6) | ((with_reducible apply At.box (d := 8)); exact rfl; exact rfl; exact rfl; intro b8) | ((with_reducible apply At.alloc (d := 13)); exact rfl; exact rfl; intro b13) | ((with_reducible apply At.alloc (d := 16)); exact rfl; exact rfl; intro b16) | ((with_reducible apply At.alloc (d := 17)); exact rfl; exact rfl; intro b17) | ((with_reducible apply At.alloc (d := 19)); exact rfl; exact rfl; intro b19) | ((with_reducible apply At.alloc (d := 21)); exact rfl; exact rfl; intro b21) | ((with_reducible apply At.alloc (d := 25)); exact rfl; exact rfl; intro b25) | ((with_reducible apply At.alloc (d := 28)); exact rfl; exact rfl; intro b28) | ((with_reducible apply At.alloc (d := 29)); exact rfl; exact rfl; intro b29) | ((with_reducible apply At.alloc (d := 33)); exact rfl; exact rfl; intro b33) | ((with_reducible apply At.alloc (d := 34)); exact rfl; exact rfl; intro b34) | ((with_reducible apply At.alloc (d := 36)); exact rfl; exact rfl; intro b36) | (refine zsp ?_ ?_ <;> (intro hc; (try simp only [zhcs, reduceCtorEq] at hc); (try (exfalso; first | (first | omega | exact absurd rfl hc) | contradiction | omega | exact absurd rfl hc | exact absurd (by decide) hc))))))
  clear ks pm hq hs1 hs2
  refine At.own_nil Ev.cells 4 57 ?_
  (refine At.loopk (σ := FS) [3, 4, 5, 6, 25, 212, 213] (fun s F0 => (214, .int .i64 (s.j : Int)) :: (31, .slice s.p ((l.take s.j).filter gg).length s.c) :: F0) (fun s => m1) (fun s => .own Ev.cells 4 57 s.p s.c ((l.take s.j).filter gg) :: .blk b25 63 x.cells :: .blk b6 25 K.cells :: Rest) (fun s => s.j ≤ l.length) (fun s => l.length - s.j) ⟨0, none, 0⟩ (by rfl) ?_ zsubs zml zente ?_)
  · exact Nat.zero_le _
  rintro ⟨jj, p, c⟩ hj
  dsimp only at hj ⊢
  by_cases h : jj < l.length
  · have hem := Ls.mem! h
    have heo := (hG.1 _ hem).1
    have h9 := heo.1
    have h10 := heo.2.1
    have hq2 : IntKind.wrap .i64 ((l[jj]!).T.tdiv K.b) = (l[jj]!).T / K.b := quo_nn ⟨h9, by omega⟩ hWv.1
    have hsn := filt_snoc gg h
    have hle : ((l.take jj).filter gg).length ≤ 20 := Nat.le_trans (List.length_filter_le _ _) (by rw [List.length_take]; omega)
    have hgj : gg l[jj]! = decide (i1 ≤ (l[jj]!).T / K.b ∧ (l[jj]!).T / K.b < j) := by rw [hgg]
    rw [hgj] at hsn
    generalize (l.take jj).filter gg = O at hsn hle ⊢
    clear kr kof hG hA hK hgg hgj heo hem g4 g5 hl1 hl2 hl3 hi2
    generalize (l[jj]!).T / K.b = Q at *
    by_cases h5 : i1 ≤ Q ∧ Q < j
    · rw [decide_eq_true h5, if_pos rfl] at hsn
      obtain ⟨h6, h7⟩ := h5
      (repeat' (first | refine zss ?_ | ((first | (with_reducible first | apply At.val | apply AtQ.val)); (first | exact pr_indexArr (k := 1) (by rfl) (by rfl) (by rfl) (by rfl) (by decide) | exact pr_quo (by rfl) (by rfl) hW0 hq2); exact rfl) | refine zsOM ?_ | ((with_reducible apply At.litF Ev.cells [l[jj]!]); exact inferInstance; (iterate 7 exact rfl); intro b' m' hm' sl9; (try replace sl0 := sl0.mono hm'); (try replace sl1 := sl1.mono hm'); (try replace sl2 := sl2.mono hm'); (try replace sl3 := sl3.mono hm'); (try replace sl5 := sl5.mono hm'); (try replace sl6 := sl6.mono hm'); (try replace sl7 := sl7.mono hm'); (try replace sl10 := sl10.mono hm')) | ((with_reducible apply At.apW (f := Ev.cells) (l := O)); exact rfl; exact rfl; exact (by repeat constructor); exact inferInstance; exact zrdl; (iterate 4 exact rfl); exact zom; exact rfl; intro p5 c5) | ((with_reducible apply At.box (d := 6)); exact rfl; exact rfl; exact rfl; intro b6) | ((with_reducible apply At.box (d := 8)); exact rfl; exact rfl; exact rfl; intro b8) | ((with_reducible apply At.alloc (d := 13)); exact rfl; exact rfl; intro b13) | ((with_reducible apply At.alloc (d := 16)); exact rfl; exact rfl; intro b16) | ((with_reducible apply At.alloc (d := 17)); exact rfl; exact rfl; intro b17) | ((with_reducible apply At.alloc (d := 19)); exact rfl; exact rfl; intro b19) | ((with_reducible apply At.alloc (d := 21)); exact rfl; exact rfl; intro b21) | ((with_reducible apply At.alloc (d := 25)); exact rfl; exact rfl; intro b25) | ((with_reducible apply At.alloc (d := 28)); exact rfl; exact rfl; intro b28) | ((with_reducible apply At.alloc (d := 29)); exact rfl; exact rfl; intro b29) | ((with_reducible apply At.alloc (d := 33)); exact rfl; exact rfl; intro b33) | ((with_reducible apply At.alloc (d := 34)); exact rfl; exact rfl; intro b34) | ((with_reducible apply At.alloc (d := 36)); exact rfl; exact rfl; intro b36) | (refine zsp ?_ ?_ <;> (intro hc; (try simp only [zhcs, reduceCtorEq] at hc); (try (exfalso; first | (first | omega | exact absurd rfl hc) | contradiction | omega | exact absurd rfl hc | exact absurd (by decide) hc))))))
      all_goals rw [← hsn]
      all_goals ((with_reducible refine At.reachk ((⟨jj + 1, p5, c5⟩ : FS)) ?_ ?_ ?_ ?_); exact zsubs; exact zml; exact zente; exact ⟨h, by dsimp only; omega⟩)
    · rw [decide_eq_false h5, if_neg (by decide), List.append_nil] at hsn
      (repeat' (first | refine zss ?_ | ((first | (with_reducible first | apply At.val | apply AtQ.val)); (first | exact pr_indexArr (k := 1) (by rfl) (by rfl) (by rfl) (by rfl) (by decide) | exact pr_quo (by rfl) (by rfl) hW0 hq2); exact rfl) | refine zsOM ?_ | ((with_reducible apply At.box (d := 6)); exact rfl; exact rfl; exact rfl; intro b6) | ((with_reducible apply At.box (d := 8)); exact rfl; exact rfl; exact rfl; intro b8) | ((with_reducible apply At.alloc (d := 13)); exact rfl; exact rfl; intro b13) | ((with_reducible apply At.alloc (d := 16)); exact rfl; exact rfl; intro b16) | ((with_reducible apply At.alloc (d := 17)); exact rfl; exact rfl; intro b17) | ((with_reducible apply At.alloc (d := 19)); exact rfl; exact rfl; intro b19) | ((with_reducible apply At.alloc (d := 21)); exact rfl; exact rfl; intro b21) | ((with_reducible apply At.alloc (d := 25)); exact rfl; exact rfl; intro b25) | ((with_reducible apply At.alloc (d := 28)); exact rfl; exact rfl; intro b28) | ((with_reducible apply At.alloc (d := 29)); exact rfl; exact rfl; intro b29) | ((with_reducible apply At.alloc (d := 33)); exact rfl; exact rfl; intro b33) | ((with_reducible apply At.alloc (d := 34)); exact rfl; exact rfl; intro b34) | ((with_reducible apply At.alloc (d := 36)); exact rfl; exact rfl; intro b36) | (refine zsp ?_ ?_ <;> (intro hc; (try simp only [zhcs, reduceCtorEq] at hc); (try (exfalso; first | (first | omega | exact absurd rfl hc) | contradiction | omega | exact absurd rfl hc | exact absurd (by decide) hc))))))
      all_goals rw [← hsn]
      all_goals ((with_reducible refine At.reachk ((⟨jj + 1, p, c⟩ : FS)) ?_ ?_ ?_ ?_); exact zsubs; exact zml; exact zente; exact ⟨h, by dsimp only; omega⟩)
  obtain rfl : jj = l.length := by omega
  rw [List.take_length]
  clear hG hA hK hgg
  generalize l.filter gg = O at *
  (refine At.own_freeze inferInstance (by repeat constructor) fun m' hm' sl10 => ?_; (try replace sl0 := sl0.mono hm'); (try replace sl1 := sl1.mono hm'); (try replace sl2 := sl2.mono hm'); (try replace sl3 := sl3.mono hm'); (try replace sl5 := sl5.mono hm'); (try replace sl6 := sl6.mono hm'); (try replace sl7 := sl7.mono hm'); (try replace sl9 := sl9.mono hm'))
  (repeat' (first | refine zss ?_ | ((first | (with_reducible first | apply At.val | apply AtQ.val)); (exact Cell.pr_ceq (a := C1) (b := C1) (by rfl) (by rfl)); exact rfl) | refine zsM ?_ | ((with_reducible first | apply AtM1.cr | apply AtQ.cr | apply At.cr); exact rfl; exact rfl; exact fun _ hmm => kr _ zml; exact ztk; kernel_rfl) | ((with_reducible first | apply At.c1 | apply At.c0); exact rfl; exact rfl; exact kof _ _ _ sl10; exact ztk; kernel_rfl; rintro v' m' B' hm' ⟨rfl, rfl, rfl⟩; (try replace sl0 := sl0.mono hm'); (try replace sl1 := sl1.mono hm'); (try replace sl2 := sl2.mono hm'); (try replace sl3 := sl3.mono hm'); (try replace sl5 := sl5.mono hm'); (try replace sl6 := sl6.mono hm'); (try replace sl7 := sl7.mono hm'); (try replace sl9 := sl9.mono hm'); (try replace sl10 := sl10.mono hm'); (try (have hq0 : hm' = Mem.le_refl _ := rfl; clear hq0 hm'))) | ((with_reducible apply At.box (d := 6)); exact rfl; exact rfl; exact rfl; intro b6) | ((with_reducible apply At.box (d := 8)); exact rfl; exact rfl; exact rfl; intro b8) | ((with_reducible apply At.alloc (d := 13)); exact rfl; exact rfl; intro b13) | ((with_reducible apply At.alloc (d := 16)); exact rfl; exact rfl; intro b16) | ((with_reducible apply At.alloc (d := 17)); exact rfl; exact rfl; intro b17) | ((with_reducible apply At.alloc (d := 19)); exact rfl; exact rfl; intro b19) | ((with_reducible apply At.alloc (d := 21)); exact rfl; exact rfl; intro b21) | ((with_reducible apply At.alloc (d := 25)); exact rfl; exact rfl; intro b25) | ((with_reducible apply At.alloc (d := 28)); exact rfl; exact rfl; intro b28) | ((with_reducible apply At.alloc (d := 29)); exact rfl; exact rfl; intro b29) | ((with_reducible apply At.alloc (d := 33)); exact rfl; exact rfl; intro b33) | ((with_reducible apply At.alloc (d := 34)); exact rfl; exact rfl; intro b34) | ((with_reducible apply At.alloc (d := 36)); exact rfl; exact rfl; intro b36) | (refine zsp ?_ ?_ <;> (intro hc; (try simp only [zhcs, reduceCtorEq] at hc); (try (exfalso; first | (first | omega | exact absurd rfl hc) | contradiction | omega | exact absurd rfl hc | exact absurd (by decide) hc))))))
  all_goals ((with_reducible apply At.retB1 (B := [])); exact rfl; exact rfl; exact zml; exact zkp; exact ⟨by first | rfl | (simp; done), rfl⟩)
end Tr
end Go.Proofs.YtkoijdmlehkhbaaGreatDoor

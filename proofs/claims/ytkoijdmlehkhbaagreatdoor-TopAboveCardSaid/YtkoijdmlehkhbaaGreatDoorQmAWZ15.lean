/- Part 15 of what the law's proof needs: rules of the walk, contracts of functions, plain laws. No condition. -/
import Derived.Test.YtkoijdmlehkhbaaGreatDoorQmAWZ14
import Derived.Deep.Slices
import Derived.WideShapes
import Derived.OpenShut
import Derived.Test.YtkoijdmlehkhbaaGreatDoorTie
import Derived.Test.YtkoijdmlehkhbaaGreatDoorCards
import Derived.Lib.LaidTab
import Derived.LaidMore
import Derived.LaidSub
import Derived.MakeChecks
import Derived.ProofKit
import Derived.Stop.Joined
import Derived.SevenTiedAt
set_option linter.unusedSimpArgs false
set_option linter.unusedVariables false
set_option linter.unusedSectionVars false
set_option maxRecDepth 20000
set_option maxHeartbeats 4000000
namespace Go.Proofs.YtkoijdmlehkhbaaGreatDoor
open Go Go.J
attribute [local irreducible] At AtQ AtM AtM1 PR Ct Pu Rd Res.blk Res.own Res.ex RVs RV
namespace Mrg
open Ev
/-- a list, that stays, and an error -/
def Post (l : List Ev) (w : Int) : Value → Mem → List Res → Prop := fun v m' B => B = [] ∧ ∃ p c, v = .tuple #[.slice p l.length c, .int .i64 w] ∧ Sl m' cells 4 p c l
theorem walk3 {m : Mem} (b5 b8 : Nat) (pw : Option Addr) (cw : Nat) (ws : List Int) (pa : Option Addr) (ca : Nat) (a : List Ev) (pb : Option Addr) (cb : Nat) (b : List Ev) (p : Option Addr) (c : Nat) (L : List Ev)
    (ha : a.length ≤ 1000000) (hb : b.length ≤ 1000000) (sl1 : Sl m cells 4 pa ca a) (sl2 : Sl m cells 4 pb cb b) (h12 : ¬ (chk a = 0 ∧ chk b = 0)) :
    Ct Tryz.prog 108 #[.slice pa a.length ca, .slice pb b.length cb, .func (.func 109) #[] #[ptr b5, ptr b8]] m (tr b5 b8 pw cw ws p c L) (fun v m' B => v = .int .i64 (may a b) ∧ m = m' ∧ B = tr b5 b8 pw cw ws p c L) := by
  unfold may
  by_cases h1 : chk a = 0
  · have h2 : chk b ≠ 0 := fun h => h12 ⟨h1, h⟩
    rw [if_neg (fun h => h h1), if_pos h2]
    have k1 : ∀ m', m.le m' → Rd Tryz.prog 157 #[.slice pa a.length ca] m' [] (.int .i64 0) := fun m' hm => h1 ▸ check pa ca a ha (sl1.mono hm)
    refine Ct.enterV (by rfl) Tryz.func108 rfl Tryz.ntmps108 rfl (fun w0 Rest => ?_)
    (repeat' (first | refine zss ?_ | refine zsM ?_ | ((with_reducible first | apply AtM1.cr | apply AtQ.cr | apply At.cr); exact rfl; exact rfl; exact fun _ hmm => k1 _ hmm; exact ztk; kernel_rfl) | ((with_reducible first | apply AtM1.cr | apply AtQ.cr | apply At.cr); exact rfl; exact rfl; exact fun _ hmm => check pb cb b hb (sl2.mono hmm); exact ztk; kernel_rfl) | ((with_reducible apply At.alloc (d := 10)); exact rfl; exact rfl; intro b10) | ((with_reducible apply At.alloc (d := 12)); exact rfl; exact rfl; intro b12) | (refine zsp ?_ ?_ <;> (intro hc; (try simp only [zhcs, reduceCtorEq] at hc); (try (exfalso; first | (first | omega | exact absurd hc h2) | contradiction | omega | exact absurd rfl hc | exact absurd (by decide) hc))))))
    all_goals ((with_reducible apply At.retB1 (B := [.blk b5 _ _, .blk b8 _ _, .own cells 4 57 _ _ L])); exact rfl; exact rfl; exact zml; exact zkp; exact ⟨rfl, rfl, rfl⟩)
  · rw [if_pos h1]
    refine Ct.enterV (by rfl) Tryz.func108 rfl Tryz.ntmps108 rfl (fun w0 Rest => ?_)
    (repeat' (first | refine zss ?_ | refine zsM ?_ | ((with_reducible first | apply AtM1.cr | apply AtQ.cr | apply At.cr); exact rfl; exact rfl; exact fun _ hmm => check pa ca a ha (sl1.mono hmm); exact ztk; kernel_rfl) | ((with_reducible apply At.alloc (d := 10)); exact rfl; exact rfl; intro b10) | ((with_reducible apply At.alloc (d := 12)); exact rfl; exact rfl; intro b12) | (refine zsp ?_ ?_ <;> (intro hc; (try simp only [zhcs, reduceCtorEq] at hc); (try (exfalso; first | (first | omega | exact absurd hc h1) | contradiction | omega | exact absurd rfl hc | exact absurd (by decide) hc))))))
    all_goals ((with_reducible apply At.retB1 (B := [.blk b5 _ _, .blk b8 _ _, .own cells 4 57 _ _ L])); exact rfl; exact rfl; exact zml; exact zkp; exact ⟨rfl, rfl, rfl⟩)
theorem walk {m : Mem} (b5 b8 : Nat) (pw : Option Addr) (cw : Nat) (ws : List Int) (pa : Option Addr) (ca : Nat) (a : List Ev) (pb : Option Addr) (cb : Nat) (b : List Ev) (p : Option Addr) (c : Nat)
    (hw : ws.length ≤ 1000) (ha : a.length ≤ 1000000) (hb : b.length ≤ 1000000) (sl0 : Sl m fn 1 pw cw ws) (sl1 : Sl m cells 4 pa ca a) (sl2 : Sl m cells 4 pb cb b) :
    Ct Tryz.prog 108 #[.slice pa a.length ca, .slice pb b.length cb, .func (.func 109) #[] #[ptr b5, ptr b8]] m (tr b5 b8 pw cw ws p c [])
      (fun v m' B => v = .int .i64 (may a b) ∧ m = m' ∧ ∃ p' c' L', B = tr b5 b8 pw cw ws p' c' L' ∧ (may a b = 0 → L' = slc ws a b)) := by
  by_cases h12 : chk a = 0 ∧ chk b = 0
  · obtain ⟨h1, h2⟩ := h12
    rcases mg_spec ws a b [] (chk_zero.1 h1).2 (chk_zero.1 h2).2 with ⟨g1, g2⟩ | ⟨r, M, g1, g2, _, _, _⟩
    · rcases may_of h1 h2 with ⟨e, h⟩ | ⟨e, _⟩
      · exact absurd h g2
      · rw [e]
        exact (walk1 b5 b8 pw cw ws pa ca a pb cb b p c [] hw ha hb (Nat.zero_le _) sl0 sl1 sl2 h1 h2 g1).mono fun v m' B _ ⟨q1, q2, p', c', L', q3⟩ => ⟨q1, q2, p', c', L', q3, fun h => absurd h (by decide)⟩
    · rcases may_of h1 h2 with ⟨e, _⟩ | ⟨_, h⟩
      · rw [e]
        exact (walk2 b5 b8 pw cw ws pa ca a pb cb b p c [] r hw ha hb (Nat.zero_le _) sl0 sl1 sl2 h1 h2 g1).mono fun v m' B _ ⟨q1, q2, p', c', q3⟩ => ⟨q1, q2, p', c', _, q3, fun _ => by unfold slc; rw [g1]; rfl⟩
      · exact absurd g2 h
  · exact (walk3 b5 b8 pw cw ws pa ca a pb cb b p c [] ha hb sl1 sl2 h12).mono fun v m' B _ ⟨q1, q2, q3⟩ => ⟨q1, q2, p, c, _, q3, fun h => absurd ⟨(may_zero.1 h).1, (may_zero.1 h).2.1⟩ h12⟩
theorem someP {m : Mem} (pw : Option Addr) (cw : Nat) (ws : List Int) (pa : Option Addr) (ca : Nat) (a : List Ev) (pb : Option Addr) (cb : Nat) (b : List Ev)
    (hw : ws.length ≤ 1000) (ha : a.length ≤ 1000000) (hb : b.length ≤ 1000000) (sl0 : Sl m fn 1 pw cw ws) (sl1 : Sl m cells 4 pa ca a) (sl2 : Sl m cells 4 pb cb b) :
    Ct Tryz.prog 57 #[.slice pa a.length ca, .slice pb b.length cb, .slice pw ws.length cw] m []
      (fun v m' B => ∃ p c, v = .tuple #[.slice p (out a b (slc ws a b)).length c, .int .i64 (may a b)] ∧ B = [.own cells 4 57 p c (out a b (slc ws a b))]) := by
  have hwk := fun b5 b8 p c => walk (m := m) b5 b8 pw cw ws pa ca a pb cb b p c hw ha hb sl0 sl1 sl2
  by_cases h : may a b = 0
  · rw [show out a b (slc ws a b) = slc ws a b from if_pos h]
    rw [h] at hwk ⊢
    refine Ct.enterV (by rfl) Tryz.func57 rfl Tryz.ntmps57 rfl (fun w0 Rest => ?_)
    (repeat' (first | refine zss ?_ | refine zsM ?_ | ((with_reducible apply At.box (d := 5)); exact rfl; exact rfl; exact rfl; intro b5) | ((with_reducible apply At.alloc (d := 8)); exact rfl; exact rfl; intro b8) | (refine zsp ?_ ?_ <;> (intro hc; (try simp only [zhcs, reduceCtorEq] at hc); (try (exfalso; first | contradiction | omega | exact absurd rfl hc | exact absurd (by decide) hc))))))
    refine At.own_nil cells 4 57 ?_
    (repeat' (first | refine zss ?_ | refine zsM ?_ | ((with_reducible first | apply At.c1 | apply At.c0); exact rfl; exact rfl; exact hwk _ _ none 0; exact ztk; kernel_rfl; rintro v' m' B' hm' ⟨rfl, rfl, p2, c2, L2, rfl, hL⟩; (try replace sl0 := sl0.mono hm'); (try replace sl1 := sl1.mono hm'); (try replace sl2 := sl2.mono hm'); (try (have hq0 : hm' = Mem.le_refl _ := rfl; clear hq0 hm')); obtain rfl := hL rfl) | ((with_reducible apply At.box (d := 5)); exact rfl; exact rfl; exact rfl; intro b5) | ((with_reducible apply At.alloc (d := 8)); exact rfl; exact rfl; intro b8) | (refine zsp ?_ ?_ <;> (intro hc; (try simp only [zhcs, reduceCtorEq] at hc); (try (exfalso; first | omega | contradiction | omega | exact absurd rfl hc | exact absurd (by decide) hc))))))
    all_goals ((with_reducible apply At.retV (B := [.own cells 4 57 _ _ _])); exact rfl; (repeat' (first | exact RVs.nil | (with_reducible apply RVs.cons) | exact rv_tmp (by rfl) | exact rv_cellN (by rfl) (by repeat constructor) (by rfl) (by rfl) (by rfl) | exact rv_cell1 (by rfl) (by repeat constructor) (by rfl) (by rfl))); exact zml; exact zkp; exact ⟨_, _, rfl, rfl⟩)
  · rw [show out a b (slc ws a b) = [] from if_neg h]
    refine Ct.enterV (by rfl) Tryz.func57 rfl Tryz.ntmps57 rfl (fun w0 Rest => ?_)
    (repeat' (first | refine zss ?_ | refine zsM ?_ | ((with_reducible apply At.box (d := 5)); exact rfl; exact rfl; exact rfl; intro b5) | ((with_reducible apply At.alloc (d := 8)); exact rfl; exact rfl; intro b8) | (refine zsp ?_ ?_ <;> (intro hc; (try simp only [zhcs, reduceCtorEq] at hc); (try (exfalso; first | contradiction | omega | exact absurd rfl hc | exact absurd (by decide) hc))))))
    refine At.own_nil cells 4 57 ?_
    (repeat' (first | refine zss ?_ | refine zsM ?_ | ((with_reducible first | apply At.c1 | apply At.c0); exact rfl; exact rfl; exact hwk _ _ none 0; exact ztk; kernel_rfl; rintro v' m' B' hm' ⟨rfl, rfl, p2, c2, L2, rfl, hL⟩; (try replace sl0 := sl0.mono hm'); (try replace sl1 := sl1.mono hm'); (try replace sl2 := sl2.mono hm'); (try (have hq0 : hm' = Mem.le_refl _ := rfl; clear hq0 hm'))) | ((with_reducible apply At.box (d := 5)); exact rfl; exact rfl; exact rfl; intro b5) | ((with_reducible apply At.alloc (d := 8)); exact rfl; exact rfl; intro b8) | (refine zsp ?_ ?_ <;> (intro hc; (try simp only [zhcs, reduceCtorEq] at hc); (try (exfalso; first | (first | omega | exact absurd hc h) | contradiction | omega | exact absurd rfl hc | exact absurd (by decide) hc))))))
    refine At.own_nil cells 4 57 ?_
    all_goals ((with_reducible apply At.retV (B := [.own cells 4 57 _ _ _])); exact rfl; (repeat' (first | exact RVs.nil | (with_reducible apply RVs.cons) | exact rv_tmp (by rfl) | exact rv_cellN (by rfl) (by repeat constructor) (by rfl) (by rfl) (by rfl) | exact rv_cell1 (by rfl) (by repeat constructor) (by rfl) (by rfl))); exact zml; exact zkp; exact ⟨_, _, rfl, rfl⟩)
end Mrg
end Go.Proofs.YtkoijdmlehkhbaaGreatDoor
namespace Go.Proofs.YtkoijdmlehkhbaaGreatDoor
open Go Go.J
attribute [local irreducible] At AtQ AtM AtM1 PR Ct Pu Rd Res.blk Res.own Res.ex RVs RV
namespace Mrg
open Ev
theorem someO {m : Mem} (pw : Option Addr) (cw : Nat) (ws : List Int) (k : Nat) (hk : ws.length = k) (pa : Option Addr) (ca : Nat) (a : List Ev) (pb : Option Addr) (cb : Nat) (b : List Ev)
    (hw : ws.length ≤ 1000) (ha : a.length ≤ 1000000) (hb : b.length ≤ 1000000) (sl1 : Sl m cells 4 pa ca a) (sl2 : Sl m cells 4 pb cb b) :
    Ct Tryz.prog 57 #[.slice pa a.length ca, .slice pb b.length cb, .slice pw k cw] m [.own fn 1 3 pw cw ws] (Post (out a b (slc ws a b)) (may a b)) := by
  subst hk
  exact Ct.freezeG inferInstance fun m' hm' sl => Ct.slice inferInstance (someP pw cw ws pa ca a pb cb b hw ha hb sl (sl1.mono hm') (sl2.mono hm'))
theorem out_congr {a b l l' : List Ev} (h : may a b = 0 → l = l') : out a b l = out a b l' := by
  unfold out
  split
  · rename_i h1; exact h h1
  · rfl
theorem twoP {m : Mem} (pa : Option Addr) (ca : Nat) (a : List Ev) (pb : Option Addr) (cb : Nat) (b : List Ev) (ha : a.length ≤ 1000000) (hb : b.length ≤ 1000000) (sl0 : Sl m cells 4 pa ca a) (sl1 : Sl m cells 4 pb cb b) :
    Ct Tryz.prog 23 #[.slice pa a.length ca, .slice pb b.length cb] m [] (Post (out a b (two a b)) (may a b)) := by
  rw [← out_congr slc_two]
  refine Ct.enterV (by rfl) Tryz.func23 rfl Tryz.ntmps23 rfl (fun w0 Rest => ?_)
  (repeat' (first | refine zss ?_ | refine zsM ?_ | ((with_reducible apply At.lit fn [0, 1, 2]); exact inferInstance; (iterate 7 exact rfl); intro _) | ((with_reducible first | apply At.c1 | apply At.c0); exact rfl; exact rfl; exact someO _ _ [0, 1, 2] 3 rfl pa ca a pb cb b (by decide) ha hb sl0 sl1; exact ztk; kernel_rfl; rintro v' m' B' hm' ⟨rfl, p2, c2, rfl, sl3⟩; (try replace sl0 := sl0.mono hm'); (try replace sl1 := sl1.mono hm'); (try replace sl3 := sl3.mono hm'); (try (have hq0 : hm' = Mem.le_refl _ := rfl; clear hq0 hm'))) | (refine zsp ?_ ?_ <;> (intro hc; (try simp only [zhcs, reduceCtorEq] at hc); (try (exfalso; first | contradiction | omega | exact absurd rfl hc | exact absurd (by decide) hc))))))
  all_goals ((with_reducible apply At.retV (B := [])); exact rfl; (repeat' (first | exact RVs.nil | (with_reducible apply RVs.cons) | exact rv_tmp (by rfl) | exact rv_cellN (by rfl) (by repeat constructor) (by rfl) (by rfl) (by rfl) | exact rv_cell1 (by rfl) (by repeat constructor) (by rfl) (by rfl))); exact zml; exact zkp; exact ⟨rfl, _, _, rfl, sl3⟩)
/-- a list as an element -/
structure SE where
  (l : List Ev) (p : Option Addr) (c : Nat)
  deriving Inhabited
abbrev sc (x : SE) : List Value := [.slice x.p x.l.length x.c]
instance : Fl sc 1 := ⟨fun _ => rfl, fun x v h => by simp at h; subst h; rfl, by decide⟩
end Mrg
end Go.Proofs.YtkoijdmlehkhbaaGreatDoor
namespace Go.Proofs.YtkoijdmlehkhbaaGreatDoor
open Go Go.J
namespace Mrg
open Ev
instance (a b : List Ev) : Decidable (Fit a b) := by unfold Fit; infer_instance
theorem two_eq {a b l : List Ev} (h : may a b = 0) (hl : Asc l) (hm : ∀ e, e ∈ l ↔ e ∈ a ∨ e ∈ b) : two a b = l :=
  asc_ext (two_of h).1 hl fun e => ((two_of h).2 e).trans (hm e).symm
end Mrg
end Go.Proofs.YtkoijdmlehkhbaaGreatDoor
namespace Go.Proofs.YtkoijdmlehkhbaaGreatDoor
open Go Go.J
attribute [local irreducible] At AtQ AtM AtM1 PR Ct Pu Rd Res.blk Res.own Res.ex RVs RV
namespace Qu
open Wide
def rkV (n : Int) (num den : Nat) : Int × Int := if n < 1 ∨ den = 0 ∨ num > den then (0, 1) else (((rk n.toNat num den : Nat) : Int), 0)
theorem rank_ (n : Int) (hn : n ≤ 9223372036854775807) (num den : Nat) (h1 : num < 18446744073709551616) (h2 : den < 18446744073709551616) :
    Pu Tryz.prog 41 #[.int .i64 n, .int .u64 (num : Int), .int .u64 (den : Int)] (.tuple #[.int .i64 (rkV n num den).1, .int .i64 (rkV n num den).2]) := Pu.intro fun m => by
  unfold rkV
  by_cases h : n < 1 ∨ den = 0 ∨ num > den
  · rw [if_pos h]
    refine Ct.enterV (by rfl) Tryz.func41 rfl Tryz.ntmps41 rfl (fun w0 Rest => ?_)
    (repeat' (first | refine zss ?_ | ((first | (with_reducible first | apply At.val | apply AtQ.val)); (exact zprA); exact rfl) | refine zs0 ?_ | (refine zsp ?_ ?_ <;> (intro hc; (try simp only [zhcs, reduceCtorEq] at hc); (try (exfalso; first | omega | contradiction | omega | exact absurd rfl hc | exact absurd (by decide) hc))))))
    all_goals ((with_reducible apply At.retV (B := [])); exact rfl; (repeat' (first | exact RVs.nil | (with_reducible apply RVs.cons) | exact rv_tmp (by rfl) | exact rv_cellN (by rfl) (by repeat constructor) (by rfl) (by rfl) (by rfl) | exact rv_cell1 (by rfl) (by repeat constructor) (by rfl) (by rfl) | exact rv_cellA (by rfl) (by repeat constructor) (by rfl) (by rfl) zlq)); exact zml; exact zkp; exact ⟨rfl, rfl, rfl⟩)
  · rw [if_neg h]
    obtain ⟨N, rfl⟩ : ∃ N : Nat, n = (N : Int) := ⟨n.toNat, by omega⟩
    rw [Int.toNat_natCast]
    have hd : 0 < den := by omega
    have hle : num ≤ den := by omega
    have hN : 1 ≤ N := by omega
    have hN2 : N ≤ 9223372036854775807 := by omega
    have hr := rk_le hN hd hle
    have hV : N * num ≤ N * den := Nat.mul_le_mul_left _ hle
    have hV2 : N * den ≤ 9223372036854775807 * den := Nat.mul_le_mul_right _ hN2
    have m1 := mul64 (N : Int) (num : Int) (by omega) (by omega) (by omega) (by omega)
    rw [← Int.natCast_mul] at m1
    unfold rk up at hr ⊢
    generalize N * num = V at *
    have m2 := div64 (V / 18446744073709551616) (V % 18446744073709551616) den V (by omega) (by omega) h2 (by omega)
    generalize V / den = q at *
    generalize V % den = r at *
    by_cases h0 : r = 0
    · rw [if_pos h0] at hr ⊢
      clear hV hV2 h
      refine Ct.enterV (by rfl) Tryz.func41 rfl Tryz.ntmps41 rfl (fun w0 Rest => ?_)
      (repeat' (first | refine zss ?_ | ((first | (with_reducible first | apply At.val | apply AtQ.val)); (exact zprA); exact rfl) | refine zs0 ?_ | ((with_reducible first | apply AtM1.callp | apply AtQ.callp | apply At.callp); kernel_rfl; exact rfl; exact rfl; exact m1) | ((with_reducible first | apply AtM1.callp | apply AtQ.callp | apply At.callp); kernel_rfl; exact rfl; exact rfl; exact m2) | (refine zsp ?_ ?_ <;> (intro hc; (try simp only [zhcs, reduceCtorEq] at hc); (try (exfalso; first | omega | contradiction | omega | exact absurd rfl hc | exact absurd (by decide) hc))))))
      all_goals ((with_reducible apply At.retV (B := [])); exact rfl; (repeat' (first | exact RVs.nil | (with_reducible apply RVs.cons) | exact rv_tmp (by rfl) | exact rv_cellN (by rfl) (by repeat constructor) (by rfl) (by rfl) (by rfl) | exact rv_cell1 (by rfl) (by repeat constructor) (by rfl) (by rfl) | exact rv_cellA (by rfl) (by repeat constructor) (by rfl) (by rfl) zlq)); exact zml; exact zkp; exact ⟨congrArg (fun x => Value.tuple #[.int .i64 x, .int .i64 0]) (by first | omega | (split <;> omega)), rfl, rfl⟩)
    · rw [if_neg h0] at hr ⊢
      clear hV hV2 h
      refine Ct.enterV (by rfl) Tryz.func41 rfl Tryz.ntmps41 rfl (fun w0 Rest => ?_)
      (repeat' (first | refine zss ?_ | ((first | (with_reducible first | apply At.val | apply AtQ.val)); (exact zprA); exact rfl) | refine zs0 ?_ | ((with_reducible first | apply AtM1.callp | apply AtQ.callp | apply At.callp); kernel_rfl; exact rfl; exact rfl; exact m1) | ((with_reducible first | apply AtM1.callp | apply AtQ.callp | apply At.callp); kernel_rfl; exact rfl; exact rfl; exact m2) | (refine zsp ?_ ?_ <;> (intro hc; (try simp only [zhcs, reduceCtorEq] at hc); (try (exfalso; first | omega | contradiction | omega | exact absurd rfl hc | exact absurd (by decide) hc))))))
      all_goals ((with_reducible apply At.retV (B := [])); exact rfl; (repeat' (first | exact RVs.nil | (with_reducible apply RVs.cons) | exact rv_tmp (by rfl) | exact rv_cellN (by rfl) (by repeat constructor) (by rfl) (by rfl) (by rfl) | exact rv_cell1 (by rfl) (by repeat constructor) (by rfl) (by rfl) | exact rv_cellA (by rfl) (by repeat constructor) (by rfl) (by rfl) zlq)); exact zml; exact zkp; exact ⟨congrArg (fun x => Value.tuple #[.int .i64 x, .int .i64 0]) (by first | omega | (split <;> omega)), rfl, rfl⟩)
def ofV (num den : Nat) (l : List (Nat × Nat)) : (Nat × Nat) × Int := if chkL l ≠ 0 then ((0, 0), chkL l) else if (rkV l.length num den).2 ≠ 0 then ((0, 0), 1) else ((srt l)[(rkV l.length num den).1.toNat - 1]!, 0)
theorem rkV_no {n : Int} {num den : Nat} (h : (rkV n num den).2 ≠ 0) : rkV n num den = (0, 1) := by
  unfold rkV at h ⊢
  split
  · rfl
  · rename_i k
    rw [if_neg k] at h
    exact absurd rfl h
theorem rkV_yes {n : Int} {num den : Nat} (h : (rkV n num den).2 = 0) : ∃ K : Nat, rkV n num den = (((K + 1 : Nat) : Int), 0) ∧ ((K + 1 : Nat) : Int) ≤ n := by
  unfold rkV at h ⊢
  by_cases k : n < 1 ∨ den = 0 ∨ num > den
  · rw [if_pos k] at h; exact absurd h (by decide)
  · rw [if_neg k]
    have h1 := rk_one n.toNat num den
    have h2 := rk_le (n := n.toNat) (num := num) (den := den) (by omega) (by omega) (by omega)
    exact ⟨rk n.toNat num den - 1, by rw [show rk n.toNat num den - 1 + 1 = rk n.toNat num den by omega], by omega⟩
theorem fv0 : fv (0, 0) = .agg #[.int .u64 0, .int .u64 0, .int .u64 0, .int .u64 0] := by rfl
theorem none_v (w : Int) : Value.tuple #[.agg #[.int .u64 0, .int .u64 0, .int .u64 0, .int .u64 0], .int .i64 w] = .tuple #[fv ((0, 0), w).1, .int .i64 ((0, 0), w).2] := by
  show _ = Value.tuple #[fv (0, 0), .int .i64 w]
  rw [fv0]
theorem of_q {m : Mem} (ht : Ra.TZ m) (num den : Nat) (h1 : num < 18446744073709551616) (h2 : den < 18446744073709551616) (p : Option Addr) (c : Nat) (l : List (Nat × Nat)) (hl : l.length ≤ 1000000) (hb : ∀ x ∈ l, In2 x) (sl0 : Sl m fd 4 p c l) :
    Ct Tryz.prog 11 #[.int .u64 (num : Int), .int .u64 (den : Int), .slice p l.length c] m [] (fun v m' B => v = .tuple #[fv (ofV num den l).1, .int .i64 (ofV num den l).2] ∧ m = m' ∧ B = []) := by
  have k1 := fun (m' : Mem) (hm' : m.le m') => sort_ (m := m') (ht.mono hm') p c l hl hb (sl0.mono hm')
  have k2 := rank_ (l.length : Int) (by omega) num den h1 h2
  unfold ofV
  unfold outS at k1
  by_cases hk : chkL l = 0
  · rw [hk, if_pos rfl] at k1
    rw [hk, if_neg (fun e => e rfl)]
    have hn := srt_len l
    have hR : rkV ((srt l).length : Nat) num den = rkV l.length num den := by rw [hn]
    rw [← hn, hR] at k2
    clear hR
    generalize srt l = X at *
    by_cases hr : (rkV l.length num den).2 = 0
    · obtain ⟨K, eK, hK⟩ := rkV_yes hr
      rw [eK] at k2 ⊢
      rw [if_neg (fun e => e rfl)]
      have hw : IntKind.wrap .i64 (((K + 1 : Nat) : Int) - 1) = (K : Int) := by rw [show ((K + 1 : Nat) : Int) - 1 = (K : Int) by omega]; exact IntWalk.i64_in _ (by omega)
      rw [show ((((K + 1 : Nat) : Int), (0 : Int)).1).toNat - 1 = K from rfl]
      clear eK hr
      refine Ct.enterV (by rfl) Tryz.func11 rfl Tryz.ntmps11 rfl (fun w0 Rest => ?_)
      (repeat' (first | refine zss ?_ | ((first | (with_reducible first | apply At.val | apply AtQ.val)); (first | exact pr_sub (by rfl) (by rfl) hw | exact zprA); exact rfl) | refine zsOM ?_ | ((with_reducible first | apply At.c1 | apply At.c0); exact rfl; exact rfl; exact k1 _ zml; exact ztk; kernel_rfl; rintro v' m' B' hm' ⟨rfl, p1, c1, rfl, rfl⟩; (try replace sl0 := sl0.mono hm'); (try (have hq0 : hm' = Mem.le_refl _ := rfl; clear hq0 hm'))) | ((with_reducible first | apply AtM1.callp | apply AtQ.callp | apply At.callp); kernel_rfl; exact rfl; exact rfl; exact k2) | ((with_reducible apply At.alloc (d := 6)); exact rfl; exact rfl; intro b6) | (refine zsp ?_ ?_ <;> (intro hc; (try simp only [zhcs, reduceCtorEq] at hc); (try (exfalso; first | omega | contradiction | omega | exact absurd rfl hc | exact absurd (by decide) hc))))))
      all_goals ((with_reducible apply At.retV (B := [])); exact rfl; (repeat' (first | exact RVs.nil | (with_reducible apply RVs.cons) | exact rv_tmp (by rfl) | exact rv_cellN (by rfl) (by repeat constructor) (by rfl) (by rfl) (by rfl) | exact rv_cell1 (by rfl) (by repeat constructor) (by rfl) (by rfl) | exact rv_cellA (by rfl) (by repeat constructor) (by rfl) (by rfl) zlq)); exact zml; exact zkp; exact ⟨rfl, rfl, rfl⟩)
    · rw [rkV_no hr] at k2
      rw [if_pos hr]
      refine Ct.enterV (by rfl) Tryz.func11 rfl Tryz.ntmps11 rfl (fun w0 Rest => ?_)
      (repeat' (first | refine zss ?_ | ((first | (with_reducible first | apply At.val | apply AtQ.val)); (exact zprA); exact rfl) | refine zsOM ?_ | ((with_reducible first | apply At.c1 | apply At.c0); exact rfl; exact rfl; exact k1 _ zml; exact ztk; kernel_rfl; rintro v' m' B' hm' ⟨rfl, p1, c1, rfl, rfl⟩; (try replace sl0 := sl0.mono hm'); (try (have hq0 : hm' = Mem.le_refl _ := rfl; clear hq0 hm'))) | ((with_reducible first | apply AtM1.callp | apply AtQ.callp | apply At.callp); kernel_rfl; exact rfl; exact rfl; exact k2) | ((with_reducible apply At.alloc (d := 6)); exact rfl; exact rfl; intro b6) | (refine zsp ?_ ?_ <;> (intro hc; (try simp only [zhcs, reduceCtorEq] at hc); (try (exfalso; first | omega | contradiction | omega | exact absurd rfl hc | exact absurd (by decide) hc))))))
      all_goals ((with_reducible apply At.retV (B := [])); exact rfl; (repeat' (first | exact RVs.nil | (with_reducible apply RVs.cons) | exact rv_tmp (by rfl) | exact rv_cellN (by rfl) (by repeat constructor) (by rfl) (by rfl) (by rfl) | exact rv_cell1 (by rfl) (by repeat constructor) (by rfl) (by rfl) | exact rv_cellA (by rfl) (by repeat constructor) (by rfl) (by rfl) zlq)); exact zml; exact zkp; exact ⟨rfl, rfl, rfl⟩)
  · rw [if_neg hk] at k1
    rw [if_pos hk]
    generalize chkL l = w at *
    refine Ct.enterV (by rfl) Tryz.func11 rfl Tryz.ntmps11 rfl (fun w0 Rest => ?_)
    (repeat' (first | refine zss ?_ | ((first | (with_reducible first | apply At.val | apply AtQ.val)); (exact zprA); exact rfl) | refine zsOM ?_ | ((with_reducible first | apply At.c1 | apply At.c0); exact rfl; exact rfl; exact k1 _ zml; exact ztk; kernel_rfl; rintro v' m' B' hm' ⟨rfl, p1, c1, rfl, rfl⟩; (try replace sl0 := sl0.mono hm'); (try (have hq0 : hm' = Mem.le_refl _ := rfl; clear hq0 hm'))) | ((with_reducible apply At.alloc (d := 6)); exact rfl; exact rfl; intro b6) | (refine zsp ?_ ?_ <;> (intro hc; (try simp only [zhcs, reduceCtorEq] at hc); (try (exfalso; first | (first | omega | exact absurd hc hk) | contradiction | omega | exact absurd rfl hc | exact absurd (by decide) hc))))))
    all_goals ((with_reducible apply At.retV (B := [])); exact rfl; (repeat' (first | exact RVs.nil | (with_reducible apply RVs.cons) | exact rv_tmp (by rfl) | exact rv_cellN (by rfl) (by repeat constructor) (by rfl) (by rfl) (by rfl) | exact rv_cell1 (by rfl) (by repeat constructor) (by rfl) (by rfl) | exact rv_cellA (by rfl) (by repeat constructor) (by rfl) (by rfl) zlq)); exact zml; exact zkp; exact ⟨none_v w, rfl, rfl⟩)
def shV (f : Nat × Nat) (l : List (Nat × Nat)) : (Nat × Nat) × Int := if chkL [f] ≠ 0 then ((0, 0), chkL [f]) else if chkL l ≠ 0 then ((0, 0), chkL l) else if l.length = 0 then ((0, 0), 3) else Ra.red (cnt f l) l.length
theorem openC {m : Mem} (ht : Ra.TZ m) (p : Option Addr) (c n k : Nat) (l o : List (Nat × Nat)) (w : Int) (hn : l.length = n) (hl : l.length ≤ 1000000) (hb : ∀ x ∈ l, In2 x) (ho : outO l = o) (hw : chkL l = w) (hk : o.length = k) (sl0 : Sl m fd 4 p c l) :
    Ct Tryz.prog 71 #[.slice p n c] m [] (fun v m' B => m = m' ∧ ∃ p' c', v = .tuple #[.slice p' k c', .int .i64 w] ∧ B = [.own sm 2 157 p' c' o]) := by
  subst hn ho hw hk
  exact open_ ht p c l hl hb sl0
theorem cnt_snoc {f : Nat × Nat} {l : List (Nat × Nat)} {i : Nat} (h : i < l.length) : cnt f (l.take (i + 1)) = cnt f (l.take i) + (if lq l[i]! f = true then 1 else 0) := by
  unfold cnt
  rw [Ls.take_snoc h, List.filter_append, List.length_append]
  congr 1
  by_cases e : lq l[i]! f = true
  · rw [if_pos e, List.filter_cons_of_pos (p := fun y => lq y f) e]; rfl
  · rw [if_neg e, List.filter_cons_of_neg (p := fun y => lq y f) e]; rfl
theorem cfi_lq (y f : Nat × Nat) : (cfi y f ≤ 0) ↔ lq y f = true := by
  unfold cfi lq
  rw [decide_eq_true_eq]
  split
  · omega
  · split <;> omega
structure SK where
  (i n : Nat)
theorem share_ {m : Mem} (ht : Ra.TZ m) (f : Nat × Nat) (hf : In2 f) (p : Option Addr) (c : Nat) (l : List (Nat × Nat)) (hl : l.length ≤ 1000000) (hb : ∀ x ∈ l, In2 x) (sl0 : Sl m fd 4 p c l) :
    Ct Tryz.prog 32 #[fv f, .slice p l.length c] m [] (fun v m' B => v = .tuple #[fv (shV f l).1, .int .i64 (shV f l).2] ∧ m.le m' ∧ B = []) := by
  have hb1 : ∀ x ∈ [f], In2 x := fun x hx => by rw [List.mem_singleton.1 hx]; exact hf
  have k1 := fun (m' : Mem) (hm' : m.le m') (p : Option Addr) (c : Nat) => openC (m := m') (ht.mono hm') p c 1 (outO [f]).length [f] (outO [f]) (chkL [f]) rfl (show 1 ≤ 1000000 by decide) hb1 rfl rfl rfl
  have k2 := fun (m' : Mem) (hm' : m.le m') => open_ (m := m') (ht.mono hm') p c l hl hb (sl0.mono hm')
  unfold shV
  unfold outO at k1 k2
  by_cases hk : chkL [f] = 0
  rotate_left
  · rw [if_neg hk] at k1
    rw [if_pos hk]
    generalize chkL [f] = w at *
    refine Ct.enterV (by rfl) Tryz.func32 rfl Tryz.ntmps32 rfl (fun w0 Rest => ?_)
    (repeat' (first | refine zss ?_ | ((first | (with_reducible first | apply At.val | apply AtQ.val)); (exact zprA); exact rfl) | refine zsOM ?_ | ((with_reducible apply At.litF fd [f]); exact inferInstance; (iterate 7 exact rfl); intro b' m' hm' sl5; (try replace sl0 := sl0.mono hm')) | ((with_reducible first | apply At.c1 | apply At.c0); exact rfl; exact rfl; exact k1 _ zml _ _ sl5; exact ztk; kernel_rfl; rintro v' m' B' hm' ⟨rfl, p1, c1, rfl, rfl⟩; (try replace sl0 := sl0.mono hm'); (try replace sl5 := sl5.mono hm'); (try (have hq0 : hm' = Mem.le_refl _ := rfl; clear hq0 hm'))) | ((with_reducible apply At.box (d := 2)); exact rfl; exact rfl; exact rfl; intro b2) | ((with_reducible apply At.alloc (d := 4)); exact rfl; exact rfl; intro b4) | ((with_reducible apply At.alloc (d := 11)); exact rfl; exact rfl; intro b11) | (refine zsp ?_ ?_ <;> (intro hc; (try simp only [zhcs, reduceCtorEq] at hc); (try (exfalso; first | (first | omega | exact absurd hc hk) | contradiction | omega | exact absurd rfl hc | exact absurd (by decide) hc))))))
    all_goals ((with_reducible apply At.retV (B := [])); exact rfl; (repeat' (first | exact RVs.nil | (with_reducible apply RVs.cons) | exact rv_tmp (by rfl) | exact rv_cellN (by rfl) (by repeat constructor) (by rfl) (by rfl) (by rfl) | exact rv_cell1 (by rfl) (by repeat constructor) (by rfl) (by rfl) | exact rv_cellA (by rfl) (by repeat constructor) (by rfl) (by rfl) zlq)); exact zml; exact zkp; exact ⟨none_v w, zml, rfl⟩)
  have hsf := chkL_ok hk f (List.mem_singleton.2 rfl)
  rw [hk, if_pos rfl] at k1
  rw [hk, if_neg (fun e => e rfl)]
  rw [show [f].length = 1 from rfl] at k1
  by_cases hk2 : chkL l = 0
  rotate_left
  · rw [if_neg hk2] at k2
    rw [if_pos hk2]
    generalize chkL l = w at *
    refine Ct.enterV (by rfl) Tryz.func32 rfl Tryz.ntmps32 rfl (fun w0 Rest => ?_)
    (repeat' (first | refine zss ?_ | ((first | (with_reducible first | apply At.val | apply AtQ.val)); (exact zprA); exact rfl) | refine zsOM ?_ | ((with_reducible apply At.litF fd [f]); exact inferInstance; (iterate 7 exact rfl); intro b' m' hm' sl5; (try replace sl0 := sl0.mono hm')) | ((with_reducible first | apply At.c1 | apply At.c0); exact rfl; exact rfl; exact k1 _ zml _ _ sl5; exact ztk; kernel_rfl; rintro v' m' B' hm' ⟨rfl, p1, c1, rfl, rfl⟩; (try replace sl0 := sl0.mono hm'); (try replace sl5 := sl5.mono hm'); (try (have hq0 : hm' = Mem.le_refl _ := rfl; clear hq0 hm'))) | ((with_reducible first | apply At.c1 | apply At.c0); exact rfl; exact rfl; exact k2 _ zml; exact ztk; kernel_rfl; rintro v' m' B' hm' ⟨rfl, p2, c2, rfl, rfl⟩; (try replace sl0 := sl0.mono hm'); (try replace sl5 := sl5.mono hm'); (try (have hq0 : hm' = Mem.le_refl _ := rfl; clear hq0 hm'))) | ((with_reducible apply At.box (d := 2)); exact rfl; exact rfl; exact rfl; intro b2) | ((with_reducible apply At.alloc (d := 4)); exact rfl; exact rfl; intro b4) | ((with_reducible apply At.alloc (d := 11)); exact rfl; exact rfl; intro b11) | (refine zsp ?_ ?_ <;> (intro hc; (try simp only [zhcs, reduceCtorEq] at hc); (try (exfalso; first | (first | omega | exact absurd hc hk2) | contradiction | omega | exact absurd rfl hc | exact absurd (by decide) hc))))))
    all_goals ((with_reducible apply At.retV (B := [])); exact rfl; (repeat' (first | exact RVs.nil | (with_reducible apply RVs.cons) | exact rv_tmp (by rfl) | exact rv_cellN (by rfl) (by repeat constructor) (by rfl) (by rfl) (by rfl) | exact rv_cell1 (by rfl) (by repeat constructor) (by rfl) (by rfl) | exact rv_cellA (by rfl) (by repeat constructor) (by rfl) (by rfl) zlq)); exact zml; exact zkp; exact ⟨none_v w, zml, rfl⟩)
  have hsl := chkL_ok hk2
  rw [hk2, if_pos rfl] at k2
  rw [hk2, if_neg (fun e => e rfl)]
  by_cases h0 : l.length = 0
  · rw [if_pos h0]
    refine Ct.enterV (by rfl) Tryz.func32 rfl Tryz.ntmps32 rfl (fun w0 Rest => ?_)
    (repeat' (first | refine zss ?_ | ((first | (with_reducible first | apply At.val | apply AtQ.val)); (exact zprA); exact rfl) | refine zsOM ?_ | ((with_reducible apply At.litF fd [f]); exact inferInstance; (iterate 7 exact rfl); intro b' m' hm' sl5; (try replace sl0 := sl0.mono hm')) | ((with_reducible first | apply At.c1 | apply At.c0); exact rfl; exact rfl; exact k1 _ zml _ _ sl5; exact ztk; kernel_rfl; rintro v' m' B' hm' ⟨rfl, p1, c1, rfl, rfl⟩; (try replace sl0 := sl0.mono hm'); (try replace sl5 := sl5.mono hm'); (try (have hq0 : hm' = Mem.le_refl _ := rfl; clear hq0 hm'))) | ((with_reducible first | apply At.c1 | apply At.c0); exact rfl; exact rfl; exact k2 _ zml; exact ztk; kernel_rfl; rintro v' m' B' hm' ⟨rfl, p2, c2, rfl, rfl⟩; (try replace sl0 := sl0.mono hm'); (try replace sl5 := sl5.mono hm'); (try (have hq0 : hm' = Mem.le_refl _ := rfl; clear hq0 hm'))) | ((with_reducible apply At.box (d := 2)); exact rfl; exact rfl; exact rfl; intro b2) | ((with_reducible apply At.alloc (d := 4)); exact rfl; exact rfl; intro b4) | ((with_reducible apply At.alloc (d := 11)); exact rfl; exact rfl; intro b11) | (refine zsp ?_ ?_ <;> (intro hc; (try simp only [zhcs, reduceCtorEq] at hc); (try (exfalso; first | omega | contradiction | omega | exact absurd rfl hc | exact absurd (by decide) hc))))))
    all_goals ((with_reducible apply At.retV (B := [])); exact rfl; (repeat' (first | exact RVs.nil | (with_reducible apply RVs.cons) | exact rv_tmp (by rfl) | exact rv_cellN (by rfl) (by repeat constructor) (by rfl) (by rfl) (by rfl) | exact rv_cell1 (by rfl) (by repeat constructor) (by rfl) (by rfl) | exact rv_cellA (by rfl) (by repeat constructor) (by rfl) (by rfl) zlq)); exact zml; exact zkp; exact ⟨rfl, zml, rfl⟩)
  rw [if_neg h0]
  have hcl := cnt_le f l
  have k3 := fun (m' : Mem) (hm' : m.le m') => Ra.reduce (m := m') (ht.mono hm') (cnt f l) l.length (by omega) (by omega)
  have k4 := of_ (cnt f l) (by omega)
  have k5 := of_ l.length (by omega)
  generalize Ra.red (cnt f l) l.length = R at *
  refine Ct.enterV (by rfl) Tryz.func32 rfl Tryz.ntmps32 rfl (fun w0 Rest => ?_)
  (repeat' (first | refine zss ?_ | ((first | (with_reducible first | apply At.val | apply AtQ.val)); (exact zprA); exact rfl) | refine zsOM ?_ | ((with_reducible apply At.litF fd [f]); exact inferInstance; (iterate 7 exact rfl); intro b' m' hm' sl5; (try replace sl0 := sl0.mono hm')) | ((with_reducible first | apply At.c1 | apply At.c0); exact rfl; exact rfl; exact k1 _ zml _ _ sl5; exact ztk; kernel_rfl; rintro v' m' B' hm' ⟨rfl, p1, c1, rfl, rfl⟩; (try replace sl0 := sl0.mono hm'); (try replace sl5 := sl5.mono hm'); (try (have hq0 : hm' = Mem.le_refl _ := rfl; clear hq0 hm'))) | ((with_reducible first | apply At.c1 | apply At.c0); exact rfl; exact rfl; exact k2 _ zml; exact ztk; kernel_rfl; rintro v' m' B' hm' ⟨rfl, p2, c2, rfl, rfl⟩; (try replace sl0 := sl0.mono hm'); (try replace sl5 := sl5.mono hm'); (try (have hq0 : hm' = Mem.le_refl _ := rfl; clear hq0 hm'))) | ((with_reducible apply At.box (d := 2)); exact rfl; exact rfl; exact rfl; intro b2) | ((with_reducible apply At.alloc (d := 4)); exact rfl; exact rfl; intro b4) | ((with_reducible apply At.alloc (d := 11)); exact rfl; exact rfl; intro b11) | (refine zsp ?_ ?_ <;> (intro hc; (try simp only [zhcs, reduceCtorEq] at hc); (try (exfalso; first | omega | contradiction | omega | exact absurd rfl hc | exact absurd (by decide) hc))))))
  have k3' := fun (m2 : Mem) (h : m'.le m2) => k3 m2 (Mem.le_trans (by assumption) h)
  clear k1 k2 k3 hk hk2 hb hb1 hf
  (refine At.loopk (σ := SK) [4, 6, 8, 35, 36] (fun s F0 => (37, .int .i64 (s.i : Int)) :: (9, .int .i64 (s.n : Int)) :: F0) (fun s => m') (fun s => .blk b4 43 [.int .u64 0, .int .u64 0, .int .u64 0, .int .u64 0] :: .own sm 2 157 p1 c1 [f] :: .own sm 2 157 p2 c2 l :: Rest) (fun s => s.i ≤ l.length ∧ s.n = cnt f (l.take s.i)) (fun s => l.length - s.i) ⟨0, 0⟩ (by rfl) ?_ zsubs zml zente ?_)
  · exact ⟨Nat.zero_le _, rfl⟩
  rintro ⟨i, n⟩ ⟨hi, hn⟩
  dsimp only at hi hn ⊢
  by_cases h : i < l.length
  · have e1 := cnt_snoc (f := f) h
    rw [← hn] at e1
    have hcn := cnt_le f (l.take i)
    rw [← hn, List.length_take] at hcn
    have k6 := compare_ l[i]! f (hsl _ (Ls.mem! h)) hsf
    have hcf := cfi_lq l[i]! f
    generalize cfi l[i]! f = r at k6 hcf
    by_cases hq : lq l[i]! f = true
    · rw [if_pos hq] at e1
      have hr := hcf.2 hq
      clear hcf hsl hsf k3' k4 k5 hcl
      (repeat' (first | refine zss ?_ | ((first | (with_reducible first | apply At.val | apply AtQ.val)); (exact zprA); exact rfl) | refine zsO ?_ | ((with_reducible first | apply AtM1.callp | apply AtQ.callp | apply At.callp); kernel_rfl; exact rfl; exact rfl; exact k6) | ((with_reducible apply At.box (d := 2)); exact rfl; exact rfl; exact rfl; intro b2) | ((with_reducible apply At.alloc (d := 4)); exact rfl; exact rfl; intro b4) | ((with_reducible apply At.alloc (d := 11)); exact rfl; exact rfl; intro b11) | (refine zsp ?_ ?_ <;> (intro hc; (try simp only [zhcs, reduceCtorEq] at hc); (try (exfalso; first | omega | contradiction | omega | exact absurd rfl hc | exact absurd (by decide) hc))))))
      all_goals ((with_reducible refine At.reachk (⟨i + 1, n + 1⟩) ?_ ?_ ?_ ?_); exact zsubs; exact zml; exact zente; exact ⟨⟨h, e1.symm⟩, by dsimp only; omega⟩)
    · rw [if_neg hq] at e1
      have hr : ¬ r ≤ 0 := fun e => hq (hcf.1 e)
      clear hcf hsl hsf k3' k4 k5 hcl
      (repeat' (first | refine zss ?_ | ((first | (with_reducible first | apply At.val | apply AtQ.val)); (exact zprA); exact rfl) | refine zsO ?_ | ((with_reducible first | apply AtM1.callp | apply AtQ.callp | apply At.callp); kernel_rfl; exact rfl; exact rfl; exact k6) | ((with_reducible apply At.box (d := 2)); exact rfl; exact rfl; exact rfl; intro b2) | ((with_reducible apply At.alloc (d := 4)); exact rfl; exact rfl; intro b4) | ((with_reducible apply At.alloc (d := 11)); exact rfl; exact rfl; intro b11) | (refine zsp ?_ ?_ <;> (intro hc; (try simp only [zhcs, reduceCtorEq] at hc); (try (exfalso; first | omega | contradiction | omega | exact absurd rfl hc | exact absurd (by decide) hc))))))
      all_goals ((with_reducible refine At.reachk (⟨i + 1, n⟩) ?_ ?_ ?_ ?_); exact zsubs; exact zml; exact zente; exact ⟨⟨h, e1.symm⟩, by dsimp only; omega⟩)
  · rw [List.take_of_length_le (by omega)] at hn
    subst hn
    clear hsl hsf hi
    (repeat' (first | refine zss ?_ | ((first | (with_reducible first | apply At.val | apply AtQ.val)); (exact zprA); exact rfl) | refine zsO ?_ | ((with_reducible first | apply AtM1.callp | apply AtQ.callp | apply At.callp); kernel_rfl; exact rfl; exact rfl; exact k4) | ((with_reducible first | apply AtM1.callp | apply AtQ.callp | apply At.callp); kernel_rfl; exact rfl; exact rfl; exact k5) | ((with_reducible first | apply AtM1.cr | apply AtQ.cr | apply At.cr); exact rfl; exact rfl; exact fun _ hmm => k3' _ hmm; exact ztk; kernel_rfl) | fail | ((with_reducible apply At.box (d := 2)); exact rfl; exact rfl; exact rfl; intro b2) | ((with_reducible apply At.alloc (d := 4)); exact rfl; exact rfl; intro b4) | ((with_reducible apply At.alloc (d := 11)); exact rfl; exact rfl; intro b11) | (refine zsp ?_ ?_ <;> (intro hc; (try simp only [zhcs, reduceCtorEq] at hc); (try (exfalso; first | omega | contradiction | omega | exact absurd rfl hc | exact absurd (by decide) hc))))))
    all_goals ((with_reducible apply At.retV (B := [])); exact rfl; (repeat' (first | exact RVs.nil | (with_reducible apply RVs.cons) | exact rv_tmp (by rfl) | exact rv_cellN (by rfl) (by repeat constructor) (by rfl) (by rfl) (by rfl) | exact rv_cell1 (by rfl) (by repeat constructor) (by rfl) (by rfl) | exact rv_cellA (by rfl) (by repeat constructor) (by rfl) (by rfl) zlq)); exact zml; exact zkp; exact ⟨rfl, zml, rfl⟩)
end Qu
end Go.Proofs.YtkoijdmlehkhbaaGreatDoor
namespace Go.Proofs.YtkoijdmlehkhbaaGreatDoor
namespace Qu
def lt (x y : Nat × Nat) : Bool := decide (x.1 * y.2 < y.1 * x.2)
theorem lt_lq (x y : Nat × Nat) : lt x y = !lq y x := by
  unfold lt lq
  by_cases h : x.1 * y.2 < y.1 * x.2
  · rw [decide_eq_true h, decide_eq_false (by omega)]; rfl
  · rw [decide_eq_false h, decide_eq_true (by omega)]; rfl
theorem nlt_lq (x y : Nat × Nat) : (!lt x y) = lq y x := by rw [lt_lq, Bool.not_not]
theorem lq_self (x : Nat × Nat) : lq x x = true := by have := lq_total x x; rwa [Bool.or_self] at this
/-- those that are not greater are those that are less, and those that are just so -/
theorem cnt_split {f : Nat × Nat} (hf : Sm f) : ∀ l : List (Nat × Nat), (∀ p ∈ l, Sm p) →
    cnt f l + (l.filter fun y => !lt y f).length = l.length + (l.filter fun y => decide (y = f)).length
  | [], _ => rfl
  | y :: l, h => by
    have k := cnt_split hf l fun p hp => h p (List.mem_cons_of_mem _ hp)
    have hy := h y (List.mem_cons_self ..)
    have k1 : ∀ (p : Nat × Nat → Bool), ((y :: l).filter p).length = (if p y = true then 1 else 0) + (l.filter p).length := fun p => by
      rw [List.filter_cons]
      by_cases hp : p y = true
      · rw [if_pos hp, if_pos hp, List.length_cons]; omega
      · rw [if_neg hp, if_neg hp]; omega
    unfold cnt at k ⊢
    rw [k1, k1, k1, List.length_cons]
    simp only [nlt_lq, decide_eq_true_eq] at k ⊢
    by_cases h1 : lq y f = true
    · by_cases h2 : lq f y = true
      · rw [if_pos h1, if_pos h2, if_pos (lq_anti hy hf h1 h2)]; omega
      · have h3 : ¬ y = f := fun e => h2 (e ▸ lq_self y)
        rw [if_pos h1, if_neg h2, if_neg h3]; omega
    · have h2 : lq f y = true := lq_not (Bool.eq_false_iff.2 h1)
      have h3 : ¬ y = f := fun e => h1 (e ▸ lq_self y)
      rw [if_neg h1, if_pos h2, if_neg h3]; omega
theorem filter_srt (p : Nat × Nat → Bool) (l : List (Nat × Nat)) : ((srt l).filter p).length = (l.filter p).length := ((srt_perm l).filter p).length_eq
end Qu
end Go.Proofs.YtkoijdmlehkhbaaGreatDoor
namespace Go.Proofs.YtkoijdmlehkhbaaGreatDoor
open Go Go.J
attribute [local irreducible] At AtQ AtM AtM1 PR Ct Pu Rd Res.blk Res.own Res.ex RVs RV
namespace Qu
open Wide
theorem Rd.of_le {P : Program} {f : FuncId} {a : Array Value} {m : Mem} {V : Value} (h : Ct P f a m [] (fun v m' B => v = V ∧ m.le m' ∧ B = [])) : Rd P f a m [] V := by
  unfold Rd
  exact Ct.forget h fun _ _ _ _ ⟨h1, _, h3⟩ => ⟨h1, rfl, h3⟩
theorem Rd.of_eq {P : Program} {f : FuncId} {a : Array Value} {m : Mem} {V : Value} (h : Ct P f a m [] (fun v m' B => v = V ∧ m = m' ∧ B = [])) : Rd P f a m [] V := by
  unfold Rd
  exact Ct.mono h fun _ _ _ _ ⟨h1, h2, h3⟩ => ⟨h1, h2.symm, h3⟩
theorem andL_app : ∀ a b : List Bool, andL (a ++ b) = (andL a && andL b)
  | [], b => by simp [andL]
  | x :: a, b => by
    rw [List.cons_append, andL_cons, andL_app a b, andL_cons, Bool.and_assoc]
theorem fr_dec (x y : Nat × Nat) : decide (x = y) = andL [decide (((x.1 / 18446744073709551616 : Nat) : Int) = ((y.1 / 18446744073709551616 : Nat) : Int)), decide (((x.1 % 18446744073709551616 : Nat) : Int) = ((y.1 % 18446744073709551616 : Nat) : Int)), decide (((x.2 / 18446744073709551616 : Nat) : Int) = ((y.2 / 18446744073709551616 : Nat) : Int)), decide (((x.2 % 18446744073709551616 : Nat) : Int) = ((y.2 % 18446744073709551616 : Nat) : Int))] := by
  have e : decide (x = y) = (decide (x.1 = y.1) && decide (x.2 = y.2)) := by
    rw [← Bool.decide_and]
    exact decide_eq_decide.2 Prod.ext_iff
  rw [e, Ra.wd_dec x.1 y.1, Ra.wd_dec x.2 y.2, ← andL_app]
  rfl
theorem pr_feq {n : Nat} {F : Fr} {C : World → Prop} {x y : Operand} {u : TypeId} {a b : Nat × Nat} (hx : ev F x = some (fv a)) (hy : ev F y = some (fv b)) : PR Tryz.prog n F C (.binOp .eql 43 x y u) (.bool (decide (a = b))) := by
  rw [fr_dec]
  exact pr_aggeq2 hx hy (by rfl) (by kernel_rfl) (by kernel_rfl) (by rfl)
theorem les_sm {a b : Nat × Nat} (ha : Sm a) (hb : Sm b) : Ra.les a.1 a.2 b.1 b.2 = (decide (a.1 * b.2 < b.1 * a.2), 0) := by
  have h1 : Ra.chk a.1 a.2 = 0 := Classical.byContradiction fun e => absurd (sm_chk ha).1 (by unfold bad; rw [decide_eq_true e]; decide)
  have h2 : Ra.chk b.1 b.2 = 0 := Classical.byContradiction fun e => absurd (sm_chk hb).1 (by unfold bad; rw [decide_eq_true e]; decide)
  have h3 : a.1 * b.2 < 340282366920938463463374607431768211456 := Nat.lt_of_lt_of_le (Nat.mul_lt_mul'' ha.1 hb.2.1) (by decide)
  have h4 : b.1 * a.2 < 340282366920938463463374607431768211456 := Nat.lt_of_lt_of_le (Nat.mul_lt_mul'' hb.1 ha.2.1) (by decide)
  have h5 : sE (a.1 * b.2) = 0 := if_pos h3
  have h6 : sE (b.1 * a.2) = 0 := if_pos h4
  unfold Ra.les
  rw [if_neg (by rintro (k | k); exact k h1; exact k h2), if_neg (by rintro (k | k); exact k h5; exact k h6)]
theorem sm_in {a : Nat × Nat} (h : Sm a) : In2 a := by
  have h1 := h.1
  have h2 := h.2.1
  exact ⟨by unfold In; omega, by unfold In; omega⟩
theorem sortC {m : Mem} (ht : Ra.TZ m) (p : Option Addr) (c n k : Nat) (l o : List (Nat × Nat)) (w : Int) (hn : l.length = n) (hl : l.length ≤ 1000000) (hb : ∀ x ∈ l, In2 x) (ho : outS l = o) (hw : chkL l = w) (hk : o.length = k) (sl0 : Sl m fd 4 p c l) :
    Ct Tryz.prog 31 #[.slice p n c] m [] (fun v m' B => B = [] ∧ ∃ p c, v = .tuple #[.slice p k c, .int .i64 w] ∧ Sl m' fd 4 p c o) := by
  subst hn ho hw hk
  exact Ct.slice (R := fun v p' c' => v = .tuple #[.slice p' (outS l).length c', .int .i64 (chkL l)]) inferInstance (Ct.mono (sort_ ht p c l hl hb sl0) fun v m' B _ ⟨_, p', c', h1, h2⟩ => ⟨p', c', h1, h2⟩)
theorem ofC {m : Mem} (ht : Ra.TZ m) (num den : Nat) (h1 : num < 18446744073709551616) (h2 : den < 18446744073709551616) (p : Option Addr) (c n : Nat) (l : List (Nat × Nat)) (hn : l.length = n) (hl : l.length ≤ 1000000) (hb : ∀ x ∈ l, In2 x) (sl0 : Sl m fd 4 p c l) :
    Rd Tryz.prog 11 #[.int .u64 (num : Int), .int .u64 (den : Int), .slice p n c] m [] (.tuple #[fv (ofV num den l).1, .int .i64 (ofV num den l).2]) := by
  subst hn
  exact Rd.of_eq (of_q ht num den h1 h2 p c l hl hb sl0)
theorem shareC {m : Mem} (ht : Ra.TZ m) (f : Nat × Nat) (hf : In2 f) (p : Option Addr) (c n : Nat) (l : List (Nat × Nat)) (hn : l.length = n) (hl : l.length ≤ 1000000) (hb : ∀ x ∈ l, In2 x) (sl0 : Sl m fd 4 p c l) :
    Rd Tryz.prog 32 #[fv f, .slice p n c] m [] (.tuple #[fv (shV f l).1, .int .i64 (shV f l).2]) := by
  subst hn
  exact Rd.of_le (share_ ht f hf p c l hl hb sl0)
theorem les_lt {a b : Nat × Nat} (ha : Sm a) (hb : Sm b) : Ra.les a.1 a.2 b.1 b.2 = (lt a b, 0) := les_sm ha hb
theorem chk_smz {a : Nat × Nat} (h : Sm a) : Ra.chk a.1 a.2 = 0 := Classical.byContradiction fun e => absurd (sm_chk h).1 (by unfold bad; rw [decide_eq_true e]; decide)
theorem of_mid {l : List (Nat × Nat)} (h : chkL l = 0) (hn : l ≠ []) : ofV 1 2 l = ((srt l)[rk l.length 1 2 - 1]!, 0) := by
  have hp : 0 < l.length := List.length_pos_iff.2 hn
  have hr : rkV l.length 1 2 = (((rk l.length 1 2 : Nat) : Int), 0) := by unfold rkV; rw [if_neg (by omega), Int.toNat_natCast]
  unfold ofV
  rw [h, if_neg (fun e => e rfl), hr, if_neg (fun e => e rfl), Int.toNat_natCast]
end Qu
end Go.Proofs.YtkoijdmlehkhbaaGreatDoor
namespace Go.Proofs.YtkoijdmlehkhbaaGreatDoor
open Go Go.J
attribute [local irreducible] At AtQ AtM AtM1 PR Ct Pu Rd Res.blk Res.own Res.ex RVs RV
namespace Qy
abbrev a3 : Ev := ⟨3, 1, 0, false⟩
abbrev b5 : Ev := ⟨5, 2, 0, false⟩
theorem may53 : Mrg.may [b5] [a3] = 0 := Mrg.may_zero.2 ⟨by decide, by decide, fun x hx y hy h => by
  rw [List.mem_singleton.1 hx, List.mem_singleton.1 hy] at h
  exact absurd h (by decide)⟩
theorem two20 {m : Mem} (pa : Option Addr) (ca : Nat) (pb : Option Addr) (cb : Nat) (sl0 : Sl m Ev.cells 4 pa ca [b5]) (sl1 : Sl m Ev.cells 4 pb cb [a3]) :
    Ct Tryz.prog 23 #[.slice pa 1 ca, .slice pb 1 cb] m [] (fun v m' B => B = [] ∧ ∃ p c, v = .tuple #[.slice p 2 c, .int .i64 0] ∧ Sl m' Ev.cells 4 p c [a3, b5]) := by
  have k := Mrg.twoP (m := m) pa ca [b5] pb cb [a3] (by decide) (by decide) sl0 sl1
  have e1 : Mrg.two [b5] [a3] = [a3, b5] := Mrg.two_eq may53 (by
    refine List.pairwise_cons.2 ⟨fun x hx => ?_, List.pairwise_singleton _ _⟩
    rw [List.mem_singleton.1 hx]; decide) fun e => by
    simp only [List.mem_cons, List.not_mem_nil, or_false]
    exact or_comm
  have e2 : Mrg.out [b5] [a3] (Mrg.two [b5] [a3]) = [a3, b5] := by rw [e1]; exact if_pos may53
  rw [e2, may53] at k
  exact k
theorem sm31 : Qu.Sm (3, 1) := ⟨by decide, by decide, by decide, by decide⟩
theorem of31 : Qu.ofV 1 2 [(3, 1)] = ((3, 1), 0) := by
  have hc : Qu.chkL [(3, 1)] = 0 := Qu.ok_chkL fun p hp => by rw [List.mem_singleton.1 hp]; exact sm31
  rw [Qu.of_mid hc (by decide)]
  have hl := Qu.srt_len [(3, 1)]
  have hm := fun p => Qu.srt_mem (l := [(3, 1)]) (p := p)
  generalize Qu.srt [(3, 1)] = r at hl hm ⊢
  match r, hl with
  | [x], _ =>
    have : x = (3, 1) := List.mem_singleton.1 ((hm x).1 (List.mem_singleton.2 rfl))
    subst this
    rfl
theorem begins20 {m : Mem} (hz : Ra.TZ m) : Rd Tryz.prog 6 #[] m [] (.bool true) := Qu.Rd.of_le (by
  have k1 := fun (m' : Mem) => two20 (m := m')
  have k2 := fun (m' : Mem) (h : m.le m') (p : Option Addr) (c : Nat) (sl0 : _) => Qu.ofC (m := m') (hz.mono h) 1 2 (by decide) (by decide) p c 1 [(3, 1)] rfl (by decide) (fun x hx => by rw [List.mem_singleton.1 hx]; exact Qu.sm_in sm31) sl0
  rw [of31] at k2
  refine Ct.enterV (by rfl) Tryz.func6 rfl Tryz.ntmps6 rfl (fun w0 Rest => ?_)
  (repeat' (first | refine zss ?_ | ((first | (with_reducible first | apply At.val | apply AtQ.val)); (exact Ev.pr_eveq (a := a3) (b := a3) (by rfl) (by rfl)); exact rfl) | refine zsM ?_ | ((with_reducible apply At.litF Ev.cells [b5]); exact inferInstance; (iterate 7 exact rfl); intro b' m' hm' sl1; (try replace sl0 := sl0.mono hm'); (try replace sl2 := sl2.mono hm'); (try replace sl3 := sl3.mono hm'); (try replace sl5 := sl5.mono hm')) | ((with_reducible apply At.litF Ev.cells [a3]); exact inferInstance; (iterate 7 exact rfl); intro b' m' hm' sl2; (try replace sl0 := sl0.mono hm'); (try replace sl1 := sl1.mono hm'); (try replace sl3 := sl3.mono hm'); (try replace sl5 := sl5.mono hm')) | ((with_reducible apply At.litF Qu.fd [((3, 1) : Nat × Nat)]); exact inferInstance; (iterate 7 exact rfl); intro b' m' hm' sl3; (try replace sl0 := sl0.mono hm'); (try replace sl1 := sl1.mono hm'); (try replace sl2 := sl2.mono hm'); (try replace sl5 := sl5.mono hm')) | ((with_reducible first | apply At.c1 | apply At.c0); exact rfl; exact rfl; exact k1 _ _ _ _ _ sl1 sl2; exact ztk; kernel_rfl; rintro v' m' B' hm' ⟨rfl, p, c, rfl, sl5⟩; (try replace sl0 := sl0.mono hm'); (try replace sl1 := sl1.mono hm'); (try replace sl2 := sl2.mono hm'); (try replace sl3 := sl3.mono hm'); (try replace sl5 := sl5.mono hm'); (try (have hq0 : hm' = Mem.le_refl _ := rfl; clear hq0 hm'))) | ((with_reducible first | apply AtM1.cr | apply AtQ.cr | apply At.cr); exact rfl; exact rfl; exact fun _ hmm => k2 _ zml _ _ (sl3.mono hmm); exact ztk; kernel_rfl) | ((with_reducible apply At.alloc (d := 1)); exact rfl; exact rfl; intro b1) | ((with_reducible apply At.alloc (d := 2)); exact rfl; exact rfl; intro b2) | ((with_reducible apply At.alloc (d := 5)); exact rfl; exact rfl; intro b5) | (refine zsp ?_ ?_ <;> (intro hc; (try simp only [zhcs, reduceCtorEq] at hc); (try (exfalso; first | (first | omega | exact absurd rfl hc | exact absurd hc (by decide)) | contradiction | omega | exact absurd rfl hc | exact absurd (by decide) hc))))))
  all_goals ((with_reducible apply At.retB1 (B := [])); exact rfl; exact rfl; exact zml; exact zkp; exact ⟨rfl, zml, rfl⟩))
end Qy
end Go.Proofs.YtkoijdmlehkhbaaGreatDoor
namespace Go.J
open Go Go.ChangeShapes Go.WideShapes Go.ChangeAt Go.RowKit
theorem cell_cells {w : World} {a : Addr} {v : Value} (h : w.cell? a = some v) : a.spot = none ∧ ∃ E cs fz, w.heap[a.block]? = some (.cells cs E fz) ∧ cs[a.off]? = some v := by
  unfold World.cell? at h
  cases hb : w.heap[a.block]? with
  | none => rw [hb] at h; cases h
  | some o =>
    rw [hb] at h
    cases o <;> simp at h
    rename_i cs E fz
    exact ⟨by
      cases hs : a.spot with
      | none => rfl
      | some x => rw [hs] at h; simp at h, E, cs, fz, rfl, h.2⟩
theorem open_sl {α : Type} [Inhabited α] {f : α → List Value} {sz : Nat} (hf : Fl f sz) (φ : α → Prop) {H : Type} {enc : TypeId × Value → H} {P : Program} {W : World} {t e : TypeId} {fuel : Nat} {cs : List Value} {x : DataW H × List MemPlace}
    (ht : P.underlying t = some (.slice e)) (hc : P.cellsOf e = sz)
    (hdec : ∀ n cs' y, cs'.length = sz → DataW.trod enc P W 0 (fun _ => true) true n e cs' = some y → ∃ a, cs' = f a ∧ φ a)
    (h : DataW.trod enc P W 0 (fun _ => true) true fuel t cs = some x) : ∃ p c l, cs = [.slice p l.length c] ∧ Sl (memOf W) f sz p c l ∧ ∀ a ∈ l, φ a := by
  rcases Go.Deep.open_slice ht h with ⟨rfl, _⟩ | ⟨a, len, cap, m, n, D, Pl, rfl, _, hl, hm, hmm, _, hx⟩
  · exact ⟨none, 0, [], rfl, Sl.empty _ hf, fun a ha => by cases ha⟩
  · simp only [if_true] at hmm
    subst hmm
    obtain ⟨A, hA⟩ := Go.Deep.choose_lt (α := α) (n := m) (p := fun i y => W.cells? 0 (a.add (i * sz)) sz = some (f y) ∧ φ y) (fun i hi => by
      obtain ⟨cs', h1, h2⟩ := hx i hi
      rw [hc] at h1
      obtain ⟨_, hlen, _⟩ := World.cells?_some h1
      obtain ⟨y, rfl, hy⟩ := hdec n cs' _ hlen h2
      exact ⟨y, h1, hy⟩)
    have hll : ((List.range len).map A).length = len := by simp
    refine ⟨some a, m, (List.range len).map A, by rw [hll], ⟨hf, by rw [hll]; exact hl, hm, (fun e => by cases e), fun a' ha' hpos => ?_⟩, fun y hy => ?_⟩
    · cases ha'
      have hsz := hf.pos
      have hcell : ∀ i j, i < m → j < sz → W.cell? ((a.add (i * sz)).add j) = (f (A i))[j]? := fun i j hi hj => (World.cells?_some (hA i hi).1).2.2 j hj
      have hlen : ∀ i j, j < sz → ∃ v, (f (A i))[j]? = some v := fun i j hj => ⟨(f (A i))[j]'(by rw [hf.len]; exact hj), List.getElem?_eq_getElem _⟩
      obtain ⟨v0, hv0⟩ := hlen 0 0 hsz
      have h00 := hcell 0 0 hpos hsz
      rw [hv0] at h00
      have e0 : (a.add (0 * sz)).add 0 = a := by simp [Addr.add]
      rw [e0] at h00
      obtain ⟨hspot, E, cs, fz, hb, _⟩ := cell_cells h00
      have ea : ∀ k, a.add k = ⟨a.block, a.off + k, none⟩ := fun k => by cases a; simp only at hspot; subst hspot; exact Addr.add_eq _ _ _
      have hcell' : ∀ i j, i < m → j < sz → cs[a.off + (i * sz + j)]? = (f (A i))[j]? := fun i j hi hj => by
        have := hcell i j hi hj
        rw [ea, Addr.add_eq, World.cell_of hb] at this
        rw [← this, Nat.add_assoc]
      refine ⟨hspot, E, cs, fz, hb, ?_, fun i j hi hj => ?_⟩
      · obtain ⟨v, hv⟩ := hlen (m - 1) (sz - 1) (by omega)
        have h1 := hcell' (m - 1) (sz - 1) (by omega) (by omega)
        rw [hv] at h1
        have h2 := (Array.getElem?_eq_some_iff.1 h1).1
        have h3 : (m - 1) * sz + sz = m * sz := by
          have := Nat.succ_mul (m - 1) sz
          rw [show (m - 1).succ = m by omega] at this; omega
        omega
      · rw [hll] at hi
        rw [hcell' i j (by omega) hj]
        congr 2
        rw [List.getElem!_eq_getElem?_getD]; simp [hi]
    · obtain ⟨i, hi, rfl⟩ := List.mem_map.1 hy
      exact (hA i (by have := List.mem_range.1 hi; omega)).2
end Go.J
namespace Go.J
open Go Go.ChangeShapes Go.WideShapes Go.ChangeAt Go.RowKit
inductive LK
  | int (k : IntKind)
  | bool
  | str
  | sl (t : TypeId)
section
variable {H : Type} {enc : TypeId × Value → H} {P : Program} {W : World}
def Fit1 (enc : TypeId × Value → H) (P : Program) (W : World) : LK → Value → Prop
  | .int k, v => ∃ a, v = .int k a ∧ (Lit.int k a).wf = true
  | .bool, v => ∃ b, v = .bool b
  | .str, v => ∃ l, v = .string (str l) ∧ l.length ≤ maxLen
  | .sl t, v => ∃ n y, DataW.trod enc P W 0 (fun _ => true) true n t [v] = some y
def Fit (enc : TypeId × Value → H) (P : Program) (W : World) : List LK → List Value → Prop
  | [], [] => True
  | k :: ks, v :: vs => Fit1 enc P W k v ∧ Fit enc P W ks vs
  | _, _ => False
theorem Fit.append : ∀ {a b : List LK} {x y : List Value}, Fit enc P W a x → Fit enc P W b y → Fit enc P W (a ++ b) (x ++ y)
  | [], _, [], _, _, h => h
  | _ :: _, _, _ :: _, _, ⟨h1, h2⟩, h => ⟨h1, Fit.append h2 h⟩
  | [], _, _ :: _, _, h, _ => h.elim
  | _ :: _, _, [], _, h, _ => h.elim
theorem Fit.cons {k : LK} {ks : List LK} {cs : List Value} (h : Fit enc P W (k :: ks) cs) : ∃ v vs, cs = v :: vs ∧ Fit1 enc P W k v ∧ Fit enc P W ks vs := by
  cases cs with
  | nil => exact h.elim
  | cons v vs => exact ⟨v, vs, rfl, h.1, h.2⟩
theorem Fit.nil {cs : List Value} (h : Fit enc P W [] cs) : cs = [] := by
  cases cs with
  | nil => rfl
  | cons v vs => exact h.elim
theorem Fit1.int {k : IntKind} {v : Value} (h : Fit1 enc P W (.int k) v) : ∃ a, v = .int k a ∧ (Lit.int k a).wf = true := h
theorem Fit1.bool {v : Value} (h : Fit1 enc P W .bool v) : ∃ b, v = .bool b := h
theorem Fit1.str {v : Value} (h : Fit1 enc P W .str v) : ∃ l, v = .string (J.str l) ∧ l.length ≤ maxLen := h
def leavesF (P : Program) (rec : TypeId → Option (List LK)) (total : Nat) : Nat → List Field → Option (List LK)
  | off, [] => match Nat.beq off total with
    | true => some []
    | false => none
  | off, f :: fs => match Nat.beq f.offset off with
    | true => match rec f.type with
      | some a => match leavesF P rec total (off + P.cellsOf f.type) fs with
        | some b => some (a ++ b)
        | none => none
      | none => none
    | false => none
def leavesB (P : Program) : Nat → TypeId → Option (List LK)
  | 0, _ => none
  | d + 1, t => match P.underlying t with
    | some (.int k) => some [.int k]
    | some .bool => some [.bool]
    | some .string => some [.str]
    | some (.slice _) => some [.sl t]
    | some (.struct fs) => leavesF P (leavesB P d) (P.cellsOf t) 0 fs.toList
    | some (.array n e) => match leavesB P d e with
      | some a => match Nat.beq (P.cellsOf t) (n * P.cellsOf e) with
        | true => some (List.replicate n a).flatten
        | false => none
      | none => none
    | _ => none
theorem trod_bool' {t : TypeId} {n : Nat} {cs : List Value} {x : DataW H × List MemPlace} (ht : P.underlying t = some .bool) (h : DataW.trod enc P W 0 (fun _ => true) true n t cs = some x) : ∃ b, cs = [.bool b] := by
  cases n with
  | zero => simp [DataW.trod] at h
  | succ n =>
    unfold DataW.trod at h
    rw [ht] at h
    split at h <;> simp_all
theorem trod_fit : ∀ (d n : Nat) (t : TypeId) (cs : List Value) (x : DataW H × List MemPlace) (ks : List LK), leavesB P d t = some ks → DataW.trod enc P W 0 (fun _ => true) true n t cs = some x → Fit enc P W ks cs
  | 0, _, _, _, _, _, h, _ => by cases h
  | d + 1, n, t, cs, x, ks, h, hx => by
    have ih := trod_fit d
    unfold leavesB at h
    cases hu : P.underlying t with
    | none => rw [hu] at h; cases h
    | some u =>
      rw [hu] at h
      cases u <;> simp only at h <;> try (cases h; done)
      case int k =>
        cases h
        obtain ⟨a, rfl, _, h3⟩ := DataW.trod_int hu hx
        exact ⟨⟨a, rfl, h3⟩, trivial⟩
      case bool =>
        cases h
        obtain ⟨b, rfl⟩ := trod_bool' hu hx
        exact ⟨⟨b, rfl⟩, trivial⟩
      case string =>
        cases h
        obtain ⟨s, rfl, _, h3⟩ := DataW.trod_string hu hx
        obtain ⟨l, rfl⟩ := str_of s
        exact ⟨⟨l, rfl, by rw [str_size] at h3; exact h3⟩, trivial⟩
      case slice e =>
        cases h
        have : ∃ v, cs = [v] := by
          rcases DataW.trod_slice hu hx with ⟨rfl, _⟩ | ⟨a, len, cap, _, _, _, _, rfl, _⟩
          · exact ⟨_, rfl⟩
          · exact ⟨_, rfl⟩
        obtain ⟨v, rfl⟩ := this
        exact ⟨⟨n, x, hx⟩, trivial⟩
      case array k e =>
        cases h1 : leavesB P d e with
        | none => rw [h1] at h; cases h
        | some a =>
          rw [h1] at h
          simp only at h
          cases hb : Nat.beq (P.cellsOf t) (k * P.cellsOf e) with
          | false => rw [hb] at h; cases h
          | true =>
            rw [hb] at h
            cases h
            have hl0 := Nat.eq_of_beq_eq_true hb
            obtain ⟨xs, m, _, _, hlen, hxl, hf⟩ := DataW.trod_array hu hx
            have key : ∀ i, i ≤ k → Fit enc P W ((List.replicate i a).flatten) (cs.drop ((k - i) * P.cellsOf e)) := by
              intro i
              induction i with
              | zero =>
                intro _
                rw [List.drop_eq_nil_of_le (by rw [hlen, hl0, Nat.sub_zero]; exact Nat.le_refl _)]
                trivial
              | succ i ih2 =>
                intro hi
                have e1 := hf (k - (i + 1)) (by omega)
                have hj : k - (i + 1) < xs.length := by omega
                rw [List.getElem?_eq_getElem hj] at e1
                have g1 := ih m e _ _ a h1 e1
                have g2 := ih2 (by omega)
                have e2 : (k - (i + 1)) * P.cellsOf e + P.cellsOf e = (k - i) * P.cellsOf e := by rw [← Nat.succ_mul]; congr 1; omega
                rw [List.replicate_succ, List.flatten_cons, show cs.drop ((k - (i + 1)) * P.cellsOf e) = (cs.drop ((k - (i + 1)) * P.cellsOf e)).take (P.cellsOf e) ++ cs.drop ((k - i) * P.cellsOf e) by
                  rw [← e2, ← List.drop_drop, List.take_append_drop]]
                exact Fit.append g1 g2
            have := key k (Nat.le_refl _)
            simpa using this
      case struct fs =>
        obtain ⟨xs, n', _, _, hlen, hxs, hf⟩ := DataW.trod_struct hu hx
        have hf' : ∀ f ∈ fs.toList, ∃ y, DataW.trod enc P W 0 (fun _ => true) true n' f.type ((cs.drop f.offset).take (P.cellsOf f.type)) = some y := fun f hm => by
          obtain ⟨i, hi, he⟩ := List.mem_iff_getElem.1 hm
          have hi' : i < fs.size := by simpa using hi
          have h1 : fs[i]? = some f := by
            rw [Array.getElem?_eq_getElem hi']
            congr 1
          exact ⟨xs[i], by rw [hf i f h1, List.getElem?_eq_getElem]⟩
        have key : ∀ (l : List Field) (off : Nat) (ks : List LK), (∀ f ∈ l, ∃ y, DataW.trod enc P W 0 (fun _ => true) true n' f.type ((cs.drop f.offset).take (P.cellsOf f.type)) = some y) →
            leavesF P (leavesB P d) (P.cellsOf t) off l = some ks → Fit enc P W ks (cs.drop off) := by
          intro l
          induction l with
          | nil =>
            intro off ks _ h
            unfold leavesF at h
            cases hb : Nat.beq off (P.cellsOf t) with
            | false => rw [hb] at h; cases h
            | true =>
              rw [hb] at h
              cases h
              have := Nat.eq_of_beq_eq_true hb
              rw [List.drop_eq_nil_of_le (by omega)]
              trivial
          | cons f l ihl =>
            intro off ks hl h
            unfold leavesF at h
            cases hb : Nat.beq f.offset off with
            | false => rw [hb] at h; cases h
            | true =>
              rw [hb] at h
              simp only at h
              have hoff := Nat.eq_of_beq_eq_true hb
              cases h1 : leavesB P d f.type with
              | none => rw [h1] at h; cases h
              | some a =>
                rw [h1] at h
                simp only at h
                cases h2 : leavesF P (leavesB P d) (P.cellsOf t) (off + P.cellsOf f.type) l with
                | none => rw [h2] at h; cases h
                | some b =>
                  rw [h2] at h
                  cases h
                  obtain ⟨y, hy⟩ := hl f (List.mem_cons_self ..)
                  rw [hoff] at hy
                  have g1 := ih n' f.type _ y a h1 hy
                  have g2 := ihl (off + P.cellsOf f.type) b (fun g hg => hl g (List.mem_cons_of_mem _ hg)) h2
                  rw [show cs.drop off = (cs.drop off).take (P.cellsOf f.type) ++ cs.drop (off + P.cellsOf f.type) by
                    rw [← List.drop_drop, List.take_append_drop]]
                  exact Fit.append g1 g2
        have := key fs.toList 0 ks hf' h
        simpa using this
theorem dec_flat' {α : Type} {f : α → List Value} {φ : α → Prop} {e : TypeId} {sz : Nat} (ks : List LK) (hk : leavesB P 6 e = some ks) (h : ∀ cs, Fit enc P W ks cs → ∃ a, cs = f a ∧ φ a) :
    ∀ n cs' y, cs'.length = sz → DataW.trod enc P W 0 (fun _ => true) true n e cs' = some y → ∃ a, cs' = f a ∧ φ a := fun n cs' y _ hy =>
  h cs' (trod_fit 6 n e cs' y ks hk hy)
/-- an argument that is a struct -/
theorem open_flat_arg {α : Type} {f : α → List Value} {φ : α → Prop} {t : TypeId} {fs : Array Field} {base : Nat} {v : Value} {d : DataW H} {ps : List MemPlace} (ks : List LK) (ht : P.underlying t = some (.struct fs)) (hk : leavesB P 6 t = some ks)
    (h : ∀ cs, Fit enc P W ks cs → ∃ a, cs = f a ∧ φ a) {r : Reach} (hv : Value.okWide P W r base t v) (hx : DataW.Trod enc P W 0 (fun _ => true) true t v d ps) : ∃ a, v = .agg (f a).toArray ∧ φ a := by
  obtain ⟨cs, rfl, _⟩ := okWide_struct ht hv
  obtain ⟨fuel, hfl⟩ := hx
  obtain ⟨a, h1, h2⟩ := h _ (trod_fit 6 fuel t _ _ ks hk hfl)
  refine ⟨a, ?_, h2⟩
  have : cs.toList = f a := by simpa [Value.cells] using h1
  rw [← this]
/-- a slice that is part of something -/
theorem Fit1.sl {α : Type} [Inhabited α] {f : α → List Value} {sz : Nat} (hf : Fl f sz) (φ : α → Prop) {t e : TypeId} {v : Value} (ht : P.underlying t = some (.slice e)) (hc : P.cellsOf e = sz)
    (hdec : ∀ n cs' y, cs'.length = sz → DataW.trod enc P W 0 (fun _ => true) true n e cs' = some y → ∃ a, cs' = f a ∧ φ a) (h : Fit1 enc P W (.sl t) v) : ∃ p c l, v = .slice p l.length c ∧ Sl (memOf W) f sz p c l ∧ ∀ a ∈ l, φ a := by
  obtain ⟨n, y, hy⟩ := h
  obtain ⟨p, c, l, h1, h2⟩ := open_sl hf φ ht hc hdec hy
  exact ⟨p, c, l, by simpa using h1, h2⟩
end
end Go.J
namespace Go.Proofs.YtkoijdmlehkhbaaGreatDoor
open Go Go.J
attribute [local irreducible] At AtQ AtM AtM1 PR Ct Pu Rd Res.blk Res.own Res.ex RVs RV
namespace Qu
open Wide
theorem mk_wide {a b : Int} (wa : (Lit.int .u64 a).wf = true) (wb : (Lit.int .u64 b).wf = true) : ∃ x : Nat, [Value.int .u64 a, .int .u64 b] = wd x ∧ In x := by
  have ha := bounds_u64 wa
  have hb := bounds_u64 wb
  obtain ⟨x, hx⟩ : ∃ x : Nat, x = a.toNat * 18446744073709551616 + b.toNat := ⟨_, rfl⟩
  have e1 : ((x / 18446744073709551616 : Nat) : Int) = a := by omega
  have e2 : ((x % 18446744073709551616 : Nat) : Int) = b := by omega
  refine ⟨x, ?_, by unfold In; omega⟩
  unfold wd
  rw [e1, e2]
theorem dec_frac {H : Type} {enc : TypeId × Value → H} {P : Program} {W : World} : ∀ cs, Fit enc P W [.int .u64, .int .u64, .int .u64, .int .u64] cs → ∃ p : Nat × Nat, cs = fd p ∧ In2 p := by
  intro cs h
  obtain ⟨_, _, rfl, h1, h⟩ := h.cons
  obtain ⟨_, _, rfl, h2, h⟩ := h.cons
  obtain ⟨_, _, rfl, h3, h⟩ := h.cons
  obtain ⟨_, _, rfl, h4, h⟩ := h.cons
  obtain rfl := h.nil
  obtain ⟨a, rfl, wa⟩ := h1.int
  obtain ⟨b, rfl, wb⟩ := h2.int
  obtain ⟨c, rfl, wc⟩ := h3.int
  obtain ⟨d, rfl, wd'⟩ := h4.int
  obtain ⟨x, ex, hx⟩ := mk_wide wa wb
  obtain ⟨y, ey, hy⟩ := mk_wide wc wd'
  refine ⟨(x, y), ?_, hx, hy⟩
  show _ = wd x ++ wd y
  rw [← ex, ← ey]
  rfl
/-- what a variable reads as stays as memory grows -/
theorem var_up {W w : World} {name : String} {cs : Array Value} {g : Nat} (hg : Tryz.prog.globalNamed name = some g) (t : W.var? Tryz.prog name = some cs) (hw : ∀ k o, memOf W k = some o → w.heap[k]? = some o) : w.var? Tryz.prog name = some cs := by
  unfold World.var? at t ⊢
  rw [hg] at t ⊢
  rw [Option.bind_some] at t ⊢
  cases ho : W.heap[g]? with
  | none => rw [ho] at t; cases t
  | some o => rw [hw _ o ho]; rw [ho] at t; exact t
theorem tz_of {W : World} {l : List (String × DataW Unit)} (h : laidMetH Tryz.prog l W)
    (e : (l.filter fun x => x.1 == (Tryz.prog.globals[2]!).name) = [((Tryz.prog.globals[2]!).name, Lib.tabData .u8 (Lib.deBruijn64tab.map Int.ofNat))]) : Ra.TZ (memOf W) := by
  have h1 := h.filter (fun x => x.1 == (Tryz.prog.globals[2]!).name)
  rw [e, MakeChecks.laidMetH_plain _ _ _ (by kernel_rfl)] at h1
  have hg : Tryz.prog.globalNamed (Tryz.prog.globals[2]!).name = some 2 := by kernel_rfl
  have t := Lib.tabIs_of_head hg (by kernel_rfl) Tryz.underlying301 Tryz.underlying5 (by kernel_rfl) (by kernel_rfl) h1
  intro w hw j hj
  have t' : Lib.TabIs Tryz.prog w _ .u8 _ := var_up hg t hw
  rw [t'.cell hg j (by rw [List.length_map]; exact hj)]
  simp [List.getD, hj]
end Qu
end Go.Proofs.YtkoijdmlehkhbaaGreatDoor
namespace Go.Proofs.YtkoijdmlehkhbaaGreatDoor
open Go Go.J
attribute [local irreducible] At AtQ AtM AtM1 PR Ct Pu Rd Res.blk Res.own Res.ex RVs RV
namespace Ev
def In (e : Ev) : Prop := -9223372036854775808 ≤ e.T ∧ e.T ≤ 9223372036854775807 ∧ e.V < 18446744073709551616 ∧ -9223372036854775808 ≤ e.C ∧ e.C ≤ 9223372036854775807
theorem dec_ev {H : Type} {enc : TypeId × Value → H} {P : Program} {W : World} : ∀ cs, Fit enc P W [.int .i64, .int .u64, .int .i64, .bool] cs → ∃ a : Ev, cs = a.cells ∧ In a := by
  intro cs h
  obtain ⟨_, _, rfl, h1, h⟩ := h.cons
  obtain ⟨_, _, rfl, h2, h⟩ := h.cons
  obtain ⟨_, _, rfl, h3, h⟩ := h.cons
  obtain ⟨_, _, rfl, h4, h⟩ := h.cons
  obtain rfl := h.nil
  obtain ⟨a, rfl, wa⟩ := h1.int
  obtain ⟨b, rfl, wb⟩ := h2.int
  obtain ⟨c, rfl, wc⟩ := h3.int
  obtain ⟨t, rfl⟩ := h4.bool
  have hb := bounds_u64 wb
  have ha := bounds_i64 wa
  have hc := bounds_i64 wc
  refine ⟨⟨a, b.toNat, c, t⟩, ?_, ha.1, ha.2, by show b.toNat < _; omega, hc.1, hc.2⟩
  show _ = [_, Value.int .u64 (b.toNat : Int), _, _]
  rw [Int.toNat_of_nonneg (by omega)]
end Ev
end Go.Proofs.YtkoijdmlehkhbaaGreatDoor
namespace Go.Proofs.YtkoijdmlehkhbaaGreatDoor
open Go Go.J
attribute [local irreducible] At AtQ AtM AtM1 PR Ct Pu Rd Res.blk Res.own Res.ex RVs RV
namespace Cell
open Go.RowKit
theorem dec_cell {H : Type} {enc : TypeId × Value → H} {P : Program} {W : World} : ∀ cs, Go.J.Fit enc P W [.int .i64, .int .i64, .int .u64, .int .i64, .bool, .int .i64, .int .u64, .int .i64, .bool, .int .u64, .int .u64, .int .i64, .int .i64, .int .i64] cs → ∃ a : Cell, cs = a.cells ∧ In a := by
  intro cs h
  obtain ⟨_, _, rfl, h0, h⟩ := h.cons
  obtain ⟨_, _, rfl, h1, h⟩ := h.cons
  obtain ⟨_, _, rfl, h2, h⟩ := h.cons
  obtain ⟨_, _, rfl, h3, h⟩ := h.cons
  obtain ⟨_, _, rfl, h4, h⟩ := h.cons
  obtain ⟨_, _, rfl, h5, h⟩ := h.cons
  obtain ⟨_, _, rfl, h6, h⟩ := h.cons
  obtain ⟨_, _, rfl, h7, h⟩ := h.cons
  obtain ⟨_, _, rfl, h8, h⟩ := h.cons
  obtain ⟨_, _, rfl, h9, h⟩ := h.cons
  obtain ⟨_, _, rfl, h10, h⟩ := h.cons
  obtain ⟨_, _, rfl, h11, h⟩ := h.cons
  obtain ⟨_, _, rfl, h12, h⟩ := h.cons
  obtain ⟨_, _, rfl, h13, h⟩ := h.cons
  obtain rfl := h.nil
  obtain ⟨x0, rfl, g0⟩ := h0.int
  obtain ⟨x1, rfl, g1⟩ := h1.int
  obtain ⟨x2, rfl, g2⟩ := h2.int
  obtain ⟨x3, rfl, g3⟩ := h3.int
  obtain ⟨x4, rfl⟩ := h4.bool
  obtain ⟨x5, rfl, g5⟩ := h5.int
  obtain ⟨x6, rfl, g6⟩ := h6.int
  obtain ⟨x7, rfl, g7⟩ := h7.int
  obtain ⟨x8, rfl⟩ := h8.bool
  obtain ⟨x9, rfl, g9⟩ := h9.int
  obtain ⟨x10, rfl, g10⟩ := h10.int
  obtain ⟨x11, rfl, g11⟩ := h11.int
  obtain ⟨x12, rfl, g12⟩ := h12.int
  obtain ⟨x13, rfl, g13⟩ := h13.int
  have b0 := bounds_i64 g0
  have b2 := bounds_u64 g2
  have b6 := bounds_u64 g6
  have b9 := bounds_u64 g9
  have b10 := bounds_u64 g10
  obtain ⟨n2, rfl⟩ : ∃ n : Nat, x2 = n := ⟨x2.toNat, by omega⟩
  obtain ⟨n6, rfl⟩ : ∃ n : Nat, x6 = n := ⟨x6.toNat, by omega⟩
  obtain ⟨n9, rfl⟩ : ∃ n : Nat, x9 = n := ⟨x9.toNat, by omega⟩
  obtain ⟨n10, rfl⟩ : ∃ n : Nat, x10 = n := ⟨x10.toNat, by omega⟩
  obtain ⟨I, hI⟩ : ∃ I : Nat, n9 = I / 18446744073709551616 ∧ n10 = I % 18446744073709551616 := ⟨n9 * 18446744073709551616 + n10, by omega, by omega⟩
  obtain ⟨hI1, hI2⟩ := hI
  refine ⟨⟨x0, ⟨x1, n2, x3, x4⟩, ⟨x5, n6, x7, x8⟩, I, x11, x12, x13⟩, ?_, b0, by show n2 < _; omega, by show n6 < _; omega, by show I < _; omega⟩
  rw [hI1, hI2]
end Cell
end Go.Proofs.YtkoijdmlehkhbaaGreatDoor
namespace Go.Proofs.YtkoijdmlehkhbaaGreatDoor
open Go Go.J
attribute [local irreducible] At AtQ AtM AtM1 PR Ct Pu Rd Res.blk Res.own Res.ex RVs RV
namespace St
open Go.RowKit
theorem dec_slot {H : Type} {enc : TypeId × Value → H} {P : Program} {W : World} : ∀ cs, Go.J.Fit enc P W [.int .i64, .int .i64, .int .i64, .int .u64, .int .i64, .bool, .int .i64, .int .u64, .int .i64, .bool, .int .u64, .int .u64, .int .i64, .int .i64, .int .i64] cs → ∃ a : Slot, cs = Slot.cells a ∧ Slot.In a := by
  intro cs h
  obtain ⟨_, _, rfl, h0, h⟩ := h.cons
  obtain ⟨c, rfl, hc⟩ := Cell.dec_cell _ h
  obtain ⟨x, rfl, g⟩ := h0.int
  exact ⟨⟨x, c⟩, rfl, bounds_i64 g, hc.1, hc.2.1, hc.2.2.1, hc.2.2.2⟩
theorem dec_lab {H : Type} {enc : TypeId × Value → H} {P : Program} {W : World} : ∀ cs, Go.J.Fit enc P W [.str, .str] cs → ∃ a : Lab, cs = Lb.cells a ∧ True := by
  intro cs h
  obtain ⟨_, _, rfl, h1, h⟩ := h.cons
  obtain ⟨_, _, rfl, h2, h⟩ := h.cons
  obtain rfl := h.nil
  obtain ⟨a, rfl, _⟩ := h1.str
  obtain ⟨t, rfl, _⟩ := h2.str
  exact ⟨⟨a, t⟩, rfl, trivial⟩
theorem dec_ser {H : Type} {enc : TypeId × Value → H} {W : World} : ∀ cs, Go.J.Fit enc Tryz.prog W [.sl 50, .int .i64, .int .i64, .int .i64, .sl 51, .sl 54, .sl 54, .sl 54, .int .i64, .int .i64, .int .i64, .int .u64, .int .i64, .bool, .int .i64, .int .u64, .int .i64, .bool, .int .u64, .int .u64, .int .i64, .int .i64, .int .i64] cs → ∃ a : Ser, cs = Ser.cells a ∧ Ser.Lay (memOf W) a := by
  intro cs h
  obtain ⟨_, _, rfl, h1, h⟩ := h.cons
  obtain ⟨_, _, rfl, h2, h⟩ := h.cons
  obtain ⟨_, _, rfl, h3, h⟩ := h.cons
  obtain ⟨_, _, rfl, h4, h⟩ := h.cons
  obtain ⟨_, _, rfl, h5, h⟩ := h.cons
  obtain ⟨_, _, rfl, h6, h⟩ := h.cons
  obtain ⟨_, _, rfl, h7, h⟩ := h.cons
  obtain ⟨_, _, rfl, h8, h⟩ := h.cons
  obtain ⟨o, rfl, ho⟩ := dec_slot _ h
  obtain ⟨x2, rfl, g2⟩ := h2.int
  obtain ⟨x3, rfl, g3⟩ := h3.int
  obtain ⟨x4, rfl, g4⟩ := h4.int
  obtain ⟨p1, c1, l1, rfl, s1, _⟩ := Fit1.sl (f := Lb.cells) inferInstance (fun _ => True) Tryz.underlying50 (by rfl) (dec_flat' [.str, .str] (by kernel_rfl) dec_lab) h1
  obtain ⟨p5, c5, l5, rfl, s5, f5⟩ := Fit1.sl (f := Ev.cells) inferInstance Ev.In Tryz.underlying51 (by rfl) (dec_flat' [.int .i64, .int .u64, .int .i64, .bool] (by kernel_rfl) Ev.dec_ev) h5
  obtain ⟨p6, c6, l6, rfl, s6, f6⟩ := Fit1.sl (f := Slot.cells) inferInstance Slot.In Tryz.underlying54 (by rfl) (dec_flat' [.int .i64, .int .i64, .int .i64, .int .u64, .int .i64, .bool, .int .i64, .int .u64, .int .i64, .bool, .int .u64, .int .u64, .int .i64, .int .i64, .int .i64] (by kernel_rfl) dec_slot) h6
  obtain ⟨p7, c7, l7, rfl, s7, f7⟩ := Fit1.sl (f := Slot.cells) inferInstance Slot.In Tryz.underlying54 (by rfl) (dec_flat' [.int .i64, .int .i64, .int .i64, .int .u64, .int .i64, .bool, .int .i64, .int .u64, .int .i64, .bool, .int .u64, .int .u64, .int .i64, .int .i64, .int .i64] (by kernel_rfl) dec_slot) h7
  obtain ⟨p8, c8, l8, rfl, s8, f8⟩ := Fit1.sl (f := Slot.cells) inferInstance Slot.In Tryz.underlying54 (by rfl) (dec_flat' [.int .i64, .int .i64, .int .i64, .int .u64, .int .i64, .bool, .int .i64, .int .u64, .int .i64, .bool, .int .u64, .int .u64, .int .i64, .int .i64, .int .i64] (by kernel_rfl) dec_slot) h8
  exact ⟨⟨⟨p1, c1, l1⟩, x2, x3, x4, ⟨p5, c5, l5⟩, ⟨p6, c6, l6⟩, ⟨p7, c7, l7⟩, ⟨p8, c8, l8⟩, o⟩, rfl, s1, s5, s6, s7, s8, f6, f7, f8, ho, fun e he => (f5 e he).2.2.1, bounds_i64 g2⟩
theorem dec_sta {H : Type} {enc : TypeId × Value → H} {W : World} : ∀ cs, Go.J.Fit enc Tryz.prog W [.int .i64, .int .i64, .int .i64, .int .i64, .int .i64, .int .i64, .int .i64, .int .i64, .int .i64, .int .i64, .int .i64, .sl 26] cs → ∃ a : Sta, cs = Sta.cells a ∧ Sta.Lay (memOf W) a := by
  intro cs h
  obtain ⟨_, _, rfl, h0, h⟩ := h.cons
  obtain ⟨_, _, rfl, h1, h⟩ := h.cons
  obtain ⟨_, _, rfl, h2, h⟩ := h.cons
  obtain ⟨_, _, rfl, h3, h⟩ := h.cons
  obtain ⟨_, _, rfl, h4, h⟩ := h.cons
  obtain ⟨_, _, rfl, h5, h⟩ := h.cons
  obtain ⟨_, _, rfl, h6, h⟩ := h.cons
  obtain ⟨_, _, rfl, h7, h⟩ := h.cons
  obtain ⟨_, _, rfl, h8, h⟩ := h.cons
  obtain ⟨_, _, rfl, h9, h⟩ := h.cons
  obtain ⟨_, _, rfl, h10, h⟩ := h.cons
  obtain ⟨_, _, rfl, h11, h⟩ := h.cons
  obtain rfl := h.nil
  obtain ⟨x0, rfl, g0⟩ := h0.int
  obtain ⟨x1, rfl, g1⟩ := h1.int
  obtain ⟨x2, rfl, g2⟩ := h2.int
  obtain ⟨x3, rfl, g3⟩ := h3.int
  obtain ⟨x4, rfl, g4⟩ := h4.int
  obtain ⟨x5, rfl, g5⟩ := h5.int
  obtain ⟨x6, rfl, g6⟩ := h6.int
  obtain ⟨x7, rfl, g7⟩ := h7.int
  obtain ⟨x8, rfl, g8⟩ := h8.int
  obtain ⟨x9, rfl, g9⟩ := h9.int
  obtain ⟨x10, rfl, g10⟩ := h10.int
  obtain ⟨p, c, l, rfl, s, f⟩ := Fit1.sl (f := Ser.cells) inferInstance (Ser.Lay (memOf W)) Tryz.underlying26 (by rfl) (dec_flat' [.sl 50, .int .i64, .int .i64, .int .i64, .sl 51, .sl 54, .sl 54, .sl 54, .int .i64, .int .i64, .int .i64, .int .u64, .int .i64, .bool, .int .i64, .int .u64, .int .i64, .bool, .int .u64, .int .u64, .int .i64, .int .i64, .int .i64] (by kernel_rfl) dec_ser) h11
  exact ⟨⟨⟨x0, x1, x2, x3, x4, x5, x6, x7, x8⟩, x9, x10, ⟨p, c, l⟩⟩, rfl, s, f, bounds_i64 g9, bounds_i64 g10⟩
end St
end Go.Proofs.YtkoijdmlehkhbaaGreatDoor
namespace Go.Proofs.YtkoijdmlehkhbaaGreatDoor
open Go Go.J
attribute [local irreducible] At AtQ AtM AtM1 PR Ct Pu Rd Res.blk Res.own Res.ex RVs RV
namespace Qy
open Slot Ti Se St Win
open Fo hiding pt
theorem doG_k {u : Sta} {t a b : Int} (l : List Lab) (h : (tierG u t a b).2 = 0) : doG u l t a b = doG u l (tierG u t a b).1 a b := by
  unfold doG
  rw [(tierG_ok h).2.2, h]
theorem par0 {u : Sta} {t a b : Int} (h : parE u t a b = 0) : (tierG u t a b).2 = 0 ∧ ∀ i ∈ lv u, (dI u (tierG u t a b).1 a b i).2 = 0 := by
  unfold parE at h
  by_cases h1 : (tierG u t a b).2 ≠ 0
  · rw [if_pos h1] at h; exact absurd h h1
  · rw [if_neg h1] at h
    exact ⟨by omega, errL_zero.1 h⟩
/-- of each series that lives, the same is told -/
theorem par_do {u : Sta} {t a b : Int} (h : parE u t a b = 0) {i : Nat} (hi : i ∈ lv u) : doG u u.pl.l[i]!.lab.l t a b = (dI u (tierG u t a b).1 a b i) ∧ (dI u (tierG u t a b).1 a b i).2 = 0 := by
  obtain ⟨h1, h2⟩ := par0 h
  exact ⟨doG_k _ h1, h2 i hi⟩
theorem repG0 {u : Sta} {t a b : Int} (h : parE u t a b = 0) : repG u t a b = ((lv u).filter fun i => decide (0 < (dI u (tierG u t a b).1 a b i).1.c.n)).map fun i => (dI u (tierG u t a b).1 a b i).1 := by
  unfold repG prtG
  rw [if_pos h]
  unfold prtL
  rw [List.map_map]
  rfl
theorem repG1 {u : Sta} {t a b : Int} (h : parE u t a b ≠ 0) : repG u t a b = [] := by
  unfold repG prtG
  rw [if_neg h]
  rfl
/-- the rates are those of the series that have one -/
theorem rates_eq {m : Mem} {u : Sta} {t a b : Int} (hs : u.Ok m) (h : parE u t a b = 0) : ratL (repG u t a b) = ((lv u).filter fun i => decide ((dI u (tierG u t a b).1 a b i).1.e = 0)).map fun i => (dI u (tierG u t a b).1 a b i).1.r := by
  obtain ⟨-, h2⟩ := par0 h
  rw [repG0 h]
  unfold ratL
  rw [List.filter_map, List.map_map, List.filter_filter]
  congr 1
  refine List.filter_congr fun i hi => ?_
  rw [Function.comp_apply]
  by_cases he : (dI u (tierG u t a b).1 a b i).1.e = 0
  · rw [decide_eq_true he, Bool.true_and]
    refine decide_eq_true (Classical.byContradiction fun hn => ?_)
    have := doG_none hs u.pl.l[i]!.lab.l (tierG u t a b).1 a b (h2 i hi) (by show (dI u _ a b i).1.c.n ≤ 0; omega)
    rw [show (doG u u.pl.l[i]!.lab.l (tierG u t a b).1 a b).1.e = 0 from he] at this
    exact absurd this (by decide)
  · rw [decide_eq_false he, Bool.false_and]
theorem rep_len {u : Sta} {m : Mem} (hs : u.Ok m) (t a b : Int) : (repG u t a b).length ≤ 1000000 := by
  unfold repG prtG
  rw [List.length_map]
  split
  · exact Nat.le_trans (prtL_len _ _ _) (Nat.le_trans (lv_len u) hs.np)
  · exact Nat.zero_le _
theorem filt_len {α : Type} [Inhabited α] (p : α → Bool) {l : List α} {j : Nat} (h : j < l.length) : ((l.take (j + 1)).filter p).length = ((l.take j).filter p).length + if p l[j]! = true then 1 else 0 := by
  rw [Ls.take_snoc h, List.filter_append, List.length_append]
  congr 1
  by_cases hp : p l[j]! = true
  · rw [if_pos hp, List.filter_cons, if_pos hp]; rfl
  · rw [if_neg hp, List.filter_cons, if_neg hp]; rfl
theorem oneW_yes {u : Sta} {q : Ask} {f : Nat × Nat} {r : Rep} (hf : Qu.Sm f) (h : doG u q.lab.l q.t q.a q.b = (r, 0)) (he : r.e = 0) (hr : Qu.Sm r.r) : oneW u q f = (!Qu.lt r.r f, 0) := by
  unfold oneW
  rw [Qu.chk_smz hf, if_neg (fun e => e rfl), h, if_neg (fun e => e rfl), if_neg (fun e => e he), Qu.les_lt hr hf, if_pos rfl]
theorem oneW_no {u : Sta} {q : Ask} {f : Nat × Nat} {r : Rep} (hf : Qu.Sm f) (h : doG u q.lab.l q.t q.a q.b = (r, 0)) (he : r.e ≠ 0) : oneW u q f = (false, r.e) := by
  unfold oneW
  rw [Qu.chk_smz hf, if_neg (fun e => e rfl), h, if_neg (fun e => e rfl), if_pos he]
theorem lt_self (x : Nat × Nat) : Qu.lt x x = false := by rw [Qu.lt_lq, Qu.lq_self]; rfl
end Qy
end Go.Proofs.YtkoijdmlehkhbaaGreatDoor

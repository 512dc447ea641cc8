/- Part 10 of what the law's proof needs: rules of the walk, contracts of functions, plain laws. No condition. -/
import Derived.Test.YtmnlmmbfjfgfeaaDoorQu4Z9
import Derived.Deep.Slices
import Derived.WideShapes
import Derived.OpenShut
import Derived.Test.YtmnlmmbfjfgfeaaDoorTie
import Derived.Test.YtmnlmmbfjfgfeaaDoorCards
import Derived.LaidMore
import Derived.LaidSub
import Derived.MakeChecks
import Derived.ProofKit
import Derived.Stop.Joined
import Derived.SevenTiedAt
/- Quantiles, the document's: Same, Rank, Of, Share. -/
set_option linter.unusedSimpArgs false
set_option linter.unusedVariables false
set_option linter.unusedSectionVars false
set_option maxRecDepth 20000
set_option maxHeartbeats 4000000
namespace Go.Proofs.YtmnlmmbfjfgfeaaDoor
open Go Go.J
attribute [local irreducible] At AtQ AtM AtM1 PR Ct Pu Rd Res.blk Res.own Res.ex RVs RV
namespace Qu
open Wide
theorem andL_app : ∀ a b : List Bool, andL (a ++ b) = (andL a && andL b)
  | [], b => by simp [andL]
  | x :: a, b => by
    rw [List.cons_append, andL_cons, andL_app a b, andL_cons, Bool.and_assoc]
theorem fr_dec (x y : Nat × Nat) : decide (x = y) = andL [decide (((x.1 / 18446744073709551616 : Nat) : Int) = ((y.1 / 18446744073709551616 : Nat) : Int)), decide (((x.1 % 18446744073709551616 : Nat) : Int) = ((y.1 % 18446744073709551616 : Nat) : Int)), decide (((x.2 / 18446744073709551616 : Nat) : Int) = ((y.2 / 18446744073709551616 : Nat) : Int)), decide (((x.2 % 18446744073709551616 : Nat) : Int) = ((y.2 % 18446744073709551616 : Nat) : Int))] := by
  have e : decide (x = y) = (decide (x.1 = y.1) && decide (x.2 = y.2)) := by
    rw [← Bool.decide_and]
    exact decide_eq_decide.2 Prod.ext_iff
  rw [e, Ra.wd_dec x.1 y.1, Ra.wd_dec x.2 y.2, ← andL_app]
  rfl
theorem pr_feq {n : Nat} {F : Fr} {C : World → Prop} {x y : Operand} {u : TypeId} {a b : Nat × Nat} (hx : ev F x = some (fv a)) (hy : ev F y = some (fv b)) : PR Tryd.prog n F C (.binOp .eql 27 x y u) (.bool (decide (a = b))) := by
  rw [fr_dec]
  exact pr_aggeq2 hx hy (by rfl) (by kernel_rfl) (by kernel_rfl) (by rfl)
theorem pr_fne {n : Nat} {F : Fr} {C : World → Prop} {x y : Operand} {u : TypeId} {a b : Nat × Nat} (hx : ev F x = some (fv a)) (hy : ev F y = some (fv b)) : PR Tryd.prog n F C (.binOp .neq 27 x y u) (.bool (!decide (a = b))) := by
  rw [fr_dec]
  exact pr_aggne2 hx hy (by rfl) (by kernel_rfl) (by kernel_rfl) (by rfl)
theorem same_ {m : Mem} (p : Option Addr) (c : Nat) (a : List (Nat × Nat)) (q : Option Addr) (d : Nat) (b : List (Nat × Nat)) (hl : a.length ≤ 1000000) (hlb : b.length ≤ 1000000) (sl0 : Sl m fd 4 p c a) (sl1 : Sl m fd 4 q d b) :
    Rd Tryd.prog 18 #[.slice p a.length c, .slice q b.length d] m [] (.bool (decide (a = b))) := by
  unfold Rd
  by_cases hlen : a.length = b.length
  · refine Ct.enterV (by rfl) Tryd.func18 rfl Tryd.ntmps18 rfl (fun w0 Rest => ?_)
    (repeat' (first | refine zss ?_ | ((first | (with_reducible first | apply At.val | apply AtQ.val)); (exact zprA); exact rfl) | refine zsM ?_ | (refine zsp ?_ ?_ <;> (intro hc; (try simp only [zhcs, reduceCtorEq] at hc); (try (exfalso; first | omega | contradiction | omega | exact absurd rfl hc | exact absurd (by decide) hc))))))
    (refine At.loopk (σ := Nat) [0, 1, 12] (fun s F0 => (13, .int .i64 (s : Int)) :: F0) (fun s => m) (fun s => Rest) (fun s => s ≤ a.length ∧ ∀ i, i < s → a[i]! = b[i]!) (fun s => a.length - s) 0 (by rfl) ?_ zsubs zml zente ?_)
    · exact ⟨Nat.zero_le _, fun i h => absurd h (Nat.not_lt_zero i)⟩
    rintro s ⟨hs, hn⟩
    by_cases h : s < a.length
    · have he := @pr_fne
      by_cases e : a[s]! = b[s]!
      · have hd : (!decide (a[s]! = b[s]!)) = false := by rw [decide_eq_true e]; rfl
        have pw : ∀ {n' : Nat} {F : Fr} {C : World → Prop} {x y : Operand} {u : TypeId}, ev F x = some (fv a[s]!) → ev F y = some (fv b[s]!) → PR Tryd.prog n' F C (.binOp .neq 27 x y u) (.bool false) := fun hx hy => by rw [← hd]; exact pr_fne hx hy
        clear he
        (repeat' (first | refine zss ?_ | ((first | (with_reducible first | apply At.val | apply AtQ.val)); (first | exact pw (by rfl) (by rfl) | exact zprA); exact rfl) | refine zsM ?_ | (refine zsp ?_ ?_ <;> (intro hc; (try simp only [zhcs, reduceCtorEq] at hc); (try (exfalso; first | omega | contradiction | omega | exact absurd rfl hc | exact absurd (by decide) hc))))))
        all_goals ((with_reducible refine At.reachk (s + 1) ?_ ?_ ?_ ?_); exact zsubs; exact zml; exact zente; exact ⟨⟨h, fun i hi => by rcases Nat.lt_succ_iff_lt_or_eq.1 hi with hi | rfl; exact hn i hi; exact e⟩, by omega⟩)
      · have hd : (!decide (a[s]! = b[s]!)) = true := by rw [decide_eq_false e]; rfl
        have pw : ∀ {n' : Nat} {F : Fr} {C : World → Prop} {x y : Operand} {u : TypeId}, ev F x = some (fv a[s]!) → ev F y = some (fv b[s]!) → PR Tryd.prog n' F C (.binOp .neq 27 x y u) (.bool true) := fun hx hy => by rw [← hd]; exact pr_fne hx hy
        clear he
        rw [decide_eq_false (show ¬ a = b from fun k => e (by rw [k]))]
        (repeat' (first | refine zss ?_ | ((first | (with_reducible first | apply At.val | apply AtQ.val)); (first | exact pw (by rfl) (by rfl) | exact zprA); exact rfl) | refine zsM ?_ | (refine zsp ?_ ?_ <;> (intro hc; (try simp only [zhcs, reduceCtorEq] at hc); (try (exfalso; first | omega | contradiction | omega | exact absurd rfl hc | exact absurd (by decide) hc))))))
        all_goals ((with_reducible apply At.retB1 (B := [])); exact rfl; exact rfl; exact zml; exact zkp; exact ⟨rfl, rfl, rfl⟩)
    · rw [decide_eq_true (Ls.ext! hlen fun i hi => hn i (by omega))]
      (repeat' (first | refine zss ?_ | ((first | (with_reducible first | apply At.val | apply AtQ.val)); (exact zprA); exact rfl) | refine zsM ?_ | (refine zsp ?_ ?_ <;> (intro hc; (try simp only [zhcs, reduceCtorEq] at hc); (try (exfalso; first | omega | contradiction | omega | exact absurd rfl hc | exact absurd (by decide) hc))))))
      all_goals ((with_reducible apply At.retB1 (B := [])); exact rfl; exact rfl; exact zml; exact zkp; exact ⟨rfl, rfl, rfl⟩)
  · rw [decide_eq_false (show ¬ a = b from fun k => hlen (by rw [k]))]
    refine Ct.enterV (by rfl) Tryd.func18 rfl Tryd.ntmps18 rfl (fun w0 Rest => ?_)
    (repeat' (first | refine zss ?_ | ((first | (with_reducible first | apply At.val | apply AtQ.val)); (exact zprA); exact rfl) | refine zsM ?_ | (refine zsp ?_ ?_ <;> (intro hc; (try simp only [zhcs, reduceCtorEq] at hc); (try (exfalso; first | omega | contradiction | omega | exact absurd rfl hc | exact absurd (by decide) hc))))))
    all_goals ((with_reducible apply At.retB1 (B := [])); exact rfl; exact rfl; exact zml; exact zkp; exact ⟨rfl, rfl, rfl⟩)
theorem rank_r (n : Int) (hn : n ≤ 9223372036854775807) (num den : Nat) (h1 : num < 18446744073709551616) (h2 : den < 18446744073709551616) :
    Pu Tryd.prog 11 #[.int .i64 n, .int .u64 (num : Int), .int .u64 (den : Int)] (.tuple #[.int .i64 (rkV n num den).1, .int .i64 (rkV n num den).2]) := Pu.intro fun m => by
  unfold rkV
  by_cases h : n < 1 ∨ den = 0 ∨ num > den
  · rw [if_pos h]
    refine Ct.enterV (by rfl) Tryd.func11 rfl Tryd.ntmps11 rfl (fun w0 Rest => ?_)
    (repeat' (first | refine zss ?_ | ((first | (with_reducible first | apply At.val | apply AtQ.val)); (exact zprA); exact rfl) | refine zs0 ?_ | ((with_reducible apply At.alloc (d := 8)); exact rfl; exact rfl; intro b8) | ((with_reducible apply At.alloc (d := 10)); exact rfl; exact rfl; intro b10) | (refine zsp ?_ ?_ <;> (intro hc; (try simp only [zhcs, reduceCtorEq] at hc); (try (exfalso; first | omega | contradiction | omega | exact absurd rfl hc | exact absurd (by decide) hc))))))
    all_goals ((with_reducible apply At.retV (B := [])); exact rfl; (repeat' (first | exact RVs.nil | (with_reducible apply RVs.cons) | exact rv_tmp (by rfl) | exact rv_cellN (by rfl) (by repeat constructor) (by rfl) (by rfl) (by rfl) | exact rv_cell1 (by rfl) (by repeat constructor) (by rfl) (by rfl) | exact rv_cellA (by rfl) (by repeat constructor) (by rfl) (by rfl) zlq)); exact zml; exact zkp; exact ⟨rfl, rfl, rfl⟩)
  · rw [if_neg h]
    obtain ⟨N, rfl⟩ : ∃ N : Nat, n = (N : Int) := ⟨n.toNat, by omega⟩
    rw [Int.toNat_natCast]
    have hd : 0 < den := by omega
    have hle : num ≤ den := by omega
    have hN : 1 ≤ N := by omega
    have hN2 : N ≤ 9223372036854775807 := by omega
    have hr := rk_le hN hd hle
    have hV : N * num ≤ N * den := Nat.mul_le_mul_left _ hle
    have hV2 : N * den ≤ 9223372036854775807 * den := Nat.mul_le_mul_right _ hN2
    have hVb : N * num < 340282366920938463463374607431768211456 := by omega
    have m1 := times_r N num (by omega) h1
    rw [show sV (N * num) = N * num from if_pos hVb, show sE (N * num) = 0 from if_pos hVb] at m1
    have m2 := div_r (N * num) den hVb hd h2
    unfold rk up at hr ⊢
    generalize N * num = V at *
    have hm := Nat.mod_lt V hd
    generalize V / den = q at *
    generalize V % den = r at *
    have hw : Value.agg #[.int .u64 0, .int .u64 (N : Int)] = wv N := wd_mk (by omega) (by omega)
    rw [← hw] at m1
    have hq : q / 18446744073709551616 = 0 ∧ q % 18446744073709551616 = q := by
      by_cases h0 : r = 0
      · rw [if_pos h0] at hr; omega
      · rw [if_neg h0] at hr; omega
    rw [show wv q = .agg #[.int .u64 0, .int .u64 (q : Int)] from (wd_mk (by rw [hq.1]; rfl) (by rw [hq.2])).symm] at m2
    clear hq
    by_cases h0 : r = 0
    · rw [if_pos h0] at hr ⊢
      clear hV hV2 h hw
      by_cases hq0 : q = 0
      · subst hq0 h0
        refine Ct.enterV (by rfl) Tryd.func11 rfl Tryd.ntmps11 rfl (fun w0 Rest => ?_)
        (repeat' (first | refine zss ?_ | ((first | (with_reducible first | apply At.val | apply AtQ.val)); (exact zprA); exact rfl) | refine zs0 ?_ | ((with_reducible first | apply AtM1.callp | apply AtQ.callp | apply At.callp); kernel_rfl; exact rfl; exact rfl; exact m1) | ((with_reducible first | apply AtM1.callp | apply AtQ.callp | apply At.callp); kernel_rfl; exact rfl; exact rfl; exact m2) | ((with_reducible apply At.alloc (d := 8)); exact rfl; exact rfl; intro b8) | ((with_reducible apply At.alloc (d := 10)); exact rfl; exact rfl; intro b10) | (refine zsp ?_ ?_ <;> (intro hc; (try simp only [zhcs, reduceCtorEq] at hc); (try (exfalso; first | omega | contradiction | omega | exact absurd rfl hc | exact absurd (by decide) hc))))))
        all_goals ((with_reducible apply At.retV (B := [])); exact rfl; (repeat' (first | exact RVs.nil | (with_reducible apply RVs.cons) | exact rv_tmp (by rfl) | exact rv_cellN (by rfl) (by repeat constructor) (by rfl) (by rfl) (by rfl) | exact rv_cell1 (by rfl) (by repeat constructor) (by rfl) (by rfl) | exact rv_cellA (by rfl) (by repeat constructor) (by rfl) (by rfl) zlq)); exact zml; exact zkp; exact ⟨congrArg (fun x => Value.tuple #[.int .i64 x, .int .i64 0]) (by first | rfl | omega), rfl, rfl⟩)
      · refine Ct.enterV (by rfl) Tryd.func11 rfl Tryd.ntmps11 rfl (fun w0 Rest => ?_)
        (repeat' (first | refine zss ?_ | ((first | (with_reducible first | apply At.val | apply AtQ.val)); (exact zprA); exact rfl) | refine zs0 ?_ | ((with_reducible first | apply AtM1.callp | apply AtQ.callp | apply At.callp); kernel_rfl; exact rfl; exact rfl; exact m1) | ((with_reducible first | apply AtM1.callp | apply AtQ.callp | apply At.callp); kernel_rfl; exact rfl; exact rfl; exact m2) | ((with_reducible apply At.alloc (d := 8)); exact rfl; exact rfl; intro b8) | ((with_reducible apply At.alloc (d := 10)); exact rfl; exact rfl; intro b10) | (refine zsp ?_ ?_ <;> (intro hc; (try simp only [zhcs, reduceCtorEq] at hc); (try (exfalso; first | omega | contradiction | omega | exact absurd rfl hc | exact absurd (by decide) hc))))))
        all_goals ((with_reducible apply At.retV (B := [])); exact rfl; (repeat' (first | exact RVs.nil | (with_reducible apply RVs.cons) | exact rv_tmp (by rfl) | exact rv_cellN (by rfl) (by repeat constructor) (by rfl) (by rfl) (by rfl) | exact rv_cell1 (by rfl) (by repeat constructor) (by rfl) (by rfl) | exact rv_cellA (by rfl) (by repeat constructor) (by rfl) (by rfl) zlq)); exact zml; exact zkp; exact ⟨congrArg (fun x => Value.tuple #[.int .i64 x, .int .i64 0]) (by first | omega | (split <;> omega)), rfl, rfl⟩)
    · rw [if_neg h0] at hr ⊢
      clear hV hV2 h hw
      refine Ct.enterV (by rfl) Tryd.func11 rfl Tryd.ntmps11 rfl (fun w0 Rest => ?_)
      (repeat' (first | refine zss ?_ | ((first | (with_reducible first | apply At.val | apply AtQ.val)); (exact zprA); exact rfl) | refine zs0 ?_ | ((with_reducible first | apply AtM1.callp | apply AtQ.callp | apply At.callp); kernel_rfl; exact rfl; exact rfl; exact m1) | ((with_reducible first | apply AtM1.callp | apply AtQ.callp | apply At.callp); kernel_rfl; exact rfl; exact rfl; exact m2) | ((with_reducible apply At.alloc (d := 8)); exact rfl; exact rfl; intro b8) | ((with_reducible apply At.alloc (d := 10)); exact rfl; exact rfl; intro b10) | (refine zsp ?_ ?_ <;> (intro hc; (try simp only [zhcs, reduceCtorEq] at hc); (try (exfalso; first | omega | contradiction | omega | exact absurd rfl hc | exact absurd (by decide) hc))))))
      all_goals ((with_reducible apply At.retV (B := [])); exact rfl; (repeat' (first | exact RVs.nil | (with_reducible apply RVs.cons) | exact rv_tmp (by rfl) | exact rv_cellN (by rfl) (by repeat constructor) (by rfl) (by rfl) (by rfl) | exact rv_cell1 (by rfl) (by repeat constructor) (by rfl) (by rfl) | exact rv_cellA (by rfl) (by repeat constructor) (by rfl) (by rfl) zlq)); exact zml; exact zkp; exact ⟨congrArg (fun x => Value.tuple #[.int .i64 x, .int .i64 0]) (by first | omega | (split <;> omega)), rfl, rfl⟩)
theorem of_r40 {m : Mem} (h1' : Ra.One m) (num den : Nat) (h1 : num < 18446744073709551616) (h2 : den < 18446744073709551616) (p : Option Addr) (c : Nat) (l : List (Nat × Nat)) (hl : l.length ≤ 1000000) (hb : ∀ x ∈ l, In2 x) (sl0 : Sl m fd 4 p c l) :
    Ct Tryd.prog 13 #[.int .u64 (num : Int), .int .u64 (den : Int), .slice p l.length c] m [] (fun v m' B => v = .tuple #[fv (ofV num den l).1, .int .i64 (ofV num den l).2] ∧ m = m' ∧ B = []) := by
  have k1 := fun (m' : Mem) (hm' : m.le m') => sort_r (m := m') (h1'.mono hm') p c l hl hb (sl0.mono hm')
  have k2 := rank_r (l.length : Int) (by omega) num den h1 h2
  unfold ofV
  unfold outS at k1
  by_cases hk : chkL l = 0
  · rw [hk, if_pos rfl] at k1
    rw [hk, if_neg (fun e => e rfl)]
    have hn := srt_len l
    generalize srt l = X at *
    by_cases hr : (rkV l.length num den).2 = 0
    · obtain ⟨K, eK, hK⟩ := rkV_yes hr
      rw [eK] at k2 ⊢
      rw [if_neg (fun e => e rfl)]
      have hw : IntKind.wrap .i64 (((K + 1 : Nat) : Int) - 1) = (K : Int) := by rw [show ((K + 1 : Nat) : Int) - 1 = (K : Int) by omega]; exact IntWalk.i64_in _ (by omega)
      rw [show ((((K + 1 : Nat) : Int), (0 : Int)).1).toNat - 1 = K from rfl]
      clear eK hr
      refine Ct.enterV (by rfl) Tryd.func13 rfl Tryd.ntmps13 rfl (fun w0 Rest => ?_)
      (repeat' (first | refine zss ?_ | ((first | (with_reducible first | apply At.val | apply AtQ.val)); (first | exact pr_sub (by rfl) (by rfl) hw | exact zprA); exact rfl) | refine zsOM ?_ | ((with_reducible first | apply At.c1 | apply At.c0); exact rfl; exact rfl; exact k1 _ zml; exact ztk; kernel_rfl; rintro v' m' B' hm' ⟨rfl, p1, c1, rfl, rfl⟩; (try replace sl0 := sl0.mono hm'); (try (have hq0 : hm' = Mem.le_refl _ := rfl; clear hq0 hm'))) | ((with_reducible first | apply AtM1.callp | apply AtQ.callp | apply At.callp); kernel_rfl; exact rfl; exact rfl; exact k2) | ((with_reducible apply At.alloc (d := 6)); exact rfl; exact rfl; intro b6) | (refine zsp ?_ ?_ <;> (intro hc; (try simp only [zhcs, reduceCtorEq] at hc); (try (exfalso; first | omega | contradiction | omega | exact absurd rfl hc | exact absurd (by decide) hc))))))
      all_goals ((with_reducible apply At.retV (B := [])); exact rfl; (repeat' (first | exact RVs.nil | (with_reducible apply RVs.cons) | exact rv_tmp (by rfl) | exact rv_cellN (by rfl) (by repeat constructor) (by rfl) (by rfl) (by rfl) | exact rv_cell1 (by rfl) (by repeat constructor) (by rfl) (by rfl) | exact rv_cellA (by rfl) (by repeat constructor) (by rfl) (by rfl) zlq)); exact zml; exact zkp; exact ⟨rfl, rfl, rfl⟩)
    · rw [rkV_no hr] at k2
      rw [if_pos hr]
      refine Ct.enterV (by rfl) Tryd.func13 rfl Tryd.ntmps13 rfl (fun w0 Rest => ?_)
      (repeat' (first | refine zss ?_ | ((first | (with_reducible first | apply At.val | apply AtQ.val)); (exact zprA); exact rfl) | refine zsOM ?_ | ((with_reducible first | apply At.c1 | apply At.c0); exact rfl; exact rfl; exact k1 _ zml; exact ztk; kernel_rfl; rintro v' m' B' hm' ⟨rfl, p1, c1, rfl, rfl⟩; (try replace sl0 := sl0.mono hm'); (try (have hq0 : hm' = Mem.le_refl _ := rfl; clear hq0 hm'))) | ((with_reducible first | apply AtM1.callp | apply AtQ.callp | apply At.callp); kernel_rfl; exact rfl; exact rfl; exact k2) | ((with_reducible apply At.alloc (d := 6)); exact rfl; exact rfl; intro b6) | (refine zsp ?_ ?_ <;> (intro hc; (try simp only [zhcs, reduceCtorEq] at hc); (try (exfalso; first | omega | contradiction | omega | exact absurd rfl hc | exact absurd (by decide) hc))))))
      all_goals ((with_reducible apply At.retV (B := [])); exact rfl; (repeat' (first | exact RVs.nil | (with_reducible apply RVs.cons) | exact rv_tmp (by rfl) | exact rv_cellN (by rfl) (by repeat constructor) (by rfl) (by rfl) (by rfl) | exact rv_cell1 (by rfl) (by repeat constructor) (by rfl) (by rfl) | exact rv_cellA (by rfl) (by repeat constructor) (by rfl) (by rfl) zlq)); exact zml; exact zkp; exact ⟨rfl, rfl, rfl⟩)
  · rw [if_neg hk] at k1
    rw [if_pos hk]
    generalize chkL l = w at *
    refine Ct.enterV (by rfl) Tryd.func13 rfl Tryd.ntmps13 rfl (fun w0 Rest => ?_)
    (repeat' (first | refine zss ?_ | ((first | (with_reducible first | apply At.val | apply AtQ.val)); (exact zprA); exact rfl) | refine zsOM ?_ | ((with_reducible first | apply At.c1 | apply At.c0); exact rfl; exact rfl; exact k1 _ zml; exact ztk; kernel_rfl; rintro v' m' B' hm' ⟨rfl, p1, c1, rfl, rfl⟩; (try replace sl0 := sl0.mono hm'); (try (have hq0 : hm' = Mem.le_refl _ := rfl; clear hq0 hm'))) | ((with_reducible apply At.alloc (d := 6)); exact rfl; exact rfl; intro b6) | (refine zsp ?_ ?_ <;> (intro hc; (try simp only [zhcs, reduceCtorEq] at hc); (try (exfalso; first | (first | omega | exact absurd hc hk) | contradiction | omega | exact absurd rfl hc | exact absurd (by decide) hc))))))
    all_goals ((with_reducible apply At.retV (B := [])); exact rfl; (repeat' (first | exact RVs.nil | (with_reducible apply RVs.cons) | exact rv_tmp (by rfl) | exact rv_cellN (by rfl) (by repeat constructor) (by rfl) (by rfl) (by rfl) | exact rv_cell1 (by rfl) (by repeat constructor) (by rfl) (by rfl) | exact rv_cellA (by rfl) (by repeat constructor) (by rfl) (by rfl) zlq)); exact zml; exact zkp; exact ⟨none_v w, rfl, rfl⟩)
theorem checkC {m : Mem} (h1' : Ra.One m) (p : Option Addr) (c n : Nat) (l : List (Nat × Nat)) (w : Int) (hn : l.length = n) (hl : l.length ≤ 1000000) (hb : ∀ x ∈ l, In2 x) (hw : chkL l = w) (sl0 : Sl m fd 4 p c l) :
    Rd Tryd.prog 17 #[.slice p n c] m [] (.int .i64 w) := by
  subst hn hw
  exact check_r h1' p c l hl hb sl0
theorem small_v {k : Nat} (h : k < 18446744073709551616) : Value.agg #[.int .u64 0, .int .u64 (k : Int)] = wv k := wd_mk (by omega) (by omega)
theorem share_r {m : Mem} (h1' : Ra.One m) (f : Nat × Nat) (hf : In2 f) (p : Option Addr) (c : Nat) (l : List (Nat × Nat)) (hl : l.length ≤ 1000000) (hb : ∀ x ∈ l, In2 x) (sl0 : Sl m fd 4 p c l) :
    Ct Tryd.prog 15 #[fv f, .slice p l.length c] m [] (fun v m' B => v = .tuple #[fv (shV f l).1, .int .i64 (shV f l).2] ∧ m.le m' ∧ B = []) := by
  have hb1 : ∀ x ∈ [f], In2 x := fun x hx => by rw [List.mem_singleton.1 hx]; exact hf
  have k1 := fun (m' : Mem) (hm' : m.le m') (p : Option Addr) (c : Nat) => checkC (m := m') (h1'.mono hm') p c 1 [f] (chkL [f]) rfl (show 1 ≤ 1000000 by decide) hb1 rfl
  have k2 := fun (m' : Mem) (hm' : m.le m') => check_r (m := m') (h1'.mono hm') p c l hl hb (sl0.mono hm')
  unfold shV
  by_cases hk : chkL [f] = 0
  rotate_left
  · rw [if_pos hk]
    generalize chkL [f] = w at *
    refine Ct.enterV (by rfl) Tryd.func15 rfl Tryd.ntmps15 rfl (fun w0 Rest => ?_)
    (repeat' (first | refine zss ?_ | ((first | (with_reducible first | apply At.val | apply AtQ.val)); (exact zprA); exact rfl) | refine zsOM ?_ | ((with_reducible apply At.litF fd [f]); exact inferInstance; (iterate 7 exact rfl); intro b' m' hm' sl5; (try replace sl0 := sl0.mono hm')) | ((with_reducible first | apply AtM1.cr | apply AtQ.cr | apply At.cr); exact rfl; exact rfl; exact fun _ hmm => k1 _ (Mem.le_trans zml hmm) _ _ (sl5.mono hmm); exact ztk; kernel_rfl) | ((with_reducible apply At.box (d := 2)); exact rfl; exact rfl; exact rfl; intro b2) | ((with_reducible apply At.alloc (d := 4)); exact rfl; exact rfl; intro b4) | ((with_reducible apply At.alloc (d := 10)); exact rfl; exact rfl; intro b10) | (refine zsp ?_ ?_ <;> (intro hc; (try simp only [zhcs, reduceCtorEq] at hc); (try (exfalso; first | (first | omega | exact absurd hc hk) | contradiction | omega | exact absurd rfl hc | exact absurd (by decide) hc))))))
    all_goals ((with_reducible apply At.retV (B := [])); exact rfl; (repeat' (first | exact RVs.nil | (with_reducible apply RVs.cons) | exact rv_tmp (by rfl) | exact rv_cellN (by rfl) (by repeat constructor) (by rfl) (by rfl) (by rfl) | exact rv_cell1 (by rfl) (by repeat constructor) (by rfl) (by rfl) | exact rv_cellA (by rfl) (by repeat constructor) (by rfl) (by rfl) zlq)); exact zml; exact zkp; exact ⟨none_v w, zml, rfl⟩)
  have hsf := chkL_ok hk f (List.mem_singleton.2 rfl)
  rw [hk] at k1
  rw [hk, if_neg (fun e => e rfl)]
  by_cases hk2 : chkL l = 0
  rotate_left
  · rw [if_pos hk2]
    generalize chkL l = w at *
    refine Ct.enterV (by rfl) Tryd.func15 rfl Tryd.ntmps15 rfl (fun w0 Rest => ?_)
    (repeat' (first | refine zss ?_ | ((first | (with_reducible first | apply At.val | apply AtQ.val)); (exact zprA); exact rfl) | refine zsOM ?_ | ((with_reducible apply At.litF fd [f]); exact inferInstance; (iterate 7 exact rfl); intro b' m' hm' sl5; (try replace sl0 := sl0.mono hm')) | ((with_reducible first | apply AtM1.cr | apply AtQ.cr | apply At.cr); exact rfl; exact rfl; exact fun _ hmm => k1 _ (Mem.le_trans zml hmm) _ _ (sl5.mono hmm); exact ztk; kernel_rfl) | ((with_reducible first | apply AtM1.cr | apply AtQ.cr | apply At.cr); exact rfl; exact rfl; exact fun _ hmm => k2 _ (Mem.le_trans zml hmm); exact ztk; kernel_rfl) | ((with_reducible apply At.box (d := 2)); exact rfl; exact rfl; exact rfl; intro b2) | ((with_reducible apply At.alloc (d := 4)); exact rfl; exact rfl; intro b4) | ((with_reducible apply At.alloc (d := 10)); exact rfl; exact rfl; intro b10) | (refine zsp ?_ ?_ <;> (intro hc; (try simp only [zhcs, reduceCtorEq] at hc); (try (exfalso; first | (first | omega | exact absurd hc hk2) | contradiction | omega | exact absurd rfl hc | exact absurd (by decide) hc))))))
    all_goals ((with_reducible apply At.retV (B := [])); exact rfl; (repeat' (first | exact RVs.nil | (with_reducible apply RVs.cons) | exact rv_tmp (by rfl) | exact rv_cellN (by rfl) (by repeat constructor) (by rfl) (by rfl) (by rfl) | exact rv_cell1 (by rfl) (by repeat constructor) (by rfl) (by rfl) | exact rv_cellA (by rfl) (by repeat constructor) (by rfl) (by rfl) zlq)); exact zml; exact zkp; exact ⟨none_v w, zml, rfl⟩)
  have hsl := chkL_ok hk2
  rw [hk2] at k2
  rw [hk2, if_neg (fun e => e rfl)]
  by_cases h0 : l.length = 0
  · rw [if_pos h0]
    refine Ct.enterV (by rfl) Tryd.func15 rfl Tryd.ntmps15 rfl (fun w0 Rest => ?_)
    (repeat' (first | refine zss ?_ | ((first | (with_reducible first | apply At.val | apply AtQ.val)); (exact zprA); exact rfl) | refine zsOM ?_ | ((with_reducible apply At.litF fd [f]); exact inferInstance; (iterate 7 exact rfl); intro b' m' hm' sl5; (try replace sl0 := sl0.mono hm')) | ((with_reducible first | apply AtM1.cr | apply AtQ.cr | apply At.cr); exact rfl; exact rfl; exact fun _ hmm => k1 _ (Mem.le_trans zml hmm) _ _ (sl5.mono hmm); exact ztk; kernel_rfl) | ((with_reducible first | apply AtM1.cr | apply AtQ.cr | apply At.cr); exact rfl; exact rfl; exact fun _ hmm => k2 _ (Mem.le_trans zml hmm); exact ztk; kernel_rfl) | ((with_reducible apply At.box (d := 2)); exact rfl; exact rfl; exact rfl; intro b2) | ((with_reducible apply At.alloc (d := 4)); exact rfl; exact rfl; intro b4) | ((with_reducible apply At.alloc (d := 10)); exact rfl; exact rfl; intro b10) | (refine zsp ?_ ?_ <;> (intro hc; (try simp only [zhcs, reduceCtorEq] at hc); (try (exfalso; first | omega | contradiction | omega | exact absurd rfl hc | exact absurd (by decide) hc))))))
    all_goals ((with_reducible apply At.retV (B := [])); exact rfl; (repeat' (first | exact RVs.nil | (with_reducible apply RVs.cons) | exact rv_tmp (by rfl) | exact rv_cellN (by rfl) (by repeat constructor) (by rfl) (by rfl) (by rfl) | exact rv_cell1 (by rfl) (by repeat constructor) (by rfl) (by rfl) | exact rv_cellA (by rfl) (by repeat constructor) (by rfl) (by rfl) zlq)); exact zml; exact zkp; exact ⟨rfl, zml, rfl⟩)
  rw [if_neg h0]
  have hcl := cnt_le f l
  have k3 := Ra.reduce_r Ra.whole_r (cnt f l) l.length (by omega) (by omega)
  rw [← small_v (k := cnt f l) (by omega), ← small_v (k := l.length) (by omega)] at k3
  generalize Ra.red (cnt f l) l.length = R at *
  refine Ct.enterV (by rfl) Tryd.func15 rfl Tryd.ntmps15 rfl (fun w0 Rest => ?_)
  (repeat' (first | refine zss ?_ | ((first | (with_reducible first | apply At.val | apply AtQ.val)); (exact zprA); exact rfl) | refine zsOM ?_ | ((with_reducible apply At.litF fd [f]); exact inferInstance; (iterate 7 exact rfl); intro b' m' hm' sl5; (try replace sl0 := sl0.mono hm')) | ((with_reducible first | apply AtM1.cr | apply AtQ.cr | apply At.cr); exact rfl; exact rfl; exact fun _ hmm => k1 _ (Mem.le_trans zml hmm) _ _ (sl5.mono hmm); exact ztk; kernel_rfl) | ((with_reducible first | apply AtM1.cr | apply AtQ.cr | apply At.cr); exact rfl; exact rfl; exact fun _ hmm => k2 _ (Mem.le_trans zml hmm); exact ztk; kernel_rfl) | ((with_reducible apply At.box (d := 2)); exact rfl; exact rfl; exact rfl; intro b2) | ((with_reducible apply At.alloc (d := 4)); exact rfl; exact rfl; intro b4) | ((with_reducible apply At.alloc (d := 10)); exact rfl; exact rfl; intro b10) | (refine zsp ?_ ?_ <;> (intro hc; (try simp only [zhcs, reduceCtorEq] at hc); (try (exfalso; first | omega | contradiction | omega | exact absurd rfl hc | exact absurd (by decide) hc))))))
  have h1'' := h1'.mono hm'
  clear k1 k2 hk hk2 hb hb1 hf
  (refine At.loopk (σ := SK) [1, 2, 4, 28, 29] (fun s F0 => (30, .int .i64 (s.i : Int)) :: (8, .int .u64 (s.n : Int)) :: F0) (fun s => m') (fun s => .blk b4 27 [.int .u64 0, .int .u64 0, .int .u64 0, .int .u64 0] :: .blk b2 27 (fd f) :: Rest) (fun s => s.i ≤ l.length ∧ s.n = cnt f (l.take s.i)) (fun s => l.length - s.i) ⟨0, 0⟩ (by rfl) ?_ zsubs zml zente ?_)
  · exact ⟨Nat.zero_le _, rfl⟩
  rintro ⟨i, n⟩ ⟨hi, hn⟩
  dsimp only at hi hn ⊢
  by_cases h : i < l.length
  · have e1 := cnt_snoc (f := f) h
    rw [← hn] at e1
    have hcn := cnt_le f (l.take i)
    rw [← hn, List.length_take] at hcn
    have k6 := fun (m2 : Mem) (h : m'.le m2) => less_q (m := m2) (h1''.mono h) f l[i]! hsf (hsl _ (Ls.mem! (by assumption)))
    have hlq := lq_lt l[i]! f
    by_cases hq : lq l[i]! f = true
    · rw [if_pos hq] at e1
      have hd : decide (f.1 * l[i]!.2 < l[i]!.1 * f.2) = false := by rw [hq] at hlq; exact (Bool.not_eq_true' _).mp hlq.symm
      rw [hd] at k6
      clear hlq hsl hsf k3 hcl hd
      (repeat' (first | refine zss ?_ | ((first | (with_reducible first | apply At.val | apply AtQ.val)); (exact zprA); exact rfl) | refine zsM ?_ | ((with_reducible first | apply AtM1.cr | apply AtQ.cr | apply At.cr); exact rfl; exact rfl; exact fun _ hmm => k6 _ hmm; exact ztk; kernel_rfl) | ((with_reducible apply At.box (d := 2)); exact rfl; exact rfl; exact rfl; intro b2) | ((with_reducible apply At.alloc (d := 4)); exact rfl; exact rfl; intro b4) | ((with_reducible apply At.alloc (d := 10)); exact rfl; exact rfl; intro b10) | (refine zsp ?_ ?_ <;> (intro hc; (try simp only [zhcs, reduceCtorEq] at hc); (try (exfalso; first | omega | contradiction | omega | exact absurd rfl hc | exact absurd (by decide) hc))))))
      all_goals ((with_reducible refine At.reachk (⟨i + 1, n + 1⟩) ?_ ?_ ?_ ?_); exact zsubs; exact zml; exact zente; exact ⟨⟨h, e1.symm⟩, by dsimp only; omega⟩)
    · rw [if_neg hq] at e1
      have hd : decide (f.1 * l[i]!.2 < l[i]!.1 * f.2) = true := by rw [Bool.eq_false_iff.2 hq] at hlq; exact (Bool.not_eq_false' _).mp hlq.symm
      rw [hd] at k6
      clear hlq hsl hsf k3 hcl hd
      (repeat' (first | refine zss ?_ | ((first | (with_reducible first | apply At.val | apply AtQ.val)); (exact zprA); exact rfl) | refine zsM ?_ | ((with_reducible first | apply AtM1.cr | apply AtQ.cr | apply At.cr); exact rfl; exact rfl; exact fun _ hmm => k6 _ hmm; exact ztk; kernel_rfl) | ((with_reducible apply At.box (d := 2)); exact rfl; exact rfl; exact rfl; intro b2) | ((with_reducible apply At.alloc (d := 4)); exact rfl; exact rfl; intro b4) | ((with_reducible apply At.alloc (d := 10)); exact rfl; exact rfl; intro b10) | (refine zsp ?_ ?_ <;> (intro hc; (try simp only [zhcs, reduceCtorEq] at hc); (try (exfalso; first | omega | contradiction | omega | exact absurd rfl hc | exact absurd (by decide) hc))))))
      all_goals ((with_reducible refine At.reachk (⟨i + 1, n⟩) ?_ ?_ ?_ ?_); exact zsubs; exact zml; exact zente; exact ⟨⟨h, e1.symm⟩, by dsimp only; omega⟩)
  · rw [List.take_of_length_le (by omega)] at hn
    subst hn
    clear hsl hsf hi
    (repeat' (first | refine zss ?_ | ((first | (with_reducible first | apply At.val | apply AtQ.val)); (exact zprA); exact rfl) | refine zsM ?_ | ((with_reducible first | apply AtM1.callp | apply AtQ.callp | apply At.callp); kernel_rfl; exact rfl; exact rfl; exact k3) | ((with_reducible apply At.box (d := 2)); exact rfl; exact rfl; exact rfl; intro b2) | ((with_reducible apply At.alloc (d := 4)); exact rfl; exact rfl; intro b4) | ((with_reducible apply At.alloc (d := 10)); exact rfl; exact rfl; intro b10) | (refine zsp ?_ ?_ <;> (intro hc; (try simp only [zhcs, reduceCtorEq] at hc); (try (exfalso; first | omega | contradiction | omega | exact absurd rfl hc | exact absurd (by decide) hc))))))
    all_goals ((with_reducible apply At.retV (B := [])); exact rfl; (repeat' (first | exact RVs.nil | (with_reducible apply RVs.cons) | exact rv_tmp (by rfl) | exact rv_cellN (by rfl) (by repeat constructor) (by rfl) (by rfl) (by rfl) | exact rv_cell1 (by rfl) (by repeat constructor) (by rfl) (by rfl) | exact rv_cellA (by rfl) (by repeat constructor) (by rfl) (by rfl) zlq)); exact zml; exact zkp; exact ⟨rfl, zml, rfl⟩)
end Qu
end Go.Proofs.YtmnlmmbfjfgfeaaDoor
/- A law's slices: opened into lists. -/
set_option linter.unusedSimpArgs false
set_option linter.unusedVariables false
set_option linter.unusedSectionVars false
set_option maxRecDepth 20000
namespace Go.J
open Go Go.ChangeShapes Go.WideShapes Go.ChangeAt Go.RowKit

theorem cell_cells {w : World} {a : Addr} {v : Value} (h : w.cell? a = some v) : a.spot = none ∧ ∃ E cs fz, w.heap[a.block]? = some (.cells cs E fz) ∧ cs[a.off]? = some v := by
  unfold World.cell? at h
  cases hb : w.heap[a.block]? with
  | none => rw [hb] at h; cases h
  | some o =>
    rw [hb] at h
    cases o <;> simp at h
    rename_i cs E fz
    exact ⟨by
      cases hs : a.spot with
      | none => rfl
      | some x => rw [hs] at h; simp at h, E, cs, fz, rfl, h.2⟩

theorem open_sl {α : Type} [Inhabited α] {f : α → List Value} {sz : Nat} (hf : Fl f sz) (φ : α → Prop) {H : Type} {enc : TypeId × Value → H} {P : Program} {W : World} {t e : TypeId} {fuel : Nat} {cs : List Value} {x : DataW H × List MemPlace}
    (ht : P.underlying t = some (.slice e)) (hc : P.cellsOf e = sz)
    (hdec : ∀ n cs' y, cs'.length = sz → DataW.trod enc P W 0 (fun _ => true) true n e cs' = some y → ∃ a, cs' = f a ∧ φ a)
    (h : DataW.trod enc P W 0 (fun _ => true) true fuel t cs = some x) : ∃ p c l, cs = [.slice p l.length c] ∧ Sl (memOf W) f sz p c l ∧ ∀ a ∈ l, φ a := by
  rcases Go.Deep.open_slice ht h with ⟨rfl, _⟩ | ⟨a, len, cap, m, n, D, Pl, rfl, _, hl, hm, hmm, _, hx⟩
  · exact ⟨none, 0, [], rfl, Sl.empty _ hf, fun a ha => by cases ha⟩
  · simp only [if_true] at hmm
    subst hmm
    obtain ⟨A, hA⟩ := Go.Deep.choose_lt (α := α) (n := m) (p := fun i y => W.cells? 0 (a.add (i * sz)) sz = some (f y) ∧ φ y) (fun i hi => by
      obtain ⟨cs', h1, h2⟩ := hx i hi
      rw [hc] at h1
      obtain ⟨_, hlen, _⟩ := World.cells?_some h1
      obtain ⟨y, rfl, hy⟩ := hdec n cs' _ hlen h2
      exact ⟨y, h1, hy⟩)
    have hll : ((List.range len).map A).length = len := by simp
    refine ⟨some a, m, (List.range len).map A, by rw [hll], ⟨hf, by rw [hll]; exact hl, hm, (fun e => by cases e), fun a' ha' hpos => ?_⟩, fun y hy => ?_⟩
    · cases ha'
      have hsz := hf.pos
      have hcell : ∀ i j, i < m → j < sz → W.cell? ((a.add (i * sz)).add j) = (f (A i))[j]? := fun i j hi hj => (World.cells?_some (hA i hi).1).2.2 j hj
      have hlen : ∀ i j, j < sz → ∃ v, (f (A i))[j]? = some v := fun i j hj => ⟨(f (A i))[j]'(by rw [hf.len]; exact hj), List.getElem?_eq_getElem _⟩
      obtain ⟨v0, hv0⟩ := hlen 0 0 hsz
      have h00 := hcell 0 0 hpos hsz
      rw [hv0] at h00
      have e0 : (a.add (0 * sz)).add 0 = a := by simp [Addr.add]
      rw [e0] at h00
      obtain ⟨hspot, E, cs, fz, hb, _⟩ := cell_cells h00
      have ea : ∀ k, a.add k = ⟨a.block, a.off + k, none⟩ := fun k => by cases a; simp only at hspot; subst hspot; exact Addr.add_eq _ _ _
      have hcell' : ∀ i j, i < m → j < sz → cs[a.off + (i * sz + j)]? = (f (A i))[j]? := fun i j hi hj => by
        have := hcell i j hi hj
        rw [ea, Addr.add_eq, World.cell_of hb] at this
        rw [← this, Nat.add_assoc]
      refine ⟨hspot, E, cs, fz, hb, ?_, fun i j hi hj => ?_⟩
      · obtain ⟨v, hv⟩ := hlen (m - 1) (sz - 1) (by omega)
        have h1 := hcell' (m - 1) (sz - 1) (by omega) (by omega)
        rw [hv] at h1
        have h2 := (Array.getElem?_eq_some_iff.1 h1).1
        have h3 : (m - 1) * sz + sz = m * sz := by
          have := Nat.succ_mul (m - 1) sz
          rw [show (m - 1).succ = m by omega] at this; omega
        omega
      · rw [hll] at hi
        rw [hcell' i j (by omega) hj]
        congr 2
        rw [List.getElem!_eq_getElem?_getD]; simp [hi]
    · obtain ⟨i, hi, rfl⟩ := List.mem_map.1 hy
      exact (hA i (by have := List.mem_range.1 hi; omega)).2

/-- a law's argument that is a slice -/
theorem open_sl_arg {α : Type} [Inhabited α] {f : α → List Value} {sz : Nat} (hf : Fl f sz) (φ : α → Prop) {H : Type} {enc : TypeId × Value → H} {P : Program} {W : World} {t e : TypeId} {v : Value} {d : DataW H} {ps : List MemPlace}
    (ht : P.underlying t = some (.slice e)) (hc : P.cellsOf e = sz)
    (hdec : ∀ n cs' y, cs'.length = sz → DataW.trod enc P W 0 (fun _ => true) true n e cs' = some y → ∃ a, cs' = f a ∧ φ a)
    (hsl : ∃ p l c, v = .slice p l c) (h : DataW.Trod enc P W 0 (fun _ => true) true t v d ps) : ∃ p c l, v = .slice p l.length c ∧ Sl (memOf W) f sz p c l ∧ ∀ a ∈ l, φ a := by
  obtain ⟨fuel, hfl⟩ := h
  obtain ⟨p0, l0, c0, rfl⟩ := hsl
  obtain ⟨p, c, l, h1, h2⟩ := open_sl hf φ ht hc hdec hfl
  refine ⟨p, c, l, ?_, h2⟩
  simpa [Value.cells] using h1

theorem dec_int {H : Type} {enc : TypeId × Value → H} {P : Program} {W : World} {e : TypeId} {k : IntKind} (he : P.underlying e = some (.int k)) : ∀ n cs' y, cs'.length = 1 → DataW.trod enc P W 0 (fun _ => true) true n e cs' = some y → ∃ a : Int, cs' = [.int k a] ∧ (Lit.int k a).wf = true := fun n cs' y _ h => by
  obtain ⟨a, h1, _, h3⟩ := DataW.trod_int he h
  exact ⟨a, h1, h3⟩
end Go.J
/- A law's arguments of any plain make: structs of whole numbers, truth values, texts, and slices, opened into their cells. -/
set_option linter.unusedSimpArgs false
set_option linter.unusedVariables false
set_option linter.unusedSectionVars false
set_option maxRecDepth 20000
namespace Go.J
open Go Go.ChangeShapes Go.WideShapes Go.ChangeAt Go.RowKit

inductive LK
  | int (k : IntKind)
  | bool
  | str
  | sl (t : TypeId)

section
variable {H : Type} {enc : TypeId × Value → H} {P : Program} {W : World}

def Fit1 (enc : TypeId × Value → H) (P : Program) (W : World) : LK → Value → Prop
  | .int k, v => ∃ a, v = .int k a ∧ (Lit.int k a).wf = true
  | .bool, v => ∃ b, v = .bool b
  | .str, v => ∃ l, v = .string (str l) ∧ l.length ≤ maxLen
  | .sl t, v => ∃ n y, DataW.trod enc P W 0 (fun _ => true) true n t [v] = some y
def Fit (enc : TypeId × Value → H) (P : Program) (W : World) : List LK → List Value → Prop
  | [], [] => True
  | k :: ks, v :: vs => Fit1 enc P W k v ∧ Fit enc P W ks vs
  | _, _ => False
theorem Fit.append : ∀ {a b : List LK} {x y : List Value}, Fit enc P W a x → Fit enc P W b y → Fit enc P W (a ++ b) (x ++ y)
  | [], _, [], _, _, h => h
  | _ :: _, _, _ :: _, _, ⟨h1, h2⟩, h => ⟨h1, Fit.append h2 h⟩
  | [], _, _ :: _, _, h, _ => h.elim
  | _ :: _, _, [], _, h, _ => h.elim

theorem Fit.cons {k : LK} {ks : List LK} {cs : List Value} (h : Fit enc P W (k :: ks) cs) : ∃ v vs, cs = v :: vs ∧ Fit1 enc P W k v ∧ Fit enc P W ks vs := by
  cases cs with
  | nil => exact h.elim
  | cons v vs => exact ⟨v, vs, rfl, h.1, h.2⟩
theorem Fit.nil {cs : List Value} (h : Fit enc P W [] cs) : cs = [] := by
  cases cs with
  | nil => rfl
  | cons v vs => exact h.elim
theorem Fit1.int {k : IntKind} {v : Value} (h : Fit1 enc P W (.int k) v) : ∃ a, v = .int k a ∧ (Lit.int k a).wf = true := h
theorem Fit1.bool {v : Value} (h : Fit1 enc P W .bool v) : ∃ b, v = .bool b := h
theorem Fit1.str {v : Value} (h : Fit1 enc P W .str v) : ∃ l, v = .string (J.str l) ∧ l.length ≤ maxLen := h

def leavesF (P : Program) (rec : TypeId → Option (List LK)) (total : Nat) : Nat → List Field → Option (List LK)
  | off, [] => match Nat.beq off total with
    | true => some []
    | false => none
  | off, f :: fs => match Nat.beq f.offset off with
    | true => match rec f.type with
      | some a => match leavesF P rec total (off + P.cellsOf f.type) fs with
        | some b => some (a ++ b)
        | none => none
      | none => none
    | false => none
def leavesB (P : Program) : Nat → TypeId → Option (List LK)
  | 0, _ => none
  | d + 1, t => match P.underlying t with
    | some (.int k) => some [.int k]
    | some .bool => some [.bool]
    | some .string => some [.str]
    | some (.slice _) => some [.sl t]
    | some (.struct fs) => leavesF P (leavesB P d) (P.cellsOf t) 0 fs.toList
    | some (.array n e) => match leavesB P d e with
      | some a => match Nat.beq (P.cellsOf t) (n * P.cellsOf e) with
        | true => some (List.replicate n a).flatten
        | false => none
      | none => none
    | _ => none

theorem trod_bool' {t : TypeId} {n : Nat} {cs : List Value} {x : DataW H × List MemPlace} (ht : P.underlying t = some .bool) (h : DataW.trod enc P W 0 (fun _ => true) true n t cs = some x) : ∃ b, cs = [.bool b] := by
  cases n with
  | zero => simp [DataW.trod] at h
  | succ n =>
    unfold DataW.trod at h
    rw [ht] at h
    split at h <;> simp_all

theorem trod_fit : ∀ (d n : Nat) (t : TypeId) (cs : List Value) (x : DataW H × List MemPlace) (ks : List LK), leavesB P d t = some ks → DataW.trod enc P W 0 (fun _ => true) true n t cs = some x → Fit enc P W ks cs
  | 0, _, _, _, _, _, h, _ => by cases h
  | d + 1, n, t, cs, x, ks, h, hx => by
    have ih := trod_fit d
    unfold leavesB at h
    cases hu : P.underlying t with
    | none => rw [hu] at h; cases h
    | some u =>
      rw [hu] at h
      cases u <;> simp only at h <;> try (cases h; done)
      case int k =>
        cases h
        obtain ⟨a, rfl, _, h3⟩ := DataW.trod_int hu hx
        exact ⟨⟨a, rfl, h3⟩, trivial⟩
      case bool =>
        cases h
        obtain ⟨b, rfl⟩ := trod_bool' hu hx
        exact ⟨⟨b, rfl⟩, trivial⟩
      case string =>
        cases h
        obtain ⟨s, rfl, _, h3⟩ := DataW.trod_string hu hx
        obtain ⟨l, rfl⟩ := str_of s
        exact ⟨⟨l, rfl, by rw [str_size] at h3; exact h3⟩, trivial⟩
      case slice e =>
        cases h
        have : ∃ v, cs = [v] := by
          rcases DataW.trod_slice hu hx with ⟨rfl, _⟩ | ⟨a, len, cap, _, _, _, _, rfl, _⟩
          · exact ⟨_, rfl⟩
          · exact ⟨_, rfl⟩
        obtain ⟨v, rfl⟩ := this
        exact ⟨⟨n, x, hx⟩, trivial⟩
      case array k e =>
        cases h1 : leavesB P d e with
        | none => rw [h1] at h; cases h
        | some a =>
          rw [h1] at h
          simp only at h
          cases hb : Nat.beq (P.cellsOf t) (k * P.cellsOf e) with
          | false => rw [hb] at h; cases h
          | true =>
            rw [hb] at h
            cases h
            have hl0 := Nat.eq_of_beq_eq_true hb
            obtain ⟨xs, m, _, _, hlen, hxl, hf⟩ := DataW.trod_array hu hx
            have key : ∀ i, i ≤ k → Fit enc P W ((List.replicate i a).flatten) (cs.drop ((k - i) * P.cellsOf e)) := by
              intro i
              induction i with
              | zero =>
                intro _
                rw [List.drop_eq_nil_of_le (by rw [hlen, hl0, Nat.sub_zero]; exact Nat.le_refl _)]
                trivial
              | succ i ih2 =>
                intro hi
                have e1 := hf (k - (i + 1)) (by omega)
                have hj : k - (i + 1) < xs.length := by omega
                rw [List.getElem?_eq_getElem hj] at e1
                have g1 := ih m e _ _ a h1 e1
                have g2 := ih2 (by omega)
                have e2 : (k - (i + 1)) * P.cellsOf e + P.cellsOf e = (k - i) * P.cellsOf e := by rw [← Nat.succ_mul]; congr 1; omega
                rw [List.replicate_succ, List.flatten_cons, show cs.drop ((k - (i + 1)) * P.cellsOf e) = (cs.drop ((k - (i + 1)) * P.cellsOf e)).take (P.cellsOf e) ++ cs.drop ((k - i) * P.cellsOf e) by
                  rw [← e2, ← List.drop_drop, List.take_append_drop]]
                exact Fit.append g1 g2
            have := key k (Nat.le_refl _)
            simpa using this
      case struct fs =>
        obtain ⟨xs, n', _, _, hlen, hxs, hf⟩ := DataW.trod_struct hu hx
        have hf' : ∀ f ∈ fs.toList, ∃ y, DataW.trod enc P W 0 (fun _ => true) true n' f.type ((cs.drop f.offset).take (P.cellsOf f.type)) = some y := fun f hm => by
          obtain ⟨i, hi, he⟩ := List.mem_iff_getElem.1 hm
          have hi' : i < fs.size := by simpa using hi
          have h1 : fs[i]? = some f := by
            rw [Array.getElem?_eq_getElem hi']
            congr 1
          exact ⟨xs[i], by rw [hf i f h1, List.getElem?_eq_getElem]⟩
        have key : ∀ (l : List Field) (off : Nat) (ks : List LK), (∀ f ∈ l, ∃ y, DataW.trod enc P W 0 (fun _ => true) true n' f.type ((cs.drop f.offset).take (P.cellsOf f.type)) = some y) →
            leavesF P (leavesB P d) (P.cellsOf t) off l = some ks → Fit enc P W ks (cs.drop off) := by
          intro l
          induction l with
          | nil =>
            intro off ks _ h
            unfold leavesF at h
            cases hb : Nat.beq off (P.cellsOf t) with
            | false => rw [hb] at h; cases h
            | true =>
              rw [hb] at h
              cases h
              have := Nat.eq_of_beq_eq_true hb
              rw [List.drop_eq_nil_of_le (by omega)]
              trivial
          | cons f l ihl =>
            intro off ks hl h
            unfold leavesF at h
            cases hb : Nat.beq f.offset off with
            | false => rw [hb] at h; cases h
            | true =>
              rw [hb] at h
              simp only at h
              have hoff := Nat.eq_of_beq_eq_true hb
              cases h1 : leavesB P d f.type with
              | none => rw [h1] at h; cases h
              | some a =>
                rw [h1] at h
                simp only at h
                cases h2 : leavesF P (leavesB P d) (P.cellsOf t) (off + P.cellsOf f.type) l with
                | none => rw [h2] at h; cases h
                | some b =>
                  rw [h2] at h
                  cases h
                  obtain ⟨y, hy⟩ := hl f (List.mem_cons_self ..)
                  rw [hoff] at hy
                  have g1 := ih n' f.type _ y a h1 hy
                  have g2 := ihl (off + P.cellsOf f.type) b (fun g hg => hl g (List.mem_cons_of_mem _ hg)) h2
                  rw [show cs.drop off = (cs.drop off).take (P.cellsOf f.type) ++ cs.drop (off + P.cellsOf f.type) by
                    rw [← List.drop_drop, List.take_append_drop]]
                  exact Fit.append g1 g2
        have := key fs.toList 0 ks hf' h
        simpa using this

/-- an element of a slice, by its leaves -/
theorem dec_flat {α : Type} {f : α → List Value} {φ : α → Prop} {e : TypeId} (ks : List LK) (hk : leavesB P 6 e = some ks) (h : ∀ cs, Fit enc P W ks cs → ∃ a, cs = f a ∧ φ a) :
    ∀ n cs' y, cs'.length = P.cellsOf e → DataW.trod enc P W 0 (fun _ => true) true n e cs' = some y → ∃ a, cs' = f a ∧ φ a := fun n cs' y _ hy =>
  h cs' (trod_fit 6 n e cs' y ks hk hy)
theorem dec_flat' {α : Type} {f : α → List Value} {φ : α → Prop} {e : TypeId} {sz : Nat} (ks : List LK) (hk : leavesB P 6 e = some ks) (h : ∀ cs, Fit enc P W ks cs → ∃ a, cs = f a ∧ φ a) :
    ∀ n cs' y, cs'.length = sz → DataW.trod enc P W 0 (fun _ => true) true n e cs' = some y → ∃ a, cs' = f a ∧ φ a := fun n cs' y _ hy =>
  h cs' (trod_fit 6 n e cs' y ks hk hy)
/-- an argument that is a struct -/
theorem open_flat_arg {α : Type} {f : α → List Value} {φ : α → Prop} {t : TypeId} {fs : Array Field} {base : Nat} {v : Value} {d : DataW H} {ps : List MemPlace} (ks : List LK) (ht : P.underlying t = some (.struct fs)) (hk : leavesB P 6 t = some ks)
    (h : ∀ cs, Fit enc P W ks cs → ∃ a, cs = f a ∧ φ a) {r : Reach} (hv : Value.okWide P W r base t v) (hx : DataW.Trod enc P W 0 (fun _ => true) true t v d ps) : ∃ a, v = .agg (f a).toArray ∧ φ a := by
  obtain ⟨cs, rfl, _⟩ := okWide_struct ht hv
  obtain ⟨fuel, hfl⟩ := hx
  obtain ⟨a, h1, h2⟩ := h _ (trod_fit 6 fuel t _ _ ks hk hfl)
  refine ⟨a, ?_, h2⟩
  have : cs.toList = f a := by simpa [Value.cells] using h1
  rw [← this]
/-- a slice that is part of something -/
theorem Fit1.sl {α : Type} [Inhabited α] {f : α → List Value} {sz : Nat} (hf : Fl f sz) (φ : α → Prop) {t e : TypeId} {v : Value} (ht : P.underlying t = some (.slice e)) (hc : P.cellsOf e = sz)
    (hdec : ∀ n cs' y, cs'.length = sz → DataW.trod enc P W 0 (fun _ => true) true n e cs' = some y → ∃ a, cs' = f a ∧ φ a) (h : Fit1 enc P W (.sl t) v) : ∃ p c l, v = .slice p l.length c ∧ Sl (memOf W) f sz p c l ∧ ∀ a ∈ l, φ a := by
  obtain ⟨n, y, hy⟩ := h
  obtain ⟨p, c, l, h1, h2⟩ := open_sl hf φ ht hc hdec hy
  exact ⟨p, c, l, by simpa using h1, h2⟩
end
end Go.J
/- The arguments of the laws of quant; what the listed variables read as. -/
set_option linter.unusedSimpArgs false
set_option linter.unusedVariables false
set_option linter.unusedSectionVars false
set_option maxRecDepth 20000
set_option maxHeartbeats 4000000
namespace Go.Proofs.YtmnlmmbfjfgfeaaDoor
open Go Go.J
attribute [local irreducible] At AtQ AtM AtM1 PR Ct Pu Rd Res.blk Res.own Res.ex RVs RV
namespace Qu
open Wide
theorem mk_wide {a b : Int} (wa : (Lit.int .u64 a).wf = true) (wb : (Lit.int .u64 b).wf = true) : ∃ x : Nat, [Value.int .u64 a, .int .u64 b] = wd x ∧ In x := by
  have ha := bounds_u64 wa
  have hb := bounds_u64 wb
  obtain ⟨x, hx⟩ : ∃ x : Nat, x = a.toNat * 18446744073709551616 + b.toNat := ⟨_, rfl⟩
  have e1 : ((x / 18446744073709551616 : Nat) : Int) = a := by omega
  have e2 : ((x % 18446744073709551616 : Nat) : Int) = b := by omega
  refine ⟨x, ?_, by unfold In; omega⟩
  unfold wd
  rw [e1, e2]
theorem dec_frac {H : Type} {enc : TypeId × Value → H} {P : Program} {W : World} : ∀ cs, Fit enc P W [.int .u64, .int .u64, .int .u64, .int .u64] cs → ∃ p : Nat × Nat, cs = fd p ∧ In2 p := by
  intro cs h
  obtain ⟨_, _, rfl, h1, h⟩ := h.cons
  obtain ⟨_, _, rfl, h2, h⟩ := h.cons
  obtain ⟨_, _, rfl, h3, h⟩ := h.cons
  obtain ⟨_, _, rfl, h4, h⟩ := h.cons
  obtain rfl := h.nil
  obtain ⟨a, rfl, wa⟩ := h1.int
  obtain ⟨b, rfl, wb⟩ := h2.int
  obtain ⟨c, rfl, wc⟩ := h3.int
  obtain ⟨d, rfl, wd'⟩ := h4.int
  obtain ⟨x, ex, hx⟩ := mk_wide wa wb
  obtain ⟨y, ey, hy⟩ := mk_wide wc wd'
  refine ⟨(x, y), ?_, hx, hy⟩
  show _ = wd x ++ wd y
  rw [← ex, ← ey]
  rfl
/-- what a variable reads as stays as memory grows -/
theorem var_up {W w : World} {name : String} {cs : Array Value} {g : Nat} (hg : Tryd.prog.globalNamed name = some g) (t : W.var? Tryd.prog name = some cs) (hw : ∀ k o, memOf W k = some o → w.heap[k]? = some o) : w.var? Tryd.prog name = some cs := by
  unfold World.var? at t ⊢
  rw [hg] at t ⊢
  rw [Option.bind_some] at t ⊢
  cases ho : W.heap[g]? with
  | none => rw [ho] at t; cases t
  | some o => rw [hw _ o ho]; rw [ho] at t; exact t
theorem tz_of {W : World} {l : List (String × DataW Unit)} (h : laidMetH Tryd.prog l W)
    (e : (l.filter fun x => x.1 == (Tryd.prog.globals[3]!).name) = [((Tryd.prog.globals[3]!).name, Lib.tabData .u8 (Lib.deBruijn64tab.map Int.ofNat))]) : Ra.TZ (memOf W) := by
  have h1 := h.filter (fun x => x.1 == (Tryd.prog.globals[3]!).name)
  rw [e, MakeChecks.laidMetH_plain _ _ _ (by kernel_rfl)] at h1
  have hg : Tryd.prog.globalNamed (Tryd.prog.globals[3]!).name = some 3 := by kernel_rfl
  have t := Lib.tabIs_of_head hg (by kernel_rfl) Tryd.underlying103 Tryd.underlying5 (by kernel_rfl) (by kernel_rfl) h1
  intro w hw j hj
  have t' : Lib.TabIs Tryd.prog w _ .u8 _ := var_up hg t hw
  rw [t'.cell hg j (by rw [List.length_map]; exact hj)]
  simp [List.getD, hj]
theorem one_of {W : World} {l : List (String × DataW Unit)} (h : laidMetH Tryd.prog l W)
    (e : (l.filter fun x => x.1 == (Tryd.prog.globals[2]!).name) = [((Tryd.prog.globals[2]!).name, .agg [.lit (.int .u64 0), .lit (.int .u64 1)])]) : Ra.One (memOf W) := by
  have h1 := h.filter (fun x => x.1 == (Tryd.prog.globals[2]!).name)
  rw [e, MakeChecks.laidMetH_plain _ _ _ (by kernel_rfl)] at h1
  have hg : Tryd.prog.globalNamed (Tryd.prog.globals[2]!).name = some 2 := by kernel_rfl
  have hty : (Tryd.prog.globals[2]?).map (·.type) = some 25 := by kernel_rfl
  obtain ⟨ps, ⟨g', t', cs, fuel, p, q, hg', ht', hvar, hd, _, _⟩, _⟩ := h1
  obtain rfl := Option.some.inj (hg.symm.trans hg')
  obtain rfl := Option.some.inj (hty.symm.trans ht')
  obtain ⟨y0, y1, n, e2, hl, h0, h2⟩ := Go.ChangeShapes.trod_struct2 Tryd.underlying25 hd
  obtain ⟨a, c0, r0, _⟩ := DataW.trod_int Tryd.underlying23 h0
  obtain ⟨b, c1, r1, _⟩ := DataW.trod_int Tryd.underlying23 h2
  rw [r0, r1] at e2
  have e3 := congrArg Prod.fst e2
  simp only [DataW.agg.injEq, List.cons.injEq, DataW.lit.injEq, Lit.int.injEq, true_and, and_true] at e3
  obtain ⟨rfl, rfl⟩ := e3
  have hl2 : cs.toList.length = 2 := hl.trans (by kernel_rfl)
  intro w hw j hj
  have hv := var_up hg hvar hw
  rw [World.var?_cell hg hv]
  have hz : Tryd.prog.cellsOf 23 = 1 := by kernel_rfl
  obtain ⟨x0, x1, hx⟩ : ∃ x0 x1, cs.toList = [x0, x1] := by
    generalize cs.toList = l at hl2
    match l, hl2 with
    | [x0, x1], _ => exact ⟨x0, x1, rfl⟩
  rw [hx] at c0 c1
  dsimp only at c0 c1
  rw [hz] at c0 c1
  have d0 : [x0] = [Value.int .u64 0] := c0
  have d1 : [x1] = [Value.int .u64 1] := c1
  injection d0 with d0
  injection d1 with d1
  have e5 : cs[j]? = [x0, x1][j]? := by rw [← hx, Array.getElem?_toList]
  rw [e5, d0, d1]
  rfl
end Qu
end Go.Proofs.YtmnlmmbfjfgfeaaDoor
/- What the laws of quant ask first: answers that the document gives. -/
set_option linter.unusedSimpArgs false
set_option linter.unusedVariables false
set_option linter.unusedSectionVars false
set_option maxRecDepth 20000
set_option maxHeartbeats 4000000
namespace Go.Proofs.YtmnlmmbfjfgfeaaDoor
open Go Go.J
attribute [local irreducible] At AtQ AtM AtM1 PR Ct Pu Rd Res.blk Res.own Res.ex RVs RV
namespace Qu
open Wide
theorem Pu.cast {P : Program} {f : FuncId} {a a' : Array Value} {V V' : Value} (h : Pu P f a V) (ha : a = a') (hV : V = V') : Pu P f a' V' := ha ▸ hV ▸ h
theorem Rd.cast {P : Program} {f : FuncId} {a a' : Array Value} {m : Mem} {A : List Res} {V V' : Value} (h : Rd P f a m A V) (ha : a = a') (hV : V = V') : Rd P f a' m A V' := ha ▸ hV ▸ h
theorem Rd.of_le {P : Program} {f : FuncId} {a : Array Value} {m : Mem} {V : Value} (h : Ct P f a m [] (fun v m' B => v = V ∧ m.le m' ∧ B = [])) : Rd P f a m [] V := by
  unfold Rd
  exact Ct.forget h fun _ _ _ _ ⟨h1, _, h3⟩ => ⟨h1, rfl, h3⟩
theorem Rd.of_eq {P : Program} {f : FuncId} {a : Array Value} {m : Mem} {V : Value} (h : Ct P f a m [] (fun v m' B => v = V ∧ m = m' ∧ B = [])) : Rd P f a m [] V := by
  unfold Rd
  exact Ct.mono h fun _ _ _ _ ⟨h1, h2, h3⟩ => ⟨h1, h2.symm, h3⟩
abbrev r4 (a b c d : Int) : Value := .agg #[.int .u64 a, .int .u64 b, .int .u64 c, .int .u64 d]
theorem of_f (n d : Nat) (hn : n < 18446744073709551616) (hd : d < 18446744073709551616) : Pu Tryd.prog 24 #[.int .u64 (n : Int), .int .u64 (d : Int)] (fv (n, d)) := Pu.intro fun m => by
  have k1 := of_ n hn
  have k2 := of_ d hd
  clear hn hd
  refine Ct.enterV (by rfl) Tryd.func24 rfl Tryd.ntmps24 rfl (fun w0 Rest => ?_)
  (repeat' (first | refine zss ?_ | ((first | (with_reducible first | apply At.val | apply AtQ.val)); (exact zprA); exact rfl) | refine zs0 ?_ | ((with_reducible first | apply AtM1.callp | apply AtQ.callp | apply At.callp); kernel_rfl; exact rfl; exact rfl; exact k1) | ((with_reducible first | apply AtM1.callp | apply AtQ.callp | apply At.callp); kernel_rfl; exact rfl; exact rfl; exact k2) | ((with_reducible apply At.alloc (d := 4)); exact rfl; exact rfl; intro b4) | (refine zsp ?_ ?_ <;> (intro hc; (try simp only [zhcs, reduceCtorEq] at hc); (try (exfalso; first | contradiction | omega | exact absurd rfl hc | exact absurd (by decide) hc))))))
  all_goals ((with_reducible apply At.retV (B := [])); exact rfl; (repeat' (first | exact RVs.nil | (with_reducible apply RVs.cons) | exact rv_tmp (by rfl) | exact rv_cellN (by rfl) (by repeat constructor) (by rfl) (by rfl) (by rfl) | exact rv_cell1 (by rfl) (by repeat constructor) (by rfl) (by rfl) | exact rv_cellA (by rfl) (by repeat constructor) (by rfl) (by rfl) zlq)); exact zml; exact zkp; exact ⟨rfl, rfl, rfl⟩)
abbrev L0 : List (Nat × Nat) := [(5, 1), (1, 2), (2, 3)]
abbrev L1 : List (Nat × Nat) := [(1, 2), (2, 3), (5, 1)]
theorem in3 : ∀ x ∈ L0, In2 x := fun x hx => by
  rcases List.mem_cons.1 hx with rfl | hx
  · exact ⟨(by decide : 5 < 340282366920938463463374607431768211456), (by decide : 1 < 340282366920938463463374607431768211456)⟩
  rcases List.mem_cons.1 hx with rfl | hx
  · exact ⟨(by decide : 1 < 340282366920938463463374607431768211456), (by decide : 2 < 340282366920938463463374607431768211456)⟩
  rcases List.mem_cons.1 hx with rfl | hx
  · exact ⟨(by decide : 2 < 340282366920938463463374607431768211456), (by decide : 3 < 340282366920938463463374607431768211456)⟩
  cases hx
theorem chk3 : chkL L0 = 0 := by decide +kernel
theorem chk0 : chkL [] = 0 := rfl
theorem srt3 : srt L0 = L1 := by
  rw [← isrt_eq (chkL_ok chk3)]
  decide +kernel
theorem outS3 : outS L0 = L1 := by
  unfold outS
  rw [if_pos chk3, srt3]
theorem rk3 : rkV 3 1 2 = (2, 0) := by decide +kernel
theorem ofV3 : ofV 1 2 L0 = ((2, 3), 0) := by
  unfold ofV
  rw [chk3, if_neg (fun e => e rfl), show (L0.length : Int) = 3 from rfl, rk3, if_neg (fun e => e rfl), srt3]
  rfl
theorem ofV0 : ofV 1 2 [] = ((0, 0), 1) := by decide +kernel
theorem shV3 : shV (2, 3) L0 = ((2, 3), 0) := by decide +kernel
theorem shV0 : shV (2, 3) [] = ((0, 0), 3) := by decide +kernel
theorem sortC {m : Mem} (ht : Ra.TZ m) (p : Option Addr) (c n k : Nat) (l o : List (Nat × Nat)) (w : Int) (hn : l.length = n) (hl : l.length ≤ 1000000) (hb : ∀ x ∈ l, In2 x) (ho : outS l = o) (hw : chkL l = w) (hk : o.length = k) (sl0 : Sl m fd 4 p c l) :
    Ct Tryd.prog 8 #[.slice p n c] m [] (fun v m' B => B = [] ∧ ∃ p c, v = .tuple #[.slice p k c, .int .i64 w] ∧ Sl m' fd 4 p c o) := by
  subst hn ho hw hk
  exact Ct.slice (R := fun v p' c' => v = .tuple #[.slice p' (outS l).length c', .int .i64 (chkL l)]) inferInstance (Ct.mono (sort_ ht p c l hl hb sl0) fun v m' B _ ⟨_, p', c', h1, h2⟩ => ⟨p', c', h1, h2⟩)
theorem sameC {m : Mem} (p : Option Addr) (c n : Nat) (a : List (Nat × Nat)) (q : Option Addr) (d k : Nat) (b : List (Nat × Nat)) (r : Bool) (hn : a.length = n) (hk : b.length = k) (hl : a.length ≤ 1000000) (hlb : b.length ≤ 1000000) (hr : decide (a = b) = r) (sl0 : Sl m fd 4 p c a) (sl1 : Sl m fd 4 q d b) :
    Rd Tryd.prog 18 #[.slice p n c, .slice q k d] m [] (.bool r) := by
  subst hn hk hr
  exact same_ p c a q d b hl hlb sl0 sl1
theorem checkQ {m : Mem} (ht : Ra.TZ m) (p : Option Addr) (c n : Nat) (l : List (Nat × Nat)) (w : Int) (hn : l.length = n) (hl : l.length ≤ 1000000) (hb : ∀ x ∈ l, In2 x) (hw : chkL l = w) (sl0 : Sl m fd 4 p c l) :
    Rd Tryd.prog 16 #[.slice p n c] m [] (.int .i64 w) := by
  subst hn hw
  exact check_ ht p c l hl hb sl0
theorem ofC {m : Mem} (ht : Ra.TZ m) (num den : Nat) (h1 : num < 18446744073709551616) (h2 : den < 18446744073709551616) (p : Option Addr) (c n : Nat) (l : List (Nat × Nat)) (hn : l.length = n) (hl : l.length ≤ 1000000) (hb : ∀ x ∈ l, In2 x) (sl0 : Sl m fd 4 p c l) :
    Rd Tryd.prog 12 #[.int .u64 (num : Int), .int .u64 (den : Int), .slice p n c] m [] (.tuple #[fv (ofV num den l).1, .int .i64 (ofV num den l).2]) := by
  subst hn
  exact Rd.of_eq (of_q ht num den h1 h2 p c l hl hb sl0)
theorem shareC {m : Mem} (ht : Ra.TZ m) (f : Nat × Nat) (hf : In2 f) (p : Option Addr) (c n : Nat) (l : List (Nat × Nat)) (hn : l.length = n) (hl : l.length ≤ 1000000) (hb : ∀ x ∈ l, In2 x) (sl0 : Sl m fd 4 p c l) :
    Rd Tryd.prog 14 #[fv f, .slice p n c] m [] (.tuple #[fv (shV f l).1, .int .i64 (shV f l).2]) := by
  subst hn
  exact Rd.of_le (share_ ht f hf p c l hl hb sl0)
theorem in1 {a b : Nat} (h1 : a < 340282366920938463463374607431768211456) (h2 : b < 340282366920938463463374607431768211456) : ∀ x ∈ [(a, b)], In2 x := fun x hx => by
  rw [List.mem_singleton.1 hx]
  exact ⟨h1, h2⟩
theorem in0 : ∀ x ∈ ([] : List (Nat × Nat)), In2 x := fun x hx => absurd hx List.not_mem_nil
theorem lives {m : Mem} (hz : Ra.TZ m) : Rd Tryd.prog 7 #[] m [] (.bool true) := Rd.of_le (by
  have o1 : Pu Tryd.prog 24 #[.int .u64 1, .int .u64 2] (r4 0 1 0 2) := Pu.cast (of_f 1 2 (by decide) (by decide)) rfl (by kernel_rfl)
  have o2 : Pu Tryd.prog 24 #[.int .u64 2, .int .u64 3] (r4 0 2 0 3) := Pu.cast (of_f 2 3 (by decide) (by decide)) rfl (by kernel_rfl)
  have o3 : Pu Tryd.prog 24 #[.int .u64 5, .int .u64 1] (r4 0 5 0 1) := Pu.cast (of_f 5 1 (by decide) (by decide)) rfl (by kernel_rfl)
  have o4 : Pu Tryd.prog 24 #[.int .u64 2, .int .u64 4] (r4 0 2 0 4) := Pu.cast (of_f 2 4 (by decide) (by decide)) rfl (by kernel_rfl)
  have o5 : Pu Tryd.prog 20 #[.int .u64 1] (.agg #[.int .u64 0, .int .u64 1]) := Pu.cast (of_ 1 (by decide)) rfl (by kernel_rfl)
  have r1 : Pu Tryd.prog 10 #[.int .i64 10, .int .u64 1, .int .u64 4] (.tuple #[.int .i64 3, .int .i64 0]) := Pu.cast (rank_ 10 (by decide) 1 4 (by decide) (by decide)) rfl (by kernel_rfl)
  have r2 : Pu Tryd.prog 10 #[.int .i64 10, .int .u64 0, .int .u64 1] (.tuple #[.int .i64 1, .int .i64 0]) := Pu.cast (rank_ 10 (by decide) 0 1 (by decide) (by decide)) rfl (by kernel_rfl)
  have r3 : Pu Tryd.prog 10 #[.int .i64 10, .int .u64 2, .int .u64 1] (.tuple #[.int .i64 0, .int .i64 1]) := Pu.cast (rank_ 10 (by decide) 2 1 (by decide) (by decide)) rfl (by kernel_rfl)
  have s1 := fun (m' : Mem) (h : m.le m') (p : Option Addr) (c : Nat) => sortC (m := m') (hz.mono h) p c 3 3 L0 L1 0 rfl (by decide) in3 outS3 chk3 rfl
  have q1 : ∀ m' : Mem, m.le m' → ∀ (p : Option Addr) (c : Nat), Sl m' fd 4 p c L0 → Rd Tryd.prog 12 #[.int .u64 1, .int .u64 2, .slice p 3 c] m' [] (.tuple #[r4 0 2 0 3, .int .i64 0]) := fun m' h p c sl => Rd.cast (ofC (hz.mono h) 1 2 (by decide) (by decide) p c 3 L0 rfl (by decide) in3 sl) rfl (by rw [ofV3]; kernel_rfl)
  have q2 : ∀ m' : Mem, m.le m' → Rd Tryd.prog 12 #[.int .u64 1, .int .u64 2, .slice none 0 0] m' [] (.tuple #[r4 0 0 0 0, .int .i64 1]) := fun m' h => Rd.cast (ofC (hz.mono h) 1 2 (by decide) (by decide) none 0 0 [] rfl (by decide) in0 (Sl.empty m' inferInstance)) rfl (by rw [ofV0]; kernel_rfl)
  have h1 : ∀ m' : Mem, m.le m' → ∀ (p : Option Addr) (c : Nat), Sl m' fd 4 p c L0 → Rd Tryd.prog 14 #[r4 0 2 0 3, .slice p 3 c] m' [] (.tuple #[r4 0 2 0 3, .int .i64 0]) := fun m' h p c sl => Rd.cast (shareC (hz.mono h) (2, 3) ⟨(by decide : 2 < 340282366920938463463374607431768211456), (by decide : 3 < 340282366920938463463374607431768211456)⟩ p c 3 L0 rfl (by decide) in3 sl) (by kernel_rfl) (by rw [shV3]; kernel_rfl)
  have h2 : ∀ m' : Mem, m.le m' → Rd Tryd.prog 14 #[r4 0 2 0 3, .slice none 0 0] m' [] (.tuple #[r4 0 0 0 0, .int .i64 3]) := fun m' h => Rd.cast (shareC (hz.mono h) (2, 3) ⟨(by decide : 2 < 340282366920938463463374607431768211456), (by decide : 3 < 340282366920938463463374607431768211456)⟩ none 0 0 [] rfl (by decide) in0 (Sl.empty m' inferInstance)) (by kernel_rfl) (by rw [shV0]; kernel_rfl)
  have c1 := fun (m' : Mem) (h : m.le m') (p : Option Addr) (c : Nat) => checkQ (m := m') (hz.mono h) p c 1 [(2, 4)] 2 rfl (by decide) (in1 (by decide) (by decide)) (by decide +kernel)
  have c2 := fun (m' : Mem) (h : m.le m') (p : Option Addr) (c : Nat) => checkQ (m := m') (hz.mono h) p c 1 [(18446744073709551616, 1)] 1 rfl (by decide) (in1 (by decide) (by decide)) (by decide +kernel)
  refine Ct.enterV (by rfl) Tryd.func7 rfl Tryd.ntmps7 rfl (fun w0 Rest => ?_)
  (repeat' (first | refine zss ?_ | ((first | (with_reducible first | apply At.val | apply AtQ.val)); (exact zprA); exact rfl) | refine zsM ?_ | ((with_reducible first | apply AtM1.callp | apply AtQ.callp | apply At.callp); kernel_rfl; exact rfl; exact rfl; exact o1) | ((with_reducible first | apply AtM1.callp | apply AtQ.callp | apply At.callp); kernel_rfl; exact rfl; exact rfl; exact o2) | ((with_reducible first | apply AtM1.callp | apply AtQ.callp | apply At.callp); kernel_rfl; exact rfl; exact rfl; exact o3) | ((with_reducible first | apply AtM1.callp | apply AtQ.callp | apply At.callp); kernel_rfl; exact rfl; exact rfl; exact o4) | ((with_reducible first | apply AtM1.callp | apply AtQ.callp | apply At.callp); kernel_rfl; exact rfl; exact rfl; exact o5) | ((with_reducible first | apply AtM1.callp | apply AtQ.callp | apply At.callp); kernel_rfl; exact rfl; exact rfl; exact r1) | ((with_reducible first | apply AtM1.callp | apply AtQ.callp | apply At.callp); kernel_rfl; exact rfl; exact rfl; exact r2) | ((with_reducible first | apply AtM1.callp | apply AtQ.callp | apply At.callp); kernel_rfl; exact rfl; exact rfl; exact r3) | ((with_reducible apply At.litF fd L0); exact inferInstance; (iterate 7 exact rfl); intro b' m' hm' sl0; (try replace sl1 := sl1.mono hm'); (try replace sl2 := sl2.mono hm'); (try replace sl3 := sl3.mono hm'); (try replace sl5 := sl5.mono hm')) | ((with_reducible first | apply At.c1 | apply At.c0); exact rfl; exact rfl; exact s1 _ zml _ _ sl0; exact ztk; kernel_rfl; rintro v' m' B' hm' ⟨rfl, p5, c5, rfl, sl5⟩; (try replace sl0 := sl0.mono hm'); (try replace sl1 := sl1.mono hm'); (try replace sl2 := sl2.mono hm'); (try replace sl3 := sl3.mono hm'); (try replace sl5 := sl5.mono hm'); (try (have hq0 : hm' = Mem.le_refl _ := rfl; clear hq0 hm'))) | ((with_reducible first | apply AtM1.cr | apply AtQ.cr | apply At.cr); exact rfl; exact rfl; exact fun _ hmm => q1 _ (Mem.le_trans zml hmm) _ _ (sl0.mono hmm); exact ztk; kernel_rfl) | ((with_reducible first | apply AtM1.cr | apply AtQ.cr | apply At.cr); exact rfl; exact rfl; exact fun _ hmm => q2 _ (Mem.le_trans zml hmm); exact ztk; kernel_rfl) | ((with_reducible first | apply AtM1.cr | apply AtQ.cr | apply At.cr); exact rfl; exact rfl; exact fun _ hmm => h1 _ (Mem.le_trans zml hmm) _ _ (sl0.mono hmm); exact ztk; kernel_rfl) | ((with_reducible first | apply AtM1.cr | apply AtQ.cr | apply At.cr); exact rfl; exact rfl; exact fun _ hmm => h2 _ (Mem.le_trans zml hmm); exact ztk; kernel_rfl) | ((with_reducible apply At.litF fd L1); exact inferInstance; (iterate 7 exact rfl); intro b' m' hm' sl1; (try replace sl0 := sl0.mono hm'); (try replace sl2 := sl2.mono hm'); (try replace sl3 := sl3.mono hm'); (try replace sl5 := sl5.mono hm')) | ((with_reducible first | apply AtM1.cr | apply AtQ.cr | apply At.cr); exact rfl; exact rfl; exact fun _ hmm => sameC _ _ 3 L1 _ _ 3 L1 true rfl rfl (by decide) (by decide) (decide_eq_true rfl) (sl5.mono hmm) (sl1.mono hmm); exact ztk; kernel_rfl) | ((with_reducible apply At.litF fd [(2, 4)]); exact inferInstance; (iterate 7 exact rfl); intro b' m' hm' sl2; (try replace sl0 := sl0.mono hm'); (try replace sl1 := sl1.mono hm'); (try replace sl3 := sl3.mono hm'); (try replace sl5 := sl5.mono hm')) | ((with_reducible apply At.litF fd [(18446744073709551616, 1)]); exact inferInstance; (iterate 7 exact rfl); intro b' m' hm' sl3; (try replace sl0 := sl0.mono hm'); (try replace sl1 := sl1.mono hm'); (try replace sl2 := sl2.mono hm'); (try replace sl5 := sl5.mono hm')) | ((with_reducible first | apply AtM1.cr | apply AtQ.cr | apply At.cr); exact rfl; exact rfl; exact fun _ hmm => c1 _ (Mem.le_trans zml hmm) _ _ (sl2.mono hmm); exact ztk; kernel_rfl) | ((with_reducible first | apply AtM1.cr | apply AtQ.cr | apply At.cr); exact rfl; exact rfl; exact fun _ hmm => c2 _ (Mem.le_trans zml hmm) _ _ (sl3.mono hmm); exact ztk; kernel_rfl) | ((with_reducible apply At.alloc (d := 1)); exact rfl; exact rfl; intro b1) | ((with_reducible apply At.alloc (d := 2)); exact rfl; exact rfl; intro b2) | ((with_reducible apply At.alloc (d := 3)); exact rfl; exact rfl; intro b3) | ((with_reducible apply At.alloc (d := 12)); exact rfl; exact rfl; intro b12) | ((with_reducible apply At.alloc (d := 14)); exact rfl; exact rfl; intro b14) | ((with_reducible apply At.alloc (d := 16)); exact rfl; exact rfl; intro b16) | ((with_reducible apply At.alloc (d := 18)); exact rfl; exact rfl; intro b18) | (refine zsp ?_ ?_ <;> (intro hc; (try simp only [zhcs, reduceCtorEq] at hc); (try (exfalso; first | (first | omega | exact absurd rfl hc | exact absurd hc (by decide)) | contradiction | omega | exact absurd rfl hc | exact absurd (by decide) hc))))))
  all_goals ((with_reducible apply At.retB1 (B := [])); exact rfl; exact rfl; exact zml; exact zkp; exact ⟨rfl, zml, rfl⟩))
end Qu
end Go.Proofs.YtmnlmmbfjfgfeaaDoor

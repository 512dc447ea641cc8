/- Part 5 of what the law's proof needs: rules of the walk, contracts of functions, plain laws. No condition. -/
import Derived.Test.YtpdleggpmhlagaaDoorRa4Z4
import Derived.Test.YtpdleggpmhlagaaDoorRows
import Derived.Laws.MathBits
import Derived.Lib.ItoaNum
import Derived.Lib.BitFns
import Derived.Laws.AppendOwn
import Derived.Below
import Derived.Shelf.Strconv.AppendInt10
import Derived.Shelf.Small.Bits
import Derived.Test.YtpdleggpmhlagaaDoorProg
import Derived.Shelf.Spec.BitsCarry
import Derived.Lib.TrailingZeros
import Derived.Shelf.Spec.TrailingZeros
/- The contracts of the package wide. -/
set_option linter.unusedSimpArgs false
set_option linter.unusedVariables false
set_option linter.unusedSectionVars false
set_option maxRecDepth 20000
set_option maxHeartbeats 4000000
namespace Go.Proofs.YtpdleggpmhlagaaDoor
open Go Go.J
attribute [local irreducible] At AtQ AtM AtM1 PR Ct Pu Rd Res.blk Res.own Res.ex RVs RV
namespace Wide
abbrev wd (x : Nat) : List Value := [.int .u64 ((x / 18446744073709551616 : Nat) : Int), .int .u64 ((x % 18446744073709551616 : Nat) : Int)]
abbrev wv (x : Nat) : Value := .agg (wd x).toArray
instance : Fl wd 2 := ⟨fun _ => rfl, fun x v h => by simp at h; rcases h with rfl | rfl <;> rfl, by decide⟩
def sV (x : Nat) : Nat := if x < 340282366920938463463374607431768211456 then x else 0
def sE (x : Nat) : Int := if x < 340282366920938463463374607431768211456 then 0 else 1
theorem sV_lt (x : Nat) : sV x < 340282366920938463463374607431768211456 := by unfold sV; split <;> omega
theorem wd_mk {x : Nat} {h l : Int} (hh : h = ((x / 18446744073709551616 : Nat) : Int)) (hl : l = ((x % 18446744073709551616 : Nat) : Int)) : Value.agg #[.int .u64 h, .int .u64 l] = wv x := by subst hh hl; rfl

theorem add64 {n : Nat} {F : Fr} {C : World → Prop} {x y z : Operand} {ts : Array TypeId} {a b c : Int} (hx : ev F x = some (.int .u64 a)) (hy : ev F y = some (.int .u64 b)) (hz : ev F z = some (.int .u64 c)) (h0 : 0 ≤ a) (h1 : 0 ≤ b) (h2 : 0 ≤ c) (h3 : c ≤ 1) :
    PR Tryd.prog n F C (.call ⟨.value (.func 39), #[x, y, z], ts⟩) (.tuple #[.int .u64 ((a + b + c) % 18446744073709551616), .int .u64 ((a + b + c) / 18446744073709551616)]) :=
  pr_extern (xs := [x, y, z]) (vs := [.int .u64 a, .int .u64 b, .int .u64 c]) (e := add64Entry) Tryd.func39 (by kernel_rfl) (by kernel_rfl) (by kernel_rfl) (by kernel_rfl) (by simp [evs, hx, hy, hz]) fun w => run_add64 a b c h0 h1 h2 h3 w

theorem of_ (x : Nat) (h : x < 18446744073709551616) : Pu Tryd.prog 23 #[.int .u64 (x : Int)] (wv x) := Pu.intro fun m => by
  refine Ct.enterV (by rfl) Tryd.func23 rfl Tryd.ntmps23 rfl (fun w0 Rest => ?_)
  (repeat' (first | refine zss ?_ | ((first | (with_reducible first | apply At.val | apply AtQ.val)); (exact zprA); exact rfl) | refine zs0 ?_ | ((with_reducible apply At.alloc (d := 2)); exact rfl; exact rfl; intro b2) | (refine zsp ?_ ?_ <;> (intro hc; (try simp only [zhcs, reduceCtorEq] at hc); (try (exfalso; first | contradiction | omega | exact absurd rfl hc | exact absurd (by decide) hc))))))
  all_goals ((with_reducible apply At.retV (B := [])); exact rfl; (repeat' (first | exact RVs.nil | (with_reducible apply RVs.cons) | exact rv_tmp (by rfl) | exact rv_cellN (by rfl) (by repeat constructor) (by rfl) (by rfl) (by rfl) | exact rv_cell1 (by rfl) (by repeat constructor) (by rfl) (by rfl) | exact rv_cellA (by rfl) (by repeat constructor) (by rfl) (by rfl) zlq)); exact zml; exact zkp; exact ⟨wd_mk (by omega) (by omega), rfl, rfl⟩)
theorem ofI (x : Int) (h0 : 0 ≤ x) (h : x < 18446744073709551616) : Pu Tryd.prog 23 #[.int .u64 x] (wv x.toNat) := by
  have := of_ x.toNat (by omega)
  rwa [Int.toNat_of_nonneg h0] at this
theorem sure0 (a b o : Int) (ho : o = 0) : Pu Tryd.prog 40 #[.agg #[.int .u64 a, .int .u64 b], .int .u64 o] (.tuple #[.agg #[.int .u64 a, .int .u64 b], .int .i64 0]) := Pu.intro fun m => by
  refine Ct.enterV (by rfl) Tryd.func40 rfl Tryd.ntmps40 rfl (fun w0 Rest => ?_)
  (repeat' (first | refine zss ?_ | ((first | (with_reducible first | apply At.val | apply AtQ.val)); (exact zprA); exact rfl) | refine zs0 ?_ | ((with_reducible apply At.box (d := 2)); exact rfl; exact rfl; exact rfl; intro b2) | ((with_reducible apply At.alloc (d := 4)); exact rfl; exact rfl; intro b4) | (refine zsp ?_ ?_ <;> (intro hc; (try simp only [zhcs, reduceCtorEq] at hc); (try (exfalso; first | omega | contradiction | omega | exact absurd rfl hc | exact absurd (by decide) hc))))))
  all_goals ((with_reducible apply At.retV (B := [])); exact rfl; (repeat' (first | exact RVs.nil | (with_reducible apply RVs.cons) | exact rv_tmp (by rfl) | exact rv_cellN (by rfl) (by repeat constructor) (by rfl) (by rfl) (by rfl) | exact rv_cell1 (by rfl) (by repeat constructor) (by rfl) (by rfl) | exact rv_cellA (by rfl) (by repeat constructor) (by rfl) (by rfl) zlq)); exact zml; exact zkp; exact ⟨rfl, rfl, rfl⟩)
theorem sure1 (a b o : Int) (ho : o ≠ 0) : Pu Tryd.prog 40 #[.agg #[.int .u64 a, .int .u64 b], .int .u64 o] (.tuple #[wv 0, .int .i64 1]) := Pu.intro fun m => by
  refine Ct.enterV (by rfl) Tryd.func40 rfl Tryd.ntmps40 rfl (fun w0 Rest => ?_)
  (repeat' (first | refine zss ?_ | ((first | (with_reducible first | apply At.val | apply AtQ.val)); (exact zprA); exact rfl) | refine zs0 ?_ | ((with_reducible apply At.box (d := 2)); exact rfl; exact rfl; exact rfl; intro b2) | ((with_reducible apply At.alloc (d := 4)); exact rfl; exact rfl; intro b4) | (refine zsp ?_ ?_ <;> (intro hc; (try simp only [zhcs, reduceCtorEq] at hc); (try (exfalso; first | omega | contradiction | omega | exact absurd rfl hc | exact absurd (by decide) hc))))))
  all_goals ((with_reducible apply At.retV (B := [])); exact rfl; (repeat' (first | exact RVs.nil | (with_reducible apply RVs.cons) | exact rv_tmp (by rfl) | exact rv_cellN (by rfl) (by repeat constructor) (by rfl) (by rfl) (by rfl) | exact rv_cell1 (by rfl) (by repeat constructor) (by rfl) (by rfl) | exact rv_cellA (by rfl) (by repeat constructor) (by rfl) (by rfl) zlq)); exact zml; exact zkp; exact ⟨rfl, rfl, rfl⟩)
theorem less (x y : Nat) : Pu Tryd.prog 30 #[wv x, wv y] (.bool (decide (x < y))) := Pu.intro fun m => by
  by_cases h : x < y
  · rw [decide_eq_true h]
    refine Ct.enterV (by rfl) Tryd.func30 rfl Tryd.ntmps30 rfl (fun w0 Rest => ?_)
    (repeat' (first | refine zss ?_ | ((first | (with_reducible first | apply At.val | apply AtQ.val)); (exact zprA); exact rfl) | refine zs0 ?_ | ((with_reducible apply At.box (d := 2)); exact rfl; exact rfl; exact rfl; intro b2) | ((with_reducible apply At.box (d := 3)); exact rfl; exact rfl; exact rfl; intro b3) | (refine zsp ?_ ?_ <;> (intro hc; (try simp only [zhcs, reduceCtorEq] at hc); (try (exfalso; first | omega | contradiction | omega | exact absurd rfl hc | exact absurd (by decide) hc))))))
    all_goals ((with_reducible apply At.retB1 (B := [])); exact rfl; exact rfl; exact zml; exact zkp; exact ⟨by first | rfl | exact congrArg Value.bool (decide_eq_true (by omega)) | exact congrArg Value.bool (decide_eq_false (by omega)), rfl, rfl⟩)
  · rw [decide_eq_false h]
    refine Ct.enterV (by rfl) Tryd.func30 rfl Tryd.ntmps30 rfl (fun w0 Rest => ?_)
    (repeat' (first | refine zss ?_ | ((first | (with_reducible first | apply At.val | apply AtQ.val)); (exact zprA); exact rfl) | refine zs0 ?_ | ((with_reducible apply At.box (d := 2)); exact rfl; exact rfl; exact rfl; intro b2) | ((with_reducible apply At.box (d := 3)); exact rfl; exact rfl; exact rfl; intro b3) | (refine zsp ?_ ?_ <;> (intro hc; (try simp only [zhcs, reduceCtorEq] at hc); (try (exfalso; first | omega | contradiction | omega | exact absurd rfl hc | exact absurd (by decide) hc))))))
    all_goals ((with_reducible apply At.retB1 (B := [])); exact rfl; exact rfl; exact zml; exact zkp; exact ⟨by first | rfl | exact congrArg Value.bool (decide_eq_true (by omega)) | exact congrArg Value.bool (decide_eq_false (by omega)), rfl, rfl⟩)
theorem mul64 (x y : Int) (hx0 : 0 ≤ x) (hx : x < 18446744073709551616) (hy0 : 0 ≤ y) (hy : y < 18446744073709551616) : Pu Tryd.prog 38 #[.int .u64 x, .int .u64 y] (.tuple #[.int .u64 (x * y / 18446744073709551616), .int .u64 (x * y % 18446744073709551616)]) := Pu.intro fun m => by
  have key := mul64_arith x y hx0 hx hy0 hy
  refine Ct.enterV (by rfl) Tryd.func38 rfl Tryd.ntmps38 rfl (fun w0 Rest => ?_)
  (repeat' (first | refine zss ?_ | ((first | (with_reducible first | apply At.val | apply AtQ.val)); (first | exact pr_and (by rfl) (by rfl) (and_low32 _ (by omega) (by omega)) | exact pr_mul (by rfl) (by rfl) (IntKind.wrap_u64 _) | exact pr_add (by rfl) (by rfl) (IntKind.wrap_u64 _) | exact zprA); exact rfl) | refine zs0 ?_ | (refine zsp ?_ ?_ <;> (intro hc; (try simp only [zhcs, reduceCtorEq] at hc); (try (exfalso; first | contradiction | omega | exact absurd rfl hc | exact absurd (by decide) hc))))))
  all_goals ((with_reducible apply At.retB2 (B := [])); (iterate 3 exact rfl); exact zml; exact zkp; exact ⟨by rw [← key], rfl, rfl⟩)
theorem or_zero {a b : Int} (ha : a = 0) (hb : b = 0) : bits .or .u64 a b = 0 := by subst ha hb; rfl
theorem or_ne {a b : Int} (ha : 0 ≤ a ∧ a < 18446744073709551616) (hb : 0 ≤ b ∧ b < 18446744073709551616) (h : a ≠ 0 ∨ b ≠ 0) : bits .or .u64 a b ≠ 0 := by
  rw [u64_or a b ha.1 ha.2 hb.1 hb.2]
  intro e
  have e0 : a.toNat ||| b.toNat = 0 := by omega
  have e1 : a.toNat = 0 := by
    have := Nat.left_le_or (n := a.toNat) (m := b.toNat)
    omega
  have e2 : b.toNat = 0 := by
    have := Nat.right_le_or (n := a.toNat) (m := b.toNat)
    omega
  omega
theorem times (x k : Nat) (hx : x < 340282366920938463463374607431768211456) (hk : k < 18446744073709551616) : Pu Tryd.prog 22 #[wv x, .int .u64 (k : Int)] (.tuple #[wv (sV (x * k)), .int .i64 (sE (x * k))]) := Pu.intro fun m => by
  obtain ⟨p, hp⟩ : ∃ p : Nat, p = x % 18446744073709551616 * k := ⟨_, rfl⟩
  obtain ⟨q, hq⟩ : ∃ q : Nat, q = x / 18446744073709551616 * k := ⟨_, rfl⟩
  have hxk : x * k = q * 18446744073709551616 + p := by
    rw [hp, hq, Nat.mul_right_comm, ← Nat.add_mul, Nat.mul_comm (x / 18446744073709551616), Nat.div_add_mod]
  have m1 := mul64 ((x % 18446744073709551616 : Nat) : Int) (k : Int) (by omega) (by omega) (by omega) (by omega)
  have m2 := mul64 ((x / 18446744073709551616 : Nat) : Int) (k : Int) (by omega) (by omega) (by omega) (by omega)
  rw [← Int.natCast_mul, ← hp] at m1
  rw [← Int.natCast_mul, ← hq] at m2
  have hpb : p ≤ 18446744073709551615 * 18446744073709551615 := by rw [hp]; exact Nat.mul_le_mul (by omega) (by omega)
  have hqb : q ≤ 18446744073709551615 * 18446744073709551615 := by rw [hq]; exact Nat.mul_le_mul (by omega) (by omega)
  rw [hxk]
  clear hp hq hxk
  by_cases h : q * 18446744073709551616 + p < 340282366920938463463374607431768211456
  · have e1 : sV (q * 18446744073709551616 + p) = q * 18446744073709551616 + p := if_pos h
    have e2 : sE (q * 18446744073709551616 + p) = 0 := if_pos h
    rw [e1, e2]
    refine Ct.enterV (by rfl) Tryd.func22 rfl Tryd.ntmps22 rfl (fun w0 Rest => ?_)
    (repeat' (first | refine zss ?_ | ((first | (with_reducible first | apply At.val | apply AtQ.val)); (first | exact add64 (by rfl) (by rfl) (by rfl) (by omega) (by omega) (by omega) (by omega) | exact pr_or (by rfl) (by rfl) (or_zero (by omega) (by omega)) | exact zprA); exact rfl) | refine zs0 ?_ | ((with_reducible first | apply AtM1.callp | apply AtQ.callp | apply At.callp); kernel_rfl; exact rfl; exact rfl; exact m1) | ((with_reducible first | apply AtM1.callp | apply AtQ.callp | apply At.callp); kernel_rfl; exact rfl; exact rfl; exact m2) | ((with_reducible first | apply AtM1.callp | apply AtQ.callp | apply At.callp); kernel_rfl; exact rfl; exact rfl; exact sure0 _ _ _ (by omega)) | ((with_reducible apply At.box (d := 2)); exact rfl; exact rfl; exact rfl; intro b2) | ((with_reducible apply At.alloc (d := 4)); exact rfl; exact rfl; intro b4) | (refine zsp ?_ ?_ <;> (intro hc; (try simp only [zhcs, reduceCtorEq] at hc); (try (exfalso; first | contradiction | omega | exact absurd rfl hc | exact absurd (by decide) hc))))))
    all_goals ((with_reducible apply At.retV (B := [])); exact rfl; (repeat' (first | exact RVs.nil | (with_reducible apply RVs.cons) | exact rv_tmp (by rfl) | exact rv_cellN (by rfl) (by repeat constructor) (by rfl) (by rfl) (by rfl) | exact rv_cell1 (by rfl) (by repeat constructor) (by rfl) (by rfl) | exact rv_cellA (by rfl) (by repeat constructor) (by rfl) (by rfl) zlq)); exact zml; exact zkp; exact ⟨congrArg (fun v => Value.tuple #[v, .int .i64 0]) (wd_mk (by omega) (by omega)), rfl, rfl⟩)
  · have e1 : sV (q * 18446744073709551616 + p) = 0 := if_neg h
    have e2 : sE (q * 18446744073709551616 + p) = 1 := if_neg h
    rw [e1, e2]
    refine Ct.enterV (by rfl) Tryd.func22 rfl Tryd.ntmps22 rfl (fun w0 Rest => ?_)
    (repeat' (first | refine zss ?_ | ((first | (with_reducible first | apply At.val | apply AtQ.val)); (first | exact add64 (by rfl) (by rfl) (by rfl) (by omega) (by omega) (by omega) (by omega) | exact zprA); exact rfl) | refine zs0 ?_ | ((with_reducible first | apply AtM1.callp | apply AtQ.callp | apply At.callp); kernel_rfl; exact rfl; exact rfl; exact m1) | ((with_reducible first | apply AtM1.callp | apply AtQ.callp | apply At.callp); kernel_rfl; exact rfl; exact rfl; exact m2) | ((with_reducible first | apply AtM1.callp | apply AtQ.callp | apply At.callp); kernel_rfl; exact rfl; exact rfl; exact sure1 _ _ _ (or_ne (by omega) (by omega) (by omega))) | ((with_reducible apply At.box (d := 2)); exact rfl; exact rfl; exact rfl; intro b2) | ((with_reducible apply At.alloc (d := 4)); exact rfl; exact rfl; intro b4) | (refine zsp ?_ ?_ <;> (intro hc; (try simp only [zhcs, reduceCtorEq] at hc); (try (exfalso; first | contradiction | omega | exact absurd rfl hc | exact absurd (by decide) hc))))))
    all_goals ((with_reducible apply At.retV (B := [])); exact rfl; (repeat' (first | exact RVs.nil | (with_reducible apply RVs.cons) | exact rv_tmp (by rfl) | exact rv_cellN (by rfl) (by repeat constructor) (by rfl) (by rfl) (by rfl) | exact rv_cell1 (by rfl) (by repeat constructor) (by rfl) (by rfl) | exact rv_cellA (by rfl) (by repeat constructor) (by rfl) (by rfl) zlq)); exact zml; exact zkp; exact ⟨rfl, rfl, rfl⟩)
end Wide
end Go.Proofs.YtpdleggpmhlagaaDoor
/- The plain law of a division by digits of 32 bits (no program). -/
set_option linter.unusedSimpArgs false
set_option linter.unusedVariables false
set_option linter.unusedSectionVars false
set_option maxRecDepth 20000
set_option maxHeartbeats 4000000
namespace Go.Proofs.YtpdleggpmhlagaaDoor
namespace Wide
/-- the state of a digit's search: q is not below the digit -/
structure Kn (u d y1 y0 q r : Nat) : Prop where
  eq : q * y1 + r = u
  ge : (u * 4294967296 + d) / (y1 * 4294967296 + y0) ≤ q
  lt : r < 4294967296
structure KnH (u d y1 y0 : Nat) : Prop where
  hu : u < y1 * 4294967296 + y0
  hd : d < 4294967296
  h1 : 2147483648 ≤ y1
  h2 : y1 < 4294967296
  h0 : y0 < 4294967296
theorem kn_ex (q y1 y0 : Nat) : q * (y1 * 4294967296 + y0) = q * y1 * 4294967296 + q * y0 := by rw [Nat.mul_add, ← Nat.mul_assoc]
theorem kn_digit {u d y1 y0 : Nat} (h : KnH u d y1 y0) : (u * 4294967296 + d) / (y1 * 4294967296 + y0) < 4294967296 := by
  have := h.hu; have := h.hd; have := h.h1
  rw [Nat.div_lt_iff_lt_mul (by omega)]
  omega
theorem kn_init {u d y1 y0 : Nat} (h : KnH u d y1 y0) : Kn u d y1 y0 (u / y1) (u % y1) := by
  have := h.hu; have := h.hd; have hy := h.h1; have := h.h2
  refine ⟨by rw [Nat.mul_comm]; exact Nat.div_add_mod u y1, ?_, Nat.lt_trans (Nat.mod_lt _ (by omega)) h.h2⟩
  apply Nat.le_of_lt_succ
  rw [Nat.div_lt_iff_lt_mul (by omega), kn_ex]
  have e := Nat.div_add_mod u y1
  have l := Nat.mod_lt u (show 0 < y1 by omega)
  rw [Nat.succ_mul, Nat.mul_comm (u / y1) y1]
  omega
theorem kn_stop {u d y1 y0 q r : Nat} (h : KnH u d y1 y0) (k : Kn u d y1 y0 q r) (hn : q * y0 ≤ r * 4294967296 + d) : (u * 4294967296 + d) / (y1 * 4294967296 + y0) = q := by
  have := h.h1; have := k.eq
  apply Nat.le_antisymm k.ge
  rw [Nat.le_div_iff_mul_le (by omega), kn_ex]
  omega
theorem kn_lt {u d y1 y0 q r : Nat} (h : KnH u d y1 y0) (k : Kn u d y1 y0 q r) (hn : 4294967296 ≤ q ∨ r * 4294967296 + d < q * y0) : (u * 4294967296 + d) / (y1 * 4294967296 + y0) < q := by
  have h1 := h.h1; have h2 := k.eq
  rcases hn with hn | hn
  · exact Nat.lt_of_lt_of_le (kn_digit h) hn
  · rw [Nat.div_lt_iff_lt_mul (by omega), kn_ex, ← h2, Nat.add_mul, Nat.add_assoc]
    exact Nat.add_lt_add_left hn _
theorem kn_le {u d y1 y0 q r : Nat} (h : KnH u d y1 y0) (k : Kn u d y1 y0 q r) : q ≤ 4294967297 := by
  have h1 := h.h1; have h2 := h.hu; have h3 := h.h0; have h4 := k.eq
  apply Classical.byContradiction
  intro hn
  have : 4294967298 * y1 ≤ q * y1 := Nat.mul_le_mul_right _ (by omega)
  omega
theorem kn_step {u d y1 y0 q r : Nat} (h : KnH u d y1 y0) (k : Kn u d y1 y0 q r) (hn : 4294967296 ≤ q ∨ r * 4294967296 + d < q * y0) (hr : r + y1 < 4294967296) : 0 < q ∧ Kn u d y1 y0 (q - 1) (r + y1) := by
  have l := kn_lt h k hn
  have hq0 : 0 < q := Nat.lt_of_le_of_lt (Nat.zero_le _) l
  obtain ⟨p, rfl⟩ : ∃ p, q = p + 1 := ⟨q - 1, by omega⟩
  have := k.eq
  rw [Nat.succ_mul] at this
  rw [Nat.add_sub_cancel]
  exact ⟨by omega, by omega, by omega, hr⟩
theorem kn_break {u d y1 y0 q r : Nat} (h : KnH u d y1 y0) (k : Kn u d y1 y0 q r) (hn : 4294967296 ≤ q ∨ r * 4294967296 + d < q * y0) (hr : 4294967296 ≤ r + y1) : (u * 4294967296 + d) / (y1 * 4294967296 + y0) = q - 1 := by
  have l := kn_lt h k hn
  have le := kn_le h k
  have h1 := h.h1; have h3 := h.h0
  have hq0 : 0 < q := Nat.lt_of_le_of_lt (Nat.zero_le _) l
  obtain ⟨p, rfl⟩ : ∃ p, q = p + 1 := ⟨q - 1, by omega⟩
  have e := k.eq
  rw [Nat.succ_mul] at e
  rw [Nat.add_sub_cancel]
  apply Nat.le_antisymm (by omega)
  rw [Nat.le_div_iff_mul_le (by omega), kn_ex]
  have : p * y0 ≤ 4294967296 * 4294967295 := Nat.mul_le_mul (by omega) (by omega)
  omega
/-- what is left of a digit, as the machine reckons -/
theorem kn_left {T Y q : Nat} (hY : 0 < Y) (hq : T / Y = q) : q * Y ≤ T ∧ T - q * Y = T % Y := by
  have := Nat.div_add_mod T Y
  rw [hq, Nat.mul_comm] at this
  omega
/-- both digits together -/
theorem kn_all {u d1 d0 Y : Nat} (hY : 0 < Y) :
    (u * 18446744073709551616 + (d1 * 4294967296 + d0)) / Y = (u * 4294967296 + d1) / Y * 4294967296 + ((u * 4294967296 + d1) % Y * 4294967296 + d0) / Y ∧
    (u * 18446744073709551616 + (d1 * 4294967296 + d0)) % Y = ((u * 4294967296 + d1) % Y * 4294967296 + d0) % Y := by
  obtain ⟨T, hT⟩ : ∃ T, T = u * 4294967296 + d1 := ⟨_, rfl⟩
  have e : u * 18446744073709551616 + (d1 * 4294967296 + d0) = Y * (T / Y * 4294967296) + (T % Y * 4294967296 + d0) := by
    have := Nat.div_add_mod T Y
    rw [← Nat.mul_assoc]
    omega
  rw [← hT, e, Nat.mul_add_div hY, Nat.mul_add_mod]
  exact ⟨rfl, rfl⟩
/-- a quotient and what is left, of what both were shifted by -/
theorem shift_div (V y k : Nat) (hk : 0 < k) : V * k / (y * k) = V / y ∧ V * k % (y * k) / k = V % y := by
  rw [Nat.mul_div_mul_right _ _ hk, Nat.mul_mod_mul_right, Nat.mul_div_cancel _ hk]
  exact ⟨rfl, rfl⟩
/-- how far y is shifted -/
theorem lead (y : Nat) (h0 : 0 < y) (h : y < 18446744073709551616) : Lib.bitLen y ≤ 64 ∧ 0 < Lib.bitLen y ∧ 9223372036854775808 ≤ y * 2 ^ (64 - Lib.bitLen y) ∧ y * 2 ^ (64 - Lib.bitLen y) < 18446744073709551616 := by
  have hb := Lib.bitLenAux_bounds 64 y h (by omega)
  have hl := Lib.bitLen_le y 64 (Nat.le_refl _) h
  have e : Lib.bitLen y = Lib.bitLenAux 64 y := rfl
  rw [← e] at hb
  obtain ⟨b, hbl⟩ : ∃ b, Lib.bitLen y = b := ⟨_, rfl⟩
  rw [hbl] at hb hl ⊢
  obtain ⟨h1, h2, h3⟩ := hb
  refine ⟨hl, h1, ?_, ?_⟩
  · calc 9223372036854775808 = 2 ^ (b - 1) * 2 ^ (64 - b) := by rw [← Nat.pow_add, show b - 1 + (64 - b) = 63 by omega]
      _ ≤ _ := Nat.mul_le_mul_right _ h2
  · calc y * 2 ^ (64 - b) < 2 ^ b * 2 ^ (64 - b) := Nat.mul_lt_mul_of_pos_right h3 (Nat.pow_pos (by decide))
      _ = _ := by rw [← Nat.pow_add, show b + (64 - b) = 64 by omega]
/-- the upper part of what is shifted -/
theorem shift_up (h l s b : Nat) (hsb : s + b = 64) : (h * 18446744073709551616 + l) * 2 ^ s / 18446744073709551616 = h * 2 ^ s + l / 2 ^ b ∧ (h * 18446744073709551616 + l) * 2 ^ s % 18446744073709551616 = l * 2 ^ s % 18446744073709551616 := by
  have e : (18446744073709551616 : Nat) = 2 ^ b * 2 ^ s := by rw [← Nat.pow_add, show b + s = 64 by omega]
  have e2 : (h * 18446744073709551616 + l) * 2 ^ s = 18446744073709551616 * (h * 2 ^ s) + l * 2 ^ s := by
    rw [Nat.add_mul, Nat.mul_right_comm, Nat.mul_comm (h * 2 ^ s)]
  have e3 : l * 2 ^ s / 18446744073709551616 = l / 2 ^ b := by
    rw [e, Nat.mul_div_mul_right _ _ (Nat.pow_pos (by decide))]
  rw [e2, Nat.mul_add_div (by decide), Nat.mul_add_mod, e3]
  exact ⟨rfl, rfl⟩
end Wide
end Go.Proofs.YtpdleggpmhlagaaDoor
/- Contracts of the library's shelf as contracts of this layer. -/
set_option linter.unusedSimpArgs false
set_option linter.unusedVariables false
set_option linter.unusedSectionVars false
set_option maxRecDepth 20000
namespace Go.J
open Go Go.RowKit
variable {P : Program} {m : Mem}
theorem Pu.of_same {f : FuncId} {args : Array Value} {V : Value} (h : ∀ w, Calls P f args w fun e w' => e = .returned V ∧ w' = w) : Pu P f args V :=
  fun m w0 Rest w hw => (h w).mono fun e w' ⟨he, hw'⟩ => ⟨V, m, [], he, Mem.le_refl m, ⟨rfl, rfl, rfl⟩, hw' ▸ hw⟩
/-- what comes back is a new list that the caller owns -/
theorem Ct.of_row {α : Type} {f : FuncId} {args : Array Value} {fl : α → List Value} {E : TypeId} {L : List α} (hf : Fl fl 1)
    (h : ∀ w : World, (∀ k o, m k = some o → w.heap[k]? = some o) → Calls P f args w fun e w' => ∃ v', e = .returned v' ∧ w'.ownsRow w.heap.size E 1 v' L.length (L.flatMap fl) ∧ Below w.heap.size w w') :
    Ct P f args m [] (fun v m' B => ∃ p c, v = .slice p L.length c ∧ m = m' ∧ B = [.own fl 1 E p c L]) := by
  intro w0 Rest w hw
  refine (h w hw.mem).mono ?_
  rintro e w' ⟨v', rfl, ⟨hl, hv⟩, hb⟩
  obtain ⟨s, hs, hm⟩ := hw.res
  have hs' : Sat Rest w' s := Sat.loc hs (fun k hk => hb.block k (hs.dom hk))
  have hmem : ∀ k o, m k = some o → w'.heap[k]? = some o := fun k o hk => by
    have h0 := hw.mem k o hk
    rw [hb.block k (Array.getElem?_eq_some_iff.1 h0).1]; exact h0
  rcases hv with ⟨rfl, hn⟩ | ⟨g, cap, cur, rfl, hg, hcell, hn, hcap, hsz, htake⟩
  · have hL : L = [] := List.length_eq_zero_iff.1 hn
    subst hL
    exact ⟨_, m, [_], rfl, Mem.le_refl m, ⟨none, 0, rfl, rfl, rfl⟩, hb.os.trans hw.os, hb.tape.trans hw.tape, hb.output.trans hw.output, Nat.le_trans hw.size hb.size, hmem,
      s, ⟨fun _ => False, s, .inl ⟨rfl, rfl, rfl, fun _ h => h⟩, hs', fun k ⟨x, _⟩ => x, fun k => ⟨.inr, fun x => x.elim (fun y => y.elim) id⟩⟩, hm⟩
  · refine ⟨_, m, [_], rfl, Mem.le_refl m, ⟨some ⟨g, 0, none⟩, cap, rfl, rfl, rfl⟩, hb.os.trans hw.os, hb.tape.trans hw.tape, hb.output.trans hw.output, Nat.le_trans hw.size hb.size, hmem,
      fun k => k = g ∨ s k, ⟨fun k => k = g, s, .inr ⟨g, 0, cur, rfl, hcell, hn, hcap, by omega, fun j hj => ?_, fun k => Iff.rfl⟩, hs', fun k ⟨x, y⟩ => ?_, fun k => Iff.rfl⟩, ?_⟩
    · rw [← htake, Nat.zero_add, List.getElem?_take, if_pos hj, Array.getElem?_toList]
    · have := hs.dom y
      have hk : k = g := x
      omega
    · rintro k (rfl | hk)
      · cases hk : m k with
        | none => rfl
        | some o =>
          have h0 := (Array.getElem?_eq_some_iff.1 (hw.mem k o hk)).1
          omega
      · exact hm k hk
end Go.J
/- Contracts of Go's library off the shelf, laid at this program (in plain words, by the shelf's own tools). -/
set_option linter.unusedSimpArgs false
set_option linter.unusedVariables false
set_option linter.unusedSectionVars false
set_option maxRecDepth 20000
namespace Go.Proofs.YtpdleggpmhlagaaDoor
open Go Go.Shelf
set_option maxRecDepth 100000
def laysmn288_ren : Go.Shelf.Ren := ⟨fun | 288 => 54 | 283 => 56 | 284 => 57 | 285 => 58 | 286 => 59 | 129 => 52 | 317 => 61 | 318 => 62 | 319 => 63 | 320 => 64 | 337 => 65 | 338 => 47 | n => n, fun | 37 => 62 | 53 => 22 | 3 => 3 | 4 => 4 | 9 => 9 | 171 => 70 | 0 => 0 | 173 => 72 | 212 => 78 | 51 => 79 | 5 => 5 | 20 => 20 | 213 => 80 | 46 => 67 | 232 => 84 | 233 => 68 | n => n, fun | 17 => 4 | 18 => 5 | 19 => 1 | n => n⟩
theorem laysmn288 : Go.Proofs.LaysM.n288 Tryd.prog laysmn288_ren := {
  mixed := by kernel_rfl
  f129 := Tryd.func52.trans (congrArg some (by kernel_rfl))
  f283 := Tryd.func56.trans (congrArg some (by kernel_rfl))
  f284 := Tryd.func57.trans (congrArg some (by kernel_rfl))
  f285 := Tryd.func58.trans (congrArg some (by kernel_rfl))
  f286 := Tryd.func59.trans (congrArg some (by kernel_rfl))
  f288 := Tryd.func54.trans (congrArg some (by kernel_rfl))
  f317 := Tryd.func61.trans (congrArg some (by kernel_rfl))
  f318 := Tryd.func62.trans (congrArg some (by kernel_rfl))
  f319 := Tryd.func63.trans (congrArg some (by kernel_rfl))
  f320 := Tryd.func64.trans (congrArg some (by kernel_rfl))
  f337 := Tryd.func65.trans (congrArg some (by kernel_rfl))
  f338 := Tryd.func47.trans (congrArg some (by kernel_rfl))
  t0 := Tryd.underlying0
  a0 := Tryd.isAgg0
  z0 := Tryd.sizeOf0
  v0 := Tryd.zeroValue0
  t3 := Tryd.underlying3
  a3 := Tryd.isAgg3
  z3 := Tryd.sizeOf3
  v3 := Tryd.zeroValue3
  t4 := Tryd.underlying4
  a4 := Tryd.isAgg4
  z4 := Tryd.sizeOf4
  v4 := Tryd.zeroValue4
  t5 := Tryd.underlying5
  a5 := Tryd.isAgg5
  z5 := Tryd.sizeOf5
  v5 := Tryd.zeroValue5
  t9 := Tryd.underlying9
  a9 := Tryd.isAgg9
  z9 := Tryd.sizeOf9
  v9 := Tryd.zeroValue9
  t20 := Tryd.underlying20
  a20 := Tryd.isAgg20
  z20 := Tryd.sizeOf20
  v20 := Tryd.zeroValue20
  t37 := Tryd.underlying62
  a37 := Tryd.isAgg62
  z37 := Tryd.sizeOf62
  v37 := Tryd.zeroValue62
  t46 := Tryd.underlying67
  a46 := Tryd.isAgg67
  z46 := Tryd.sizeOf67
  v46 := Tryd.zeroValue67
  t51 := Tryd.underlying79
  a51 := Tryd.isAgg79
  z51 := Tryd.sizeOf79
  v51 := Tryd.zeroValue79
  t53 := Tryd.underlying22
  a53 := Tryd.isAgg22
  z53 := Tryd.sizeOf22
  v53 := Tryd.zeroValue22
  t171 := Tryd.underlying70
  a171 := Tryd.isAgg70
  z171 := Tryd.sizeOf70
  v171 := Tryd.zeroValue70
  t173 := Tryd.underlying72
  a173 := Tryd.isAgg72
  z173 := Tryd.sizeOf72
  v173 := Tryd.zeroValue72
  t212 := Tryd.underlying78
  a212 := Tryd.isAgg78
  z212 := Tryd.sizeOf78
  v212 := Tryd.zeroValue78
  t213 := Tryd.underlying80
  a213 := Tryd.isAgg80
  z213 := Tryd.sizeOf80
  t232 := Tryd.underlying84
  a232 := Tryd.isAgg84
  z232 := Tryd.sizeOf84
  v232 := Tryd.zeroValue84
  t233 := Tryd.underlying68
  a233 := Tryd.isAgg68
  z233 := Tryd.sizeOf68
  v233 := Tryd.zeroValue68
  g17 := by kernel_rfl
  g18 := by kernel_rfl
  g19 := by kernel_rfl
  i0 := by kernel_rfl
  i3 := by kernel_rfl
  i4 := by kernel_rfl
  i5 := by kernel_rfl
  i9 := by kernel_rfl
  i20 := by kernel_rfl
  i37 := by kernel_rfl
  i46 := by kernel_rfl
  i51 := by kernel_rfl
  i53 := by kernel_rfl
  i171 := by kernel_rfl
  i173 := by kernel_rfl
  i212 := by kernel_rfl
  i232 := by kernel_rfl
  i233 := by kernel_rfl
  m17 := by kernel_rfl
  m18 := by kernel_rfl
  m19 := by kernel_rfl }
def laysn134_ren : Go.Shelf.Ren := ⟨fun | 134 => 60 | 129 => 52 | n => n, fun | 53 => 22 | 3 => 3 | 4 => 4 | 46 => 67 | 5 => 5 | 9 => 9 | n => n, fun | n => n⟩
theorem laysn134 : Go.Proofs.Lays.n134 Tryd.prog laysn134_ren := {
  mixed := by kernel_rfl
  f129 := Tryd.func52.trans (congrArg some (by kernel_rfl))
  f134 := Tryd.func60.trans (congrArg some (by kernel_rfl))
  t3 := Tryd.underlying3
  a3 := Tryd.isAgg3
  z3 := Tryd.sizeOf3
  v3 := Tryd.zeroValue3
  t4 := Tryd.underlying4
  a4 := Tryd.isAgg4
  z4 := Tryd.sizeOf4
  v4 := Tryd.zeroValue4
  t5 := Tryd.underlying5
  a5 := Tryd.isAgg5
  z5 := Tryd.sizeOf5
  v5 := Tryd.zeroValue5
  t9 := Tryd.underlying9
  a9 := Tryd.isAgg9
  z9 := Tryd.sizeOf9
  v9 := Tryd.zeroValue9
  t46 := Tryd.underlying67
  a46 := Tryd.isAgg67
  z46 := Tryd.sizeOf67
  v46 := Tryd.zeroValue67
  t53 := Tryd.underlying22
  a53 := Tryd.isAgg22
  z53 := Tryd.sizeOf22
  v53 := Tryd.zeroValue22 }
end Go.Proofs.YtpdleggpmhlagaaDoor
/- The package wide: one number less another one, and how often a number goes into another one. -/
set_option linter.unusedSimpArgs false
set_option linter.unusedVariables false
set_option linter.unusedSectionVars false
set_option maxRecDepth 20000
set_option maxHeartbeats 4000000
namespace Go.Proofs.YtpdleggpmhlagaaDoor
open Go Go.J
attribute [local irreducible] At AtQ AtM AtM1 PR Ct Pu Rd Res.blk Res.own Res.ex RVs RV
namespace Wide
def dE (x y : Nat) : Int := if x < y then 1 else 0
theorem sub64 {n : Nat} {F : Fr} {C : World → Prop} {x y z : Operand} {ts : Array TypeId} {a b c : Int} (hx : ev F x = some (.int .u64 a)) (hy : ev F y = some (.int .u64 b)) (hz : ev F z = some (.int .u64 c)) (h0 : 0 ≤ a ∧ a < 18446744073709551616) (h1 : 0 ≤ b ∧ b < 18446744073709551616) (h2 : 0 ≤ c) (h3 : c ≤ 1) :
    PR Tryd.prog n F C (.call ⟨.value (.func 53), #[x, y, z], ts⟩) (.tuple #[.int .u64 ((a - b - c) % 18446744073709551616), .int .u64 (-((a - b - c) / 18446744073709551616))]) :=
  pr_extern (xs := [x, y, z]) (vs := [.int .u64 a, .int .u64 b, .int .u64 c]) (e := sub64Entry) Tryd.func53 (by kernel_rfl) (by kernel_rfl) (by kernel_rfl) (by kernel_rfl) (by simp [evs, hx, hy, hz]) fun w => by
    obtain ⟨p, rfl⟩ : ∃ p : Nat, a = (p : Int) := ⟨a.toNat, by omega⟩
    obtain ⟨q, rfl⟩ : ∃ q : Nat, b = (q : Int) := ⟨b.toNat, by omega⟩
    obtain ⟨k, rfl⟩ : ∃ k : Nat, c = (k : Int) := ⟨c.toNat, by omega⟩
    have e := run_sub64 p q k (by omega) w (P := Tryd.prog)
    have e1 : ((p + 18446744073709551616 - q - k) % 18446744073709551616 : Nat) = (((p : Int) - q - k) % 18446744073709551616).toNat := by omega
    have e2 : (((p + 18446744073709551616 - q - k) % 18446744073709551616 : Nat) : Int) = ((p : Int) - q - k) % 18446744073709551616 := by omega
    have e3 : ((if p < q + k then 1 else 0 : Nat) : Int) = -(((p : Int) - q - k) / 18446744073709551616) := by split <;> omega
    rw [e2, e3] at e
    exact e
theorem sub (x y : Nat) (hx : x < 340282366920938463463374607431768211456) (hy : y < 340282366920938463463374607431768211456) : Pu Tryd.prog 48 #[wv x, wv y] (.tuple #[wv (x - y), .int .i64 (dE x y)]) := Pu.intro fun m => by
  by_cases h : x < y
  · have e1 : x - y = 0 := by omega
    have e2 : dE x y = 1 := if_pos h
    rw [e1, e2]
    refine Ct.enterV (by rfl) Tryd.func48 rfl Tryd.ntmps48 rfl (fun w0 Rest => ?_)
    (repeat' (first | refine zss ?_ | ((first | (with_reducible first | apply At.val | apply AtQ.val)); (first | exact sub64 (by rfl) (by rfl) (by rfl) (by omega) (by omega) (by omega) (by omega) | exact zprA); exact rfl) | refine zs0 ?_ | ((with_reducible first | apply AtM1.callp | apply AtQ.callp | apply At.callp); kernel_rfl; exact rfl; exact rfl; exact sure1 _ _ _ (by omega)) | ((with_reducible apply At.box (d := 2)); exact rfl; exact rfl; exact rfl; intro b2) | ((with_reducible apply At.box (d := 3)); exact rfl; exact rfl; exact rfl; intro b3) | ((with_reducible apply At.alloc (d := 4)); exact rfl; exact rfl; intro b4) | (refine zsp ?_ ?_ <;> (intro hc; (try simp only [zhcs, reduceCtorEq] at hc); (try (exfalso; first | contradiction | omega | exact absurd rfl hc | exact absurd (by decide) hc))))))
    all_goals ((with_reducible apply At.retV (B := [])); exact rfl; (repeat' (first | exact RVs.nil | (with_reducible apply RVs.cons) | exact rv_tmp (by rfl) | exact rv_cellN (by rfl) (by repeat constructor) (by rfl) (by rfl) (by rfl) | exact rv_cell1 (by rfl) (by repeat constructor) (by rfl) (by rfl) | exact rv_cellA (by rfl) (by repeat constructor) (by rfl) (by rfl) zlq)); exact zml; exact zkp; exact ⟨rfl, rfl, rfl⟩)
  · have e2 : dE x y = 0 := if_neg h
    rw [e2]
    refine Ct.enterV (by rfl) Tryd.func48 rfl Tryd.ntmps48 rfl (fun w0 Rest => ?_)
    (repeat' (first | refine zss ?_ | ((first | (with_reducible first | apply At.val | apply AtQ.val)); (first | exact sub64 (by rfl) (by rfl) (by rfl) (by omega) (by omega) (by omega) (by omega) | exact zprA); exact rfl) | refine zs0 ?_ | ((with_reducible first | apply AtM1.callp | apply AtQ.callp | apply At.callp); kernel_rfl; exact rfl; exact rfl; exact sure0 _ _ _ (by omega)) | ((with_reducible apply At.box (d := 2)); exact rfl; exact rfl; exact rfl; intro b2) | ((with_reducible apply At.box (d := 3)); exact rfl; exact rfl; exact rfl; intro b3) | ((with_reducible apply At.alloc (d := 4)); exact rfl; exact rfl; intro b4) | (refine zsp ?_ ?_ <;> (intro hc; (try simp only [zhcs, reduceCtorEq] at hc); (try (exfalso; first | contradiction | omega | exact absurd rfl hc | exact absurd (by decide) hc))))))
    all_goals ((with_reducible apply At.retV (B := [])); exact rfl; (repeat' (first | exact RVs.nil | (with_reducible apply RVs.cons) | exact rv_tmp (by rfl) | exact rv_cellN (by rfl) (by repeat constructor) (by rfl) (by rfl) (by rfl) | exact rv_cell1 (by rfl) (by repeat constructor) (by rfl) (by rfl) | exact rv_cellA (by rfl) (by repeat constructor) (by rfl) (by rfl) zlq)); exact zml; exact zkp; exact ⟨congrArg (fun v => Value.tuple #[v, .int .i64 0]) (wd_mk (by omega) (by omega)), rfl, rfl⟩)
theorem lz (y : Nat) (h : y < 18446744073709551616) : Pu Tryd.prog 60 #[.int .u64 (y : Int)] (.int .i64 (64 - (Lib.bitLen y : Int))) := by
  have := Pu.of_same fun w => Any.bits_LeadingZeros64 laysn134 (y : Int) w (by omega) (by omega)
  rw [Int.toNat_natCast] at this
  exact this
end Wide
end Go.Proofs.YtpdleggpmhlagaaDoor
/- How often a number of 64 bits goes into one of 128. -/
set_option linter.unusedSimpArgs false
set_option linter.unusedVariables false
set_option linter.unusedSectionVars false
set_option maxRecDepth 20000
set_option maxHeartbeats 4000000
namespace Go.Proofs.YtpdleggpmhlagaaDoor
open Go Go.J
attribute [local irreducible] At AtQ AtM AtM1 PR Ct Pu Rd Res.blk Res.own Res.ex RVs RV
namespace Wide
structure KS where
  (q : Nat) (r : Nat)
theorem u_in {a : Int} (h : 0 ≤ a ∧ a < 18446744073709551616) : IntKind.wrap .u64 a = a := by rw [IntKind.wrap_u64]; omega
theorem u_inN {a : Nat} (h : a < 18446744073709551616) : IntKind.wrap .u64 (a : Int) = (a : Int) := u_in (by omega)
theorem u_quo {a b : Nat} (h : a / b < 18446744073709551616) : IntKind.wrap .u64 ((a : Int).tdiv (b : Int)) = ((a / b : Nat) : Int) := by rw [← Int.ofNat_tdiv]; exact u_inN h
theorem u_rem (a b : Nat) : (a : Int).tmod (b : Int) = ((a % b : Nat) : Int) := (Int.ofNat_tmod a b).symm
theorem u_mul {a b : Nat} (h : a * b < 18446744073709551616) : IntKind.wrap .u64 ((a : Int) * (b : Int)) = ((a * b : Nat) : Int) := by rw [← Int.natCast_mul]; exact u_inN h
theorem u_mulw (a b : Nat) : IntKind.wrap .u64 ((a : Int) * (b : Int)) = ((a * b % 18446744073709551616 : Nat) : Int) := by rw [← Int.natCast_mul, IntKind.wrap_u64, Int.natCast_emod]; rfl
theorem u_add {a b : Nat} (h : a + b < 18446744073709551616) : IntKind.wrap .u64 ((a : Int) + (b : Int)) = ((a + b : Nat) : Int) := by rw [← Int.natCast_add]; exact u_inN h
theorem u_sub {a b : Nat} (h : b ≤ a) (ha : a < 18446744073709551616) : IntKind.wrap .u64 ((a : Int) - (b : Int)) = ((a - b : Nat) : Int) := by rw [IntKind.wrap_u64]; omega
theorem u_shl (a k : Nat) : IntKind.wrap .u64 ((a : Int) * 2 ^ ((k : Int)).toNat) = ((a * 2 ^ k % 18446744073709551616 : Nat) : Int) := by
  rw [Int.toNat_natCast, show ((2 : Int) ^ k) = ((2 ^ k : Nat) : Int) by rw [Int.natCast_pow]; rfl]
  exact u_mulw _ _
theorem u_shr (a k : Nat) : (a : Int) / 2 ^ ((k : Int)).toNat = ((a / 2 ^ k : Nat) : Int) := by
  rw [Int.toNat_natCast, show ((2 : Int) ^ k) = ((2 ^ k : Nat) : Int) by rw [Int.natCast_pow]; rfl, Int.natCast_ediv]
theorem u_shr32 (a : Nat) : (a : Int) / 2 ^ ((32 : Int)).toNat = ((a / 4294967296 : Nat) : Int) := u_shr a 32
theorem u_low (a : Nat) (h : a < 18446744073709551616) : bits .and .u64 (a : Int) 4294967295 = ((a % 4294967296 : Nat) : Int) := by rw [and_low32 _ (by omega) (by omega)]; rfl
theorem u_left {T P R : Nat} (h1 : P ≤ T) (h2 : T - P = R) (hR : R < 18446744073709551616) : IntKind.wrap .u64 (((T % 18446744073709551616 : Nat) : Int) - ((P % 18446744073709551616 : Nat) : Int)) = (R : Int) := by rw [IntKind.wrap_u64]; omega
theorem u_top (u d : Nat) : IntKind.wrap .u64 (((u * 4294967296 % 18446744073709551616 : Nat) : Int) + (d : Int)) = (((u * 4294967296 + d) % 18446744073709551616 : Nat) : Int) := by rw [IntKind.wrap_u64]; omega
set_option maxHeartbeats 4000000 in
theorem div64 (h l y V : Nat) (hV : V = h * 18446744073709551616 + l) (hy : h < y) (hyb : y < 18446744073709551616) (hl : l < 18446744073709551616) :
    Pu Tryd.prog 55 #[.int .u64 (h : Int), .int .u64 (l : Int), .int .u64 (y : Int)] (.tuple #[.int .u64 ((V / y : Nat) : Int), .int .u64 ((V % y : Nat) : Int)]) := Pu.intro fun m => by
  by_cases h0 : h = 0
  · subst h0
    rw [Nat.zero_mul, Nat.zero_add] at hV
    subst hV
    have f1 := u_quo (a := V) (b := y) (Nat.lt_of_le_of_lt (Nat.div_le_self _ _) hl)
    have f2 := u_rem V y
    refine Ct.enterV (by rfl) Tryd.func55 rfl Tryd.ntmps55 rfl (fun w0 Rest => ?_)
    (repeat' (first | refine zss ?_ | ((first | (with_reducible first | apply At.val | apply AtQ.val)); (first | exact pr_quo (by rfl) (by rfl) (by omega) f1 | exact pr_rem (by rfl) (by rfl) (by omega) f2 | exact zprA); exact rfl) | refine zs0 ?_ | (refine zsp ?_ ?_ <;> (intro hc; (try simp only [zhcs, reduceCtorEq] at hc); (try (exfalso; first | omega | contradiction | omega | exact absurd rfl hc | exact absurd (by decide) hc))))))
    all_goals ((with_reducible apply At.retB2 (B := [])); (iterate 3 exact rfl); exact zml; exact zkp; exact ⟨rfl, rfl, rfl⟩)
  · obtain ⟨hb1, hb0, hY1, hY2⟩ := lead y (by omega) hyb
    have hlz := lz y hyb
    obtain ⟨b, hb⟩ : ∃ b, b = Lib.bitLen y := ⟨_, rfl⟩
    rw [← hb] at hb1 hb0 hY1 hY2 hlz
    obtain ⟨s, hs⟩ : ∃ s, s = 64 - b := ⟨_, rfl⟩
    have hsb : s + b = 64 := by omega
    rw [show (64 - (b : Int)) = (s : Int) by omega] at hlz
    rw [← hs] at hY1 hY2
    have hk : 0 < 2 ^ s := Nat.pow_pos (by decide)
    obtain ⟨up, lo⟩ := shift_up h l s b hsb
    rw [← hV] at up lo
    obtain ⟨sd, sm⟩ := shift_div V y (2 ^ s) hk
    have hsh := u_shl y s
    rw [Nat.mod_eq_of_lt hY2] at hsh
    have hA : h * 2 ^ s < y * 2 ^ s := Nat.mul_lt_mul_of_pos_right hy hk
    have hfA := u_shl h s
    rw [Nat.mod_eq_of_lt (by omega)] at hfA
    have hfC := u_shr l b
    have hC : l / 2 ^ b < 2 ^ s := by
      rw [Nat.div_lt_iff_lt_mul (Nat.pow_pos (by decide)), ← Nat.pow_add, hsb]; exact hl
    have hor : bits .or .u64 ((h * 2 ^ s : Nat) : Int) ((l / 2 ^ b : Nat) : Int) = ((h * 2 ^ s + l / 2 ^ b : Nat) : Int) := by
      have : l / 2 ^ b ≤ l := Nat.div_le_self _ _
      rw [u64_or_nat _ _ (by omega) (by omega), nat_join s _ _ (Nat.mul_mod_left _ _) hC]
    have hfE := u_shl l s
    have hu : V * 2 ^ s / 18446744073709551616 < y * 2 ^ s := by
      rw [Nat.div_lt_iff_lt_mul (by decide), Nat.mul_right_comm]
      exact Nat.mul_lt_mul_of_pos_right (by omega) hk
    have hsplit := Nat.div_add_mod (V * 2 ^ s) 18446744073709551616
    rw [up] at hu hsplit
    rw [lo] at hsplit
    generalize h * 2 ^ s = A at *
    generalize l / 2 ^ b = C at *
    generalize l * 2 ^ s % 18446744073709551616 = E at *
    generalize V * 2 ^ s = W at *
    generalize y * 2 ^ s = Y at *
    have hEl : E < 18446744073709551616 := by rw [← lo]; exact Nat.mod_lt _ (by decide)
    obtain ⟨u, hue⟩ : ∃ u, u = A + C := ⟨_, rfl⟩
    rw [← hue] at hor hu hsplit
    obtain ⟨y1, hy1⟩ : ∃ y1, y1 = Y / 4294967296 := ⟨_, rfl⟩
    obtain ⟨y0, hy0⟩ : ∃ y0, y0 = Y % 4294967296 := ⟨_, rfl⟩
    obtain ⟨d1, hd1⟩ : ∃ d1, d1 = E / 4294967296 := ⟨_, rfl⟩
    obtain ⟨d0, hd0⟩ : ∃ d0, d0 = E % 4294967296 := ⟨_, rfl⟩
    have hYy : y1 * 4294967296 + y0 = Y := by omega
    have hEd : E = d1 * 4294967296 + d0 := by omega
    have K1 : KnH u d1 y1 y0 := ⟨by omega, by omega, by omega, by omega, by omega⟩
    obtain ⟨a1, a2⟩ := kn_all (u := u) (d1 := d1) (d0 := d0) (Y := Y) (by omega)
    rw [← hEd, Nat.mul_comm u, hsplit] at a1 a2
    obtain ⟨q1, hq1⟩ : ∃ q1, (u * 4294967296 + d1) / Y = q1 := ⟨_, rfl⟩
    obtain ⟨r1, hr1⟩ : ∃ r1, (u * 4294967296 + d1) % Y = r1 := ⟨_, rfl⟩
    obtain ⟨l1, l2⟩ := kn_left (T := u * 4294967296 + d1) (by omega) hq1
    have hr1Y : r1 < Y := by rw [← hr1]; exact Nat.mod_lt _ (by omega)
    rw [hr1] at l2
    rw [hq1, hr1] at a1
    rw [hr1] at a2
    have K2 : KnH r1 d0 y1 y0 := ⟨by omega, by omega, by omega, by omega, by omega⟩
    obtain ⟨q0, hq0⟩ : ∃ q0, (r1 * 4294967296 + d0) / Y = q0 := ⟨_, rfl⟩
    obtain ⟨r0, hr0⟩ : ∃ r0, (r1 * 4294967296 + d0) % Y = r0 := ⟨_, rfl⟩
    obtain ⟨k1, k2⟩ := kn_left (T := r1 * 4294967296 + d0) (by omega) hq0
    have hr0Y : r0 < Y := by rw [← hr0]; exact Nat.mod_lt _ (by omega)
    rw [hr0] at k2
    rw [hq0] at a1
    rw [hr0] at a2
    have hqb1 := kn_digit K1
    have hqb0 := kn_digit K2
    rw [hYy, hq1] at hqb1
    rw [hYy, hq0] at hqb0
    have I1 := kn_init K1
    have I2 := kn_init K2
    have e1 : u / y1 * y1 + u % y1 = u := I1.eq
    have e2 : r1 / y1 * y1 + r1 % y1 = r1 := I2.eq
    have hy10 : y1 ≠ 0 := by omega
    have g1 := u_shr32 Y
    have g2 := u_low Y hY2
    have g3 := u_shr32 E
    have g4 := u_low E hEl
    rw [← hy1] at g1
    rw [← hy0] at g2
    rw [← hd1] at g3
    rw [← hd0] at g4
    have m1 := u_quo (a := u) (b := y1) (Nat.lt_of_le_of_lt (Nat.div_le_self _ _) (by omega))
    have m2 := u_mul (a := u / y1) (b := y1) (by omega)
    have m3 : IntKind.wrap .u64 ((u : Int) - ((u / y1 * y1 : Nat) : Int)) = ((u % y1 : Nat) : Int) := by
      generalize u / y1 * y1 = X at e1 ⊢
      generalize u % y1 = Z at e1 ⊢
      rw [IntKind.wrap_u64]; omega
    have n1 := u_quo (a := r1) (b := y1) (Nat.lt_of_le_of_lt (Nat.div_le_self _ _) (by omega))
    have n2 := u_mul (a := r1 / y1) (b := y1) (by omega)
    have n3 : IntKind.wrap .u64 ((r1 : Int) - ((r1 / y1 * y1 : Nat) : Int)) = ((r1 % y1 : Nat) : Int) := by
      generalize r1 / y1 * y1 = X at e2 ⊢
      generalize r1 % y1 = Z at e2 ⊢
      rw [IntKind.wrap_u64]; omega
    have t1 := u_mulw u 4294967296
    have t2 := u_top u d1
    have t3 := u_mulw q1 Y
    have t4 := u_left l1 l2 (by omega)
    have v1 := u_mulw r1 4294967296
    have v2 := u_top r1 d0
    have v3 := u_mulw q0 Y
    have v4 := u_left k1 k2 (by omega)
    have v5 := u_mul (a := q1) (b := 4294967296) (by omega)
    have v6 := u_add (a := q1 * 4294967296) (b := q0) (by omega)
    have v7 := u_shr r0 s
    have z1 : V / y = q1 * 4294967296 + q0 := sd.symm.trans a1
    have z2 : V % y = r0 / 2 ^ s := by rw [← sm, a2]
    rw [z1, z2]
    clear z1 z2 sd sm a1 a2 up lo hsplit hV I1 I2 e1 e2 hb
    have hsub : IntKind.wrap .u64 (64 - (s : Int)) = (b : Int) := by rw [IntKind.wrap_u64]; omega
    refine Ct.enterV (by rfl) Tryd.func55 rfl Tryd.ntmps55 rfl (fun w0 Rest => ?_)
    (repeat' (first | ((refine At.cutb (id := 0) (σ := Nat) [2, 8, 9, 10, 11, 13, 14] (fun s F0 => (15, .int .u64 (s : Int)) :: F0) (fun s => m) (fun s => Rest) (fun s => s = q1) (by rfl) ?_ ?_)) | refine zss ?_ | ((first | (with_reducible first | apply At.val | apply AtQ.val)); (first | exact pr_sub (by rfl) (by rfl) hsub | exact pr_shlv (by rfl) (by rfl) (by omega) (by simp only [IntKind.bits]; omega) hsh | exact pr_shlv (by rfl) (by rfl) (by omega) (by simp only [IntKind.bits]; omega) hfA | exact pr_shlv (by rfl) (by rfl) (by omega) (by simp only [IntKind.bits]; omega) hfE | exact pr_shrv (by rfl) (by rfl) (by omega) (by simp only [IntKind.bits]; omega) g1 | exact pr_shrv (by rfl) (by rfl) (by omega) (by simp only [IntKind.bits]; omega) g3 | exact pr_shrv (by rfl) (by rfl) (by omega) (by simp only [IntKind.bits]; omega) hfC | exact pr_and (by rfl) (by rfl) g2 | exact pr_and (by rfl) (by rfl) g4 | exact pr_or (by rfl) (by rfl) hor | exact pr_quo (by rfl) (by rfl) (by omega) m1 | exact pr_mul (by rfl) (by rfl) m2 | exact pr_sub (by rfl) (by rfl) m3 | exact zprA); exact rfl) | refine zs0 ?_ | ((with_reducible first | apply AtM1.callp | apply AtQ.callp | apply At.callp); kernel_rfl; exact rfl; exact rfl; exact hlz) | (refine zsp ?_ ?_ <;> (intro hc; (try simp only [zhcs, reduceCtorEq] at hc); (try (exfalso; first | omega | contradiction | omega | exact absurd rfl hc | exact absurd (by decide) hc))))))
    · clear m1 m2 m3 n1 n2 n3 t1 t2 t3 t4 v1 v2 v3 v4 v5 v6 v7 g1 g2 g3 g4 hsh hfA hfC hfE hor hsub hlz k1 k2 l1 l2
      (refine At.loopk (σ := KS) [2, 8, 9, 10, 11, 13, 14] (fun s F0 => (15, .int .u64 (s.q : Int)) :: (16, .int .u64 (s.r : Int)) :: F0) (fun s => m) (fun s => Rest) (fun s => Kn u d1 y1 y0 s.q s.r) (fun s => s.q) ⟨u / y1, u % y1⟩ (by rfl) ?_ zsubs zml zente ?_)
      · exact kn_init K1
      rintro ⟨q, r⟩ kn
      dsimp only at kn ⊢
      have hle := kn_le K1 kn
      have hlt := kn.lt
      by_cases hC : 4294967296 ≤ q ∨ r * 4294967296 + d1 < q * y0
      · obtain ⟨hpos, hst⟩ : 0 < q ∧ (r + y1 < 4294967296 → Kn u d1 y1 y0 (q - 1) (r + y1)) := ⟨Nat.lt_of_le_of_lt (Nat.zero_le _) (kn_lt K1 kn hC), fun hr => (kn_step K1 kn hC hr).2⟩
        have o1 : IntKind.wrap .u64 ((q : Int) - 1) = ((q - 1 : Nat) : Int) := by rw [IntKind.wrap_u64]; omega
        have o2 := u_add (a := r) (b := y1) (by omega)
        by_cases hr : r + y1 < 4294967296
        · by_cases hq : 4294967296 ≤ q
          · (repeat' (first | refine zss ?_ | ((first | (with_reducible first | apply At.val | apply AtQ.val)); (first | exact pr_sub (by rfl) (by rfl) o1 | exact pr_add (by rfl) (by rfl) o2 | exact zprA); exact rfl) | refine zs0 ?_ | (refine zsp ?_ ?_ <;> (intro hc; (try simp only [zhcs, reduceCtorEq] at hc); (try (exfalso; first | omega | contradiction | omega | exact absurd rfl hc | exact absurd (by decide) hc))))))
            all_goals ((with_reducible refine At.reachk (⟨q - 1, r + y1⟩) ?_ ?_ ?_ ?_); exact zsubs; exact zml; exact zente; exact ⟨hst hr, by dsimp only; omega⟩)
          · have hn := hC.resolve_left hq
            have p1 := u_mul (a := q) (b := y0) (by have : q * y0 ≤ 4294967295 * 4294967295 := Nat.mul_le_mul (by omega) (by omega); omega)
            have p2 : IntKind.wrap .u64 (4294967296 * (r : Int)) = ((r * 4294967296 : Nat) : Int) := by rw [IntKind.wrap_u64]; omega
            have p3 := u_add (a := r * 4294967296) (b := d1) (by omega)
            generalize q * y0 = X at hn p1
            (repeat' (first | refine zss ?_ | ((first | (with_reducible first | apply At.val | apply AtQ.val)); (first | exact pr_sub (by rfl) (by rfl) o1 | exact pr_add (by rfl) (by rfl) o2 | exact pr_mul (by rfl) (by rfl) p1 | exact pr_mul (by rfl) (by rfl) p2 | exact pr_add (by rfl) (by rfl) p3 | exact zprA); exact rfl) | refine zs0 ?_ | (refine zsp ?_ ?_ <;> (intro hc; (try simp only [zhcs, reduceCtorEq] at hc); (try (exfalso; first | omega | contradiction | omega | exact absurd rfl hc | exact absurd (by decide) hc))))))
            all_goals ((with_reducible refine At.reachk (⟨q - 1, r + y1⟩) ?_ ?_ ?_ ?_); exact zsubs; exact zml; exact zente; exact ⟨hst hr, by dsimp only; omega⟩)
        · have hbr := kn_break K1 kn hC (by omega)
          rw [hYy, hq1] at hbr
          by_cases hq : 4294967296 ≤ q
          · (repeat' (first | refine zss ?_ | ((first | (with_reducible first | apply At.val | apply AtQ.val)); (first | exact pr_sub (by rfl) (by rfl) o1 | exact pr_add (by rfl) (by rfl) o2 | exact zprA); exact rfl) | refine zs0 ?_ | (refine zsp ?_ ?_ <;> (intro hc; (try simp only [zhcs, reduceCtorEq] at hc); (try (exfalso; first | omega | contradiction | omega | exact absurd rfl hc | exact absurd (by decide) hc))))))
            all_goals ((with_reducible refine At.reachk ((q - 1)) ?_ ?_ ?_ ?_); exact zsubs; exact zml; exact zente; exact hbr.symm)
          · have hn := hC.resolve_left hq
            have p1 := u_mul (a := q) (b := y0) (by have : q * y0 ≤ 4294967295 * 4294967295 := Nat.mul_le_mul (by omega) (by omega); omega)
            have p2 : IntKind.wrap .u64 (4294967296 * (r : Int)) = ((r * 4294967296 : Nat) : Int) := by rw [IntKind.wrap_u64]; omega
            have p3 := u_add (a := r * 4294967296) (b := d1) (by omega)
            generalize q * y0 = X at hn p1
            (repeat' (first | refine zss ?_ | ((first | (with_reducible first | apply At.val | apply AtQ.val)); (first | exact pr_sub (by rfl) (by rfl) o1 | exact pr_add (by rfl) (by rfl) o2 | exact pr_mul (by rfl) (by rfl) p1 | exact pr_mul (by rfl) (by rfl) p2 | exact pr_add (by rfl) (by rfl) p3 | exact zprA); exact rfl) | refine zs0 ?_ | (refine zsp ?_ ?_ <;> (intro hc; (try simp only [zhcs, reduceCtorEq] at hc); (try (exfalso; first | omega | contradiction | omega | exact absurd rfl hc | exact absurd (by decide) hc))))))
            all_goals ((with_reducible refine At.reachk ((q - 1)) ?_ ?_ ?_ ?_); exact zsubs; exact zml; exact zente; exact hbr.symm)
      · have hbr := kn_stop K1 kn (by omega)
        rw [hYy, hq1] at hbr
        have hq : q < 4294967296 := by omega
        have hn : ¬ r * 4294967296 + d1 < q * y0 := fun x => hC (.inr x)
        have p1 := u_mul (a := q) (b := y0) (by have : q * y0 ≤ 4294967295 * 4294967295 := Nat.mul_le_mul (by omega) (by omega); omega)
        have p2 : IntKind.wrap .u64 (4294967296 * (r : Int)) = ((r * 4294967296 : Nat) : Int) := by rw [IntKind.wrap_u64]; omega
        have p3 := u_add (a := r * 4294967296) (b := d1) (by omega)
        clear hC
        generalize q * y0 = X at hn p1
        (repeat' (first | refine zss ?_ | ((first | (with_reducible first | apply At.val | apply AtQ.val)); (first | exact pr_mul (by rfl) (by rfl) p1 | exact pr_mul (by rfl) (by rfl) p2 | exact pr_add (by rfl) (by rfl) p3 | exact zprA); exact rfl) | refine zs0 ?_ | (refine zsp ?_ ?_ <;> (intro hc; (try simp only [zhcs, reduceCtorEq] at hc); (try (exfalso; first | omega | contradiction | omega | exact absurd rfl hc | exact absurd (by decide) hc))))))
        all_goals ((with_reducible refine At.reachk (q) ?_ ?_ ?_ ?_); exact zsubs; exact zml; exact zente; exact hbr.symm)
    · rintro z rfl
      clear m1 m2 m3 g1 g2 g3 g4 hsh hfA hfC hfE hor hsub hlz
      (repeat' (first | ((refine At.cutb (id := 2) (σ := Nat) [2, 8, 14, 15, 17] (fun s F0 => (18, .int .u64 (s : Int)) :: F0) (fun s => m) (fun s => Rest) (fun s => s = q0) (by rfl) ?_ ?_)) | refine zss ?_ | ((first | (with_reducible first | apply At.val | apply AtQ.val)); (first | exact pr_mul (by rfl) (by rfl) t1 | exact pr_add (by rfl) (by rfl) t2 | exact pr_mul (by rfl) (by rfl) t3 | exact pr_sub (by rfl) (by rfl) t4 | exact pr_quo (by rfl) (by rfl) (by omega) n1 | exact pr_mul (by rfl) (by rfl) n2 | exact pr_sub (by rfl) (by rfl) n3 | exact zprA); exact rfl) | refine zs0 ?_ | (refine zsp ?_ ?_ <;> (intro hc; (try simp only [zhcs, reduceCtorEq] at hc); (try (exfalso; first | omega | contradiction | omega | exact absurd rfl hc | exact absurd (by decide) hc))))))
      · clear n1 n2 n3 v1 v2 v3 v4 v5 v6 v7 k1 k2 l1 l2
        (refine At.loopk (σ := KS) [2, 8, 9, 10, 14, 15, 17] (fun s F0 => (18, .int .u64 (s.q : Int)) :: (16, .int .u64 (s.r : Int)) :: F0) (fun s => m) (fun s => Rest) (fun s => Kn r1 d0 y1 y0 s.q s.r) (fun s => s.q) ⟨r1 / y1, r1 % y1⟩ (by rfl) ?_ zsubs zml zente ?_)
        · exact kn_init K2
        rintro ⟨q, r⟩ kn
        dsimp only at kn ⊢
        have hle := kn_le K2 kn
        have hlt := kn.lt
        by_cases hC : 4294967296 ≤ q ∨ r * 4294967296 + d0 < q * y0
        · obtain ⟨hpos, hst⟩ : 0 < q ∧ (r + y1 < 4294967296 → Kn r1 d0 y1 y0 (q - 1) (r + y1)) := ⟨Nat.lt_of_le_of_lt (Nat.zero_le _) (kn_lt K2 kn hC), fun hr => (kn_step K2 kn hC hr).2⟩
          have o1 : IntKind.wrap .u64 ((q : Int) - 1) = ((q - 1 : Nat) : Int) := by rw [IntKind.wrap_u64]; omega
          have o2 := u_add (a := r) (b := y1) (by omega)
          by_cases hr : r + y1 < 4294967296
          · by_cases hq : 4294967296 ≤ q
            · (repeat' (first | refine zss ?_ | ((first | (with_reducible first | apply At.val | apply AtQ.val)); (first | exact pr_sub (by rfl) (by rfl) o1 | exact pr_add (by rfl) (by rfl) o2 | exact zprA); exact rfl) | refine zs0 ?_ | (refine zsp ?_ ?_ <;> (intro hc; (try simp only [zhcs, reduceCtorEq] at hc); (try (exfalso; first | omega | contradiction | omega | exact absurd rfl hc | exact absurd (by decide) hc))))))
              all_goals ((with_reducible refine At.reachk (⟨q - 1, r + y1⟩) ?_ ?_ ?_ ?_); exact zsubs; exact zml; exact zente; exact ⟨hst hr, by dsimp only; omega⟩)
            · have hn := hC.resolve_left hq
              have p1 := u_mul (a := q) (b := y0) (by have : q * y0 ≤ 4294967295 * 4294967295 := Nat.mul_le_mul (by omega) (by omega); omega)
              have p2 : IntKind.wrap .u64 (4294967296 * (r : Int)) = ((r * 4294967296 : Nat) : Int) := by rw [IntKind.wrap_u64]; omega
              have p3 := u_add (a := r * 4294967296) (b := d0) (by omega)
              generalize q * y0 = X at hn p1
              (repeat' (first | refine zss ?_ | ((first | (with_reducible first | apply At.val | apply AtQ.val)); (first | exact pr_sub (by rfl) (by rfl) o1 | exact pr_add (by rfl) (by rfl) o2 | exact pr_mul (by rfl) (by rfl) p1 | exact pr_mul (by rfl) (by rfl) p2 | exact pr_add (by rfl) (by rfl) p3 | exact zprA); exact rfl) | refine zs0 ?_ | (refine zsp ?_ ?_ <;> (intro hc; (try simp only [zhcs, reduceCtorEq] at hc); (try (exfalso; first | omega | contradiction | omega | exact absurd rfl hc | exact absurd (by decide) hc))))))
              all_goals ((with_reducible refine At.reachk (⟨q - 1, r + y1⟩) ?_ ?_ ?_ ?_); exact zsubs; exact zml; exact zente; exact ⟨hst hr, by dsimp only; omega⟩)
          · have hbr := kn_break K2 kn hC (by omega)
            rw [hYy, hq0] at hbr
            by_cases hq : 4294967296 ≤ q
            · (repeat' (first | refine zss ?_ | ((first | (with_reducible first | apply At.val | apply AtQ.val)); (first | exact pr_sub (by rfl) (by rfl) o1 | exact pr_add (by rfl) (by rfl) o2 | exact zprA); exact rfl) | refine zs0 ?_ | (refine zsp ?_ ?_ <;> (intro hc; (try simp only [zhcs, reduceCtorEq] at hc); (try (exfalso; first | omega | contradiction | omega | exact absurd rfl hc | exact absurd (by decide) hc))))))
              all_goals ((with_reducible refine At.reachk ((q - 1)) ?_ ?_ ?_ ?_); exact zsubs; exact zml; exact zente; exact hbr.symm)
            · have hn := hC.resolve_left hq
              have p1 := u_mul (a := q) (b := y0) (by have : q * y0 ≤ 4294967295 * 4294967295 := Nat.mul_le_mul (by omega) (by omega); omega)
              have p2 : IntKind.wrap .u64 (4294967296 * (r : Int)) = ((r * 4294967296 : Nat) : Int) := by rw [IntKind.wrap_u64]; omega
              have p3 := u_add (a := r * 4294967296) (b := d0) (by omega)
              generalize q * y0 = X at hn p1
              (repeat' (first | refine zss ?_ | ((first | (with_reducible first | apply At.val | apply AtQ.val)); (first | exact pr_sub (by rfl) (by rfl) o1 | exact pr_add (by rfl) (by rfl) o2 | exact pr_mul (by rfl) (by rfl) p1 | exact pr_mul (by rfl) (by rfl) p2 | exact pr_add (by rfl) (by rfl) p3 | exact zprA); exact rfl) | refine zs0 ?_ | (refine zsp ?_ ?_ <;> (intro hc; (try simp only [zhcs, reduceCtorEq] at hc); (try (exfalso; first | omega | contradiction | omega | exact absurd rfl hc | exact absurd (by decide) hc))))))
              all_goals ((with_reducible refine At.reachk ((q - 1)) ?_ ?_ ?_ ?_); exact zsubs; exact zml; exact zente; exact hbr.symm)
        · have hbr := kn_stop K2 kn (by omega)
          rw [hYy, hq0] at hbr
          have hq : q < 4294967296 := by omega
          have hn : ¬ r * 4294967296 + d0 < q * y0 := fun x => hC (.inr x)
          have p1 := u_mul (a := q) (b := y0) (by have : q * y0 ≤ 4294967295 * 4294967295 := Nat.mul_le_mul (by omega) (by omega); omega)
          have p2 : IntKind.wrap .u64 (4294967296 * (r : Int)) = ((r * 4294967296 : Nat) : Int) := by rw [IntKind.wrap_u64]; omega
          have p3 := u_add (a := r * 4294967296) (b := d0) (by omega)
          clear hC
          generalize q * y0 = X at hn p1
          (repeat' (first | refine zss ?_ | ((first | (with_reducible first | apply At.val | apply AtQ.val)); (first | exact pr_mul (by rfl) (by rfl) p1 | exact pr_mul (by rfl) (by rfl) p2 | exact pr_add (by rfl) (by rfl) p3 | exact zprA); exact rfl) | refine zs0 ?_ | (refine zsp ?_ ?_ <;> (intro hc; (try simp only [zhcs, reduceCtorEq] at hc); (try (exfalso; first | omega | contradiction | omega | exact absurd rfl hc | exact absurd (by decide) hc))))))
          all_goals ((with_reducible refine At.reachk (q) ?_ ?_ ?_ ?_); exact zsubs; exact zml; exact zente; exact hbr.symm)
      · rintro z rfl
        (repeat' (first | refine zss ?_ | ((first | (with_reducible first | apply At.val | apply AtQ.val)); (first | exact pr_mul (by rfl) (by rfl) v1 | exact pr_add (by rfl) (by rfl) v2 | exact pr_mul (by rfl) (by rfl) v3 | exact pr_sub (by rfl) (by rfl) v4 | exact pr_mul (by rfl) (by rfl) v5 | exact pr_add (by rfl) (by rfl) v6 | exact pr_shrv (by rfl) (by rfl) (by omega) (by simp only [IntKind.bits]; omega) v7 | exact zprA); exact rfl) | refine zs0 ?_ | (refine zsp ?_ ?_ <;> (intro hc; (try simp only [zhcs, reduceCtorEq] at hc); (try (exfalso; first | omega | contradiction | omega | exact absurd rfl hc | exact absurd (by decide) hc))))))
        all_goals ((with_reducible apply At.retB2 (B := [])); (iterate 3 exact rfl); exact zml; exact zkp; exact ⟨rfl, rfl, rfl⟩)
end Wide
end Go.Proofs.YtpdleggpmhlagaaDoor
/- Ratios (plain): noughts at the end of a number, the greatest common divisor by halving. -/
set_option linter.unusedSimpArgs false
set_option linter.unusedVariables false
set_option linter.unusedSectionVars false
set_option maxRecDepth 20000
set_option maxHeartbeats 4000000
namespace Go.Proofs.YtpdleggpmhlagaaDoor
open Go
namespace Ra
/-- how many noughts a number of 128 bits ends in -/
def nt (x : Nat) : Nat := if x % 18446744073709551616 = 0 then 64 + Lib.ctz 64 (x / 18446744073709551616) else Lib.ctz 64 (x % 18446744073709551616)
/-- what is left of it without them -/
def od (x : Nat) : Nat := x / 2 ^ nt x
theorem ctz_at {y : Nat} (h0 : y ≠ 0) (h : y < 18446744073709551616) : ∃ k, y = 2 ^ Lib.ctz 64 y * (2 * k + 1) ∧ Lib.ctz 64 y < 64 := by
  unfold Lib.ctz
  rw [if_neg h0]
  exact Lib.ctzFrom_spec 64 y (Nat.pos_of_ne_zero h0) h
theorem nt_spec {x : Nat} (h0 : x ≠ 0) (hx : x < 340282366920938463463374607431768211456) : ∃ k, x = 2 ^ nt x * (2 * k + 1) ∧ nt x < 128 := by
  unfold nt
  have hd := Nat.div_add_mod x 18446744073709551616
  by_cases h : x % 18446744073709551616 = 0
  · rw [if_pos h]
    rw [h, Nat.add_zero] at hd
    obtain ⟨k, h1, h2⟩ := ctz_at (y := x / 18446744073709551616) (fun e => h0 (by rw [e] at hd; omega)) (by omega)
    refine ⟨k, ?_, by omega⟩
    rw [Nat.pow_add, Nat.mul_assoc, ← h1]
    exact hd.symm
  · rw [if_neg h]
    obtain ⟨k, h1, h2⟩ := ctz_at (y := x % 18446744073709551616) h (by omega)
    generalize Lib.ctz 64 (x % 18446744073709551616) = c at h1 h2
    refine ⟨x / 18446744073709551616 * 2 ^ (63 - c) + k, ?_, by omega⟩
    have e : (18446744073709551616 : Nat) = 2 ^ c * (2 * 2 ^ (63 - c)) := by
      rw [← Nat.pow_succ', ← Nat.pow_add, show c + (63 - c).succ = 64 by omega]
    rw [show 2 * (x / 18446744073709551616 * 2 ^ (63 - c) + k) + 1 = x / 18446744073709551616 * (2 * 2 ^ (63 - c)) + (2 * k + 1) by
      rw [Nat.mul_add, Nat.mul_left_comm, Nat.add_assoc]]
    rw [Nat.mul_add, ← h1, Nat.mul_left_comm, ← e, Nat.mul_comm]
    exact hd.symm
theorem od_spec {x : Nat} (h0 : x ≠ 0) (hx : x < 340282366920938463463374607431768211456) : x = 2 ^ nt x * od x ∧ od x % 2 = 1 := by
  obtain ⟨k, h1, _⟩ := nt_spec h0 hx
  have e : od x = 2 * k + 1 := by
    unfold od
    conv => lhs; lhs; rw [h1]
    exact Nat.mul_div_cancel_left _ (Nat.two_pow_pos _)
  rw [e]
  exact ⟨h1, by omega⟩
theorem odd_co {a : Nat} (h : a % 2 = 1) (i : Nat) : (2 ^ i).Coprime a := by
  refine Nat.Coprime.pow_left i ?_
  show Nat.gcd 2 a = 1
  rw [Nat.gcd_rec, h]; rfl
theorem gcd_od {a b : Nat} (h : a % 2 = 1) (h0 : b ≠ 0) (hb : b < 340282366920938463463374607431768211456) : Nat.gcd a (od b) = Nat.gcd a b := by
  conv => rhs; rw [(od_spec h0 hb).1]
  rw [Nat.gcd_comm a (2 ^ nt b * od b), Nat.Coprime.gcd_mul_left_cancel _ (odd_co h _), Nat.gcd_comm]
/-- a step of the halving -/
theorem gcd_step {a b : Nat} (h : a % 2 = 1) (h0 : b ≠ 0) (hb : b < 340282366920938463463374607431768211456) :
    Nat.gcd (min a (od b)) (max a (od b) - min a (od b)) = Nat.gcd a b ∧ min a (od b) % 2 = 1 ∧ min a (od b) + (max a (od b) - min a (od b)) < a + b := by
  obtain ⟨h1, h2⟩ := od_spec h0 hb
  have hle : od b ≤ b := by
    conv => rhs; rw [h1]
    exact Nat.le_mul_of_pos_left _ (Nat.two_pow_pos _)
  rw [← gcd_od h h0 hb]
  generalize od b = c at h2 hle
  rcases Nat.le_total a c with hac | hac
  · rw [Nat.min_eq_left hac, Nat.max_eq_right hac]
    exact ⟨Nat.gcd_sub_self_right hac, h, by omega⟩
  · rw [Nat.min_eq_right hac, Nat.max_eq_left hac, Nat.gcd_comm a c]
    exact ⟨Nat.gcd_sub_self_right hac, h2, by omega⟩
/-- what the halving comes to -/
theorem gcd_end {a b : Nat} (ha0 : a ≠ 0) (ha : a < 340282366920938463463374607431768211456) (hb0 : b ≠ 0) (hb : b < 340282366920938463463374607431768211456) : 2 ^ min (nt a) (nt b) * Nat.gcd (od a) b = Nat.gcd a b := by
  obtain ⟨h1, h2⟩ := od_spec ha0 ha
  obtain ⟨h3, h4⟩ := od_spec hb0 hb
  have e1 : Nat.gcd (od a) b = Nat.gcd (od a) (od b) := (gcd_od h2 hb0 hb).symm
  rw [e1]
  generalize od a = u at h1 h2
  generalize od b = v at h3 h4
  generalize nt a = i at h1
  generalize nt b = j at h3
  subst h1 h3
  rcases Nat.le_total i j with hij | hij
  · obtain ⟨k, rfl⟩ := Nat.exists_eq_add_of_le hij
    rw [Nat.min_eq_left hij, Nat.pow_add, Nat.mul_assoc, Nat.gcd_mul_left, Nat.gcd_comm u (2 ^ k * v), Nat.Coprime.gcd_mul_left_cancel _ (odd_co h2 _), Nat.gcd_comm v u]
  · obtain ⟨k, rfl⟩ := Nat.exists_eq_add_of_le hij
    rw [Nat.min_eq_right hij, Nat.pow_add, Nat.mul_assoc, Nat.gcd_mul_left, Nat.Coprime.gcd_mul_left_cancel _ (odd_co h4 _)]
theorem pow64 {k : Nat} (hk : k ≤ 64) : (18446744073709551616 : Nat) = 2 ^ k * 2 ^ (64 - k) := by
  rw [← Nat.pow_add, show k + (64 - k) = 64 by omega]
theorem or_add {a b i : Nat} (hb : b < 2 ^ i) : a * 2 ^ i ||| b = a * 2 ^ i + b := by
  rw [← Nat.shiftLeft_eq, Nat.shiftLeft_add_eq_or_of_lt hb]
/-- a number without its last k digits, in parts -/
theorem dn_parts {x k : Nat} (hk : k ≤ 64) : x / 2 ^ k / 18446744073709551616 = x / 18446744073709551616 / 2 ^ k ∧ x / 2 ^ k % 18446744073709551616 = (x / 18446744073709551616 % 2 ^ k) * 2 ^ (64 - k) + x % 18446744073709551616 / 2 ^ k ∧ x % 18446744073709551616 / 2 ^ k < 2 ^ (64 - k) := by
  have hd := Nat.div_add_mod x 18446744073709551616
  have hl : x % 18446744073709551616 < 18446744073709551616 := Nat.mod_lt _ (by decide)
  have e := pow64 hk
  have hA := Nat.two_pow_pos k
  generalize x / 18446744073709551616 = h at hd ⊢
  generalize x % 18446744073709551616 = l at hd hl ⊢
  generalize 18446744073709551616 = D at hd hl e ⊢
  generalize 2 ^ k = A at e hA ⊢
  generalize 2 ^ (64 - k) = B at e ⊢
  subst e
  have h1 : x / A = h * B + l / A := by
    rw [← hd, Nat.mul_assoc, Nat.mul_add_div hA, Nat.mul_comm B h]
  have h2 : l / A < B := Nat.div_lt_of_lt_mul hl
  have h3 : h * B = A * B * (h / A) + h % A * B := by
    conv => lhs; rw [← Nat.div_add_mod h A]
    rw [Nat.add_mul, Nat.mul_right_comm]
  have h4 : h % A * B + l / A < A * B := by
    have := Nat.mod_lt h hA
    calc h % A * B + l / A < h % A * B + B := by omega
      _ = (h % A + 1) * B := by rw [Nat.add_mul, Nat.one_mul]
      _ ≤ A * B := Nat.mul_le_mul_right _ this
  refine ⟨?_, ?_, h2⟩
  · rw [h1, h3, Nat.add_assoc, Nat.mul_add_div (by omega), Nat.div_eq_of_lt h4, Nat.add_zero]
  · rw [h1, h3, Nat.add_assoc, Nat.mul_add_mod, Nat.mod_eq_of_lt h4]
theorem dn_far {x k : Nat} (hx : x < 340282366920938463463374607431768211456) (hk : 64 ≤ k) : x / 2 ^ k / 18446744073709551616 = 0 ∧ x / 2 ^ k % 18446744073709551616 = x / 18446744073709551616 / 2 ^ (k - 64) := by
  have e : x / 2 ^ k = x / 18446744073709551616 / 2 ^ (k - 64) := by
    rw [Nat.div_div_eq_div_mul, show (18446744073709551616 : Nat) = 2 ^ 64 from rfl, ← Nat.pow_add, show 64 + (k - 64) = k by omega]
  have h1 : x / 18446744073709551616 / 2 ^ (k - 64) ≤ x / 18446744073709551616 := Nat.div_le_self _ _
  rw [e]
  generalize x / 18446744073709551616 / 2 ^ (k - 64) = q at h1 ⊢
  omega
/-- a number with k noughts more, in parts -/
theorem up_parts {x k : Nat} (hk : k ≤ 64) : x * 2 ^ k / 18446744073709551616 = x / 18446744073709551616 * 2 ^ k + x % 18446744073709551616 / 2 ^ (64 - k) ∧ x * 2 ^ k % 18446744073709551616 = x % 18446744073709551616 * 2 ^ k % 18446744073709551616 ∧ x % 18446744073709551616 / 2 ^ (64 - k) < 2 ^ k := by
  have hd := Nat.div_add_mod x 18446744073709551616
  have hl : x % 18446744073709551616 < 18446744073709551616 := Nat.mod_lt _ (by decide)
  have e := pow64 hk
  have hA := Nat.two_pow_pos k
  have hB := Nat.two_pow_pos (64 - k)
  have hmm : x * 2 ^ k % 18446744073709551616 = x % 18446744073709551616 * 2 ^ k % 18446744073709551616 := by rw [Nat.mod_mul_mod]
  refine ⟨?_, hmm, ?_⟩
  · generalize x / 18446744073709551616 = h at hd ⊢
    generalize x % 18446744073709551616 = l at hd hl ⊢
    generalize 18446744073709551616 = D at hd hl e ⊢
    generalize 2 ^ k = A at e hA ⊢
    generalize 2 ^ (64 - k) = B at e hB ⊢
    subst e
    rw [← hd, Nat.add_mul, Nat.mul_assoc, Nat.mul_add_div (Nat.mul_pos hA hB), Nat.mul_comm A B, Nat.mul_div_mul_right _ _ hA]
  · exact Nat.div_lt_of_lt_mul (by rw [Nat.mul_comm, ← e]; exact hl)
theorem up_far {x k : Nat} (hx : x * 2 ^ k < 340282366920938463463374607431768211456) (hk : 64 ≤ k) : x * 2 ^ k / 18446744073709551616 = x % 18446744073709551616 * 2 ^ (k - 64) % 18446744073709551616 ∧ x * 2 ^ k % 18446744073709551616 = 0 := by
  have e : x * 2 ^ k = x * 2 ^ (k - 64) * 18446744073709551616 := by
    rw [show (18446744073709551616 : Nat) = 2 ^ 64 from rfl, Nat.mul_assoc, ← Nat.pow_add, show k - 64 + 64 = k by omega]
  rw [e] at hx ⊢
  have hp := Nat.two_pow_pos (k - 64)
  have h1 : x ≤ x * 2 ^ (k - 64) := Nat.le_mul_of_pos_right _ hp
  generalize hq : x * 2 ^ (k - 64) = q at hx h1 ⊢
  have h2 : x % 18446744073709551616 = x := Nat.mod_eq_of_lt (by omega)
  rw [h2, hq]
  omega
end Ra
end Go.Proofs.YtpdleggpmhlagaaDoor
/- How many noughts a word of 64 bits ends in: math/bits.TrailingZeros64, with its table. -/
set_option linter.unusedSimpArgs false
set_option linter.unusedVariables false
set_option linter.unusedSectionVars false
set_option maxRecDepth 20000
set_option maxHeartbeats 4000000
namespace Go.Proofs.YtpdleggpmhlagaaDoor
open Go Go.J
attribute [local irreducible] At AtQ AtM AtM1 PR Ct Pu Rd Res.blk Res.own Res.ex RVs RV
namespace Ra
open Wide
/-- the table as it was laid -/
def TZ (m : Mem) : Prop := ∀ w : World, (∀ k o, m k = some o → w.heap[k]? = some o) → TabAt 1 Lib.deBruijn64tab w
theorem TZ.mono {m m' : Mem} (h : TZ m) (hm : m.le m') : TZ m' := fun w hw => h w fun k o hk => hw k o (hm k o hk)
theorem pr_load_tz {n : Nat} {w0 : World} {F : Fr} {m : Mem} {Rs : List Res} {x : Operand} {t : TypeId} {j k : Nat} (h : TZ m) (hx : ev F x = some (.pointer (some ⟨1, j, none⟩))) (ht : isAggB Tryd.prog t = some false) (hj : j < 64) (hv : Lib.deBruijn64tab.getD j 0 = k) :
    PR Tryd.prog n F (HW w0 m Rs) (.load t x) (.int .u8 (k : Int)) := pr_load1 ht hx fun w hw => by
  have := h w hw.mem j hj
  rw [hv] at this
  exact this
theorem tz {m : Mem} (ht : TZ m) (x : Nat) (hx : x < 18446744073709551616) : Rd Tryd.prog 47 #[.int .u64 (x : Int)] m [] (.int .i64 ((Lib.ctz 64 x : Nat) : Int)) := by
  unfold Rd
  by_cases h0 : x = 0
  · subst h0
    rw [show Lib.ctz 64 0 = 64 from rfl]
    refine Ct.enterV (by rfl) Tryd.func47 rfl Tryd.ntmps47 rfl (fun w0 Rest => ?_)
    (repeat' (first | refine zss ?_ | ((first | (with_reducible first | apply At.val | apply AtQ.val)); (exact zprA); exact rfl) | refine zsM ?_ | (refine zsp ?_ ?_ <;> (intro hc; (try simp only [zhcs, reduceCtorEq] at hc); (try (exfalso; first | omega | contradiction | omega | exact absurd rfl hc | exact absurd (by decide) hc))))))
    all_goals ((with_reducible apply At.retB1 (B := [])); exact rfl; exact rfl; exact zml; exact zkp; exact ⟨rfl, rfl, rfl⟩)
  · obtain ⟨hlow, hk⟩ := Lib.lowest_bit 64 x h0 hx
    rw [show (2 : Nat) ^ 64 = 18446744073709551616 from rfl] at hlow
    obtain ⟨hi, htab⟩ := Lib.deBruijn64_at _ hk
    have e1 : IntKind.wrap .u64 (0 - (x : Int)) = ((18446744073709551616 - x : Nat) : Int) := by rw [IntKind.wrap_u64]; omega
    have e2 : bits .and .u64 (x : Int) ((18446744073709551616 - x : Nat) : Int) = ((2 ^ Lib.ctz 64 x : Nat) : Int) := by rw [bits_and_u64_nat x _ hx (by omega), hlow]
    generalize Lib.ctz 64 x = c at hk hi htab e2 ⊢
    generalize hz : 2 ^ c = z at hi htab e2
    have e3 : IntKind.wrap .u64 ((z : Int) * 285870213051353865) = ((z * 285870213051353865 % 18446744073709551616 : Nat) : Int) := u_mulw z 285870213051353865
    generalize z * 285870213051353865 % 18446744073709551616 = y at hi htab e3
    have e4 : (y : Int) / 2 ^ ((58 : Int)).toNat = ((y / 288230376151711744 : Nat) : Int) := u_shr y 58
    generalize y / 288230376151711744 = j at hi htab e4
    have e5 : IntKind.wrap .i64 ((c : Nat) : Int) = (c : Int) := IntWalk.i64_in _ (by omega)
    have h0' : ¬ (x : Int) = 0 := by omega
    clear hlow hz
    refine Ct.enterV (by rfl) Tryd.func47 rfl Tryd.ntmps47 rfl (fun w0 Rest => ?_)
    (repeat' (first | refine zss ?_ | ((first | (with_reducible first | apply At.val | apply AtQ.val)); (first | exact pr_neg (by rfl) e1 | exact pr_and (by rfl) (by rfl) e2 | exact pr_mul (by rfl) (by rfl) e3 | exact pr_shrv (by rfl) (by rfl) (by decide) (by decide) e4 | exact pr_indexArr1 (by rfl) (by rfl) (by rfl) (by rfl) hi | exact pr_load_tz ht (by rfl) (by rfl) hi htab | exact pr_conv ⟨_, rfl⟩ (by rfl) (by rfl) e5 | exact zprA); exact rfl) | refine zsM ?_ | (refine zsp ?_ ?_ <;> (intro hc; (try simp only [zhcs, reduceCtorEq] at hc); (try (exfalso; first | omega | contradiction | omega | exact absurd rfl hc | exact absurd (by decide) hc))))))
    all_goals ((with_reducible apply At.retB1 (B := [])); exact rfl; exact rfl; exact zml; exact zkp; exact ⟨rfl, rfl, rfl⟩)
end Ra
end Go.Proofs.YtpdleggpmhlagaaDoor
/- Ratios: none, noughts, down, up, less. -/
set_option linter.unusedSimpArgs false
set_option linter.unusedVariables false
set_option linter.unusedSectionVars false
set_option maxRecDepth 20000
set_option maxHeartbeats 4000000
namespace Go.Proofs.YtpdleggpmhlagaaDoor
open Go Go.J
attribute [local irreducible] At AtQ AtM AtM1 PR Ct Pu Rd Res.blk Res.own Res.ex RVs RV
namespace Ra
open Wide
theorem wd_dec (a b : Nat) : decide (a = b) = andL [decide (((a / 18446744073709551616 : Nat) : Int) = ((b / 18446744073709551616 : Nat) : Int)), decide (((a % 18446744073709551616 : Nat) : Int) = ((b % 18446744073709551616 : Nat) : Int))] := by
  by_cases h : a = b
  · subst h; simp [andL]
  · rw [decide_eq_false h]
    by_cases h1 : ((a / 18446744073709551616 : Nat) : Int) = ((b / 18446744073709551616 : Nat) : Int)
    · rw [decide_eq_true h1, decide_eq_false (by omega)]; rfl
    · rw [decide_eq_false h1]; rfl
theorem pr_weq {n : Nat} {F : Fr} {C : World → Prop} {x y : Operand} {u : TypeId} {a b : Nat} (hx : ev F x = some (wv a)) (hy : ev F y = some (wv b)) : PR Tryd.prog n F C (.binOp .eql 24 x y u) (.bool (decide (a = b))) := by
  rw [wd_dec]
  exact pr_aggeq2 hx hy (by rfl) (by kernel_rfl) (by kernel_rfl) (by rfl)
theorem pr_wne {n : Nat} {F : Fr} {C : World → Prop} {x y : Operand} {u : TypeId} {a b : Nat} (hx : ev F x = some (wv a)) (hy : ev F y = some (wv b)) : PR Tryd.prog n F C (.binOp .neq 24 x y u) (.bool (!decide (a = b))) := by
  rw [wd_dec]
  exact pr_aggne2 hx hy (by rfl) (by kernel_rfl) (by kernel_rfl) (by rfl)
theorem hi_shl (h : Nat) {k : Nat} (hk : k ≤ 64) : h * 2 ^ (64 - k) % 18446744073709551616 = h % 2 ^ k * 2 ^ (64 - k) := by
  rw [pow64 hk, Nat.mul_mod_mul_right]
theorem none_ (x : Nat) : Pu Tryd.prog 24 #[wv x] (.bool (decide (x = 0))) := Pu.intro fun m => by
  by_cases h : x = 0
  · subst h
    refine Ct.enterV (by rfl) Tryd.func24 rfl Tryd.ntmps24 rfl (fun w0 Rest => ?_)
    (repeat' (first | refine zss ?_ | ((first | (with_reducible first | apply At.val | apply AtQ.val)); (first | exact pr_weq (a := 0) (b := 0) (by rfl) (by rfl) | exact zprA); exact rfl) | refine zs0 ?_ | ((with_reducible apply At.box (d := 1)); exact rfl; exact rfl; exact rfl; intro b1) | (refine zsp ?_ ?_ <;> (intro hc; (try simp only [zhcs, reduceCtorEq] at hc); (try (exfalso; first | contradiction | omega | exact absurd rfl hc | exact absurd (by decide) hc))))))
    all_goals ((with_reducible apply At.retB1 (B := [])); exact rfl; exact rfl; exact zml; exact zkp; exact ⟨rfl, rfl, rfl⟩)
  · refine Ct.enterV (by rfl) Tryd.func24 rfl Tryd.ntmps24 rfl (fun w0 Rest => ?_)
    (repeat' (first | refine zss ?_ | ((first | (with_reducible first | apply At.val | apply AtQ.val)); (first | exact pr_weq (a := x) (b := 0) (by rfl) (by rfl) | exact zprA); exact rfl) | refine zs0 ?_ | ((with_reducible apply At.box (d := 1)); exact rfl; exact rfl; exact rfl; intro b1) | (refine zsp ?_ ?_ <;> (intro hc; (try simp only [zhcs, reduceCtorEq] at hc); (try (exfalso; first | contradiction | omega | exact absurd rfl hc | exact absurd (by decide) hc))))))
    all_goals ((with_reducible apply At.retB1 (B := [])); exact rfl; exact rfl; exact zml; exact zkp; exact ⟨rfl, rfl, rfl⟩)
theorem ctz_le {y : Nat} (hy : y < 18446744073709551616) : Lib.ctz 64 y ≤ 64 := by
  by_cases h : y = 0
  · subst h; exact Nat.le_refl _
  · obtain ⟨_, _, h2⟩ := ctz_at h hy; omega
theorem noughts {m : Mem} (ht : TZ m) (x : Nat) (hx : x < 340282366920938463463374607431768211456) : Rd Tryd.prog 28 #[wv x] m [] (.int .i64 ((nt x : Nat) : Int)) := by
  unfold Rd
  have hl : x % 18446744073709551616 < 18446744073709551616 := Nat.mod_lt _ (by decide)
  have hc : ∀ y, y < 18446744073709551616 → Lib.ctz 64 y ≤ 64 := fun y hy => ctz_le hy
  unfold nt
  by_cases h : x % 18446744073709551616 = 0
  · rw [if_pos h]
    have k1 := fun (m' : Mem) (hm' : m.le m') => tz (m := m') (ht.mono hm') (x / 18446744073709551616) (by omega)
    have e1 := hc (x / 18446744073709551616) (by omega)
    generalize Lib.ctz 64 (x / 18446744073709551616) = c at k1 e1
    have e2 : IntKind.wrap .i64 (64 + (c : Int)) = ((64 + c : Nat) : Int) := by rw [show 64 + (c : Int) = ((64 + c : Nat) : Int) by omega]; exact IntWalk.i64_in _ (by omega)
    clear hc
    refine Ct.enterV (by rfl) Tryd.func28 rfl Tryd.ntmps28 rfl (fun w0 Rest => ?_)
    (repeat' (first | refine zss ?_ | ((first | (with_reducible first | apply At.val | apply AtQ.val)); (first | exact pr_add (by rfl) (by rfl) e2 | exact zprA); exact rfl) | refine zs0 ?_ | ((with_reducible first | apply AtM1.cr | apply AtQ.cr | apply At.cr); exact rfl; exact rfl; exact fun _ hmm => k1 _ hmm; exact ztk; kernel_rfl) | ((with_reducible apply At.box (d := 1)); exact rfl; exact rfl; exact rfl; intro b1) | (refine zsp ?_ ?_ <;> (intro hc; (try simp only [zhcs, reduceCtorEq] at hc); (try (exfalso; first | omega | contradiction | omega | exact absurd rfl hc | exact absurd (by decide) hc))))))
    all_goals ((with_reducible apply At.retB1 (B := [])); exact rfl; exact rfl; exact zml; exact zkp; exact ⟨rfl, rfl, rfl⟩)
  · rw [if_neg h]
    have k1 := fun (m' : Mem) (hm' : m.le m') => tz (m := m') (ht.mono hm') (x % 18446744073709551616) hl
    clear hc
    refine Ct.enterV (by rfl) Tryd.func28 rfl Tryd.ntmps28 rfl (fun w0 Rest => ?_)
    (repeat' (first | refine zss ?_ | ((first | (with_reducible first | apply At.val | apply AtQ.val)); (exact zprA); exact rfl) | refine zs0 ?_ | ((with_reducible first | apply AtM1.cr | apply AtQ.cr | apply At.cr); exact rfl; exact rfl; exact fun _ hmm => k1 _ hmm; exact ztk; kernel_rfl) | ((with_reducible apply At.box (d := 1)); exact rfl; exact rfl; exact rfl; intro b1) | (refine zsp ?_ ?_ <;> (intro hc; (try simp only [zhcs, reduceCtorEq] at hc); (try (exfalso; first | omega | contradiction | omega | exact absurd rfl hc | exact absurd (by decide) hc))))))
    all_goals ((with_reducible apply At.retB1 (B := [])); exact rfl; exact rfl; exact zml; exact zkp; exact ⟨rfl, rfl, rfl⟩)
theorem down (x k : Nat) (hx : x < 340282366920938463463374607431768211456) (hk : k < 128) : Pu Tryd.prog 29 #[wv x, .int .i64 (k : Int)] (wv (x / 2 ^ k)) := Pu.intro fun m => by
  by_cases h : 64 ≤ k
  · obtain ⟨p1, p2⟩ := dn_far hx h
    have e1 : IntKind.wrap .i64 ((k : Int) - 64) = ((k - 64 : Nat) : Int) := by rw [show (k : Int) - 64 = ((k - 64 : Nat) : Int) by omega]; exact IntWalk.i64_in _ (by omega)
    have e2 := u_shr (x / 18446744073709551616) (k - 64)
    refine Ct.enterV (by rfl) Tryd.func29 rfl Tryd.ntmps29 rfl (fun w0 Rest => ?_)
    (repeat' (first | refine zss ?_ | ((first | (with_reducible first | apply At.val | apply AtQ.val)); (first | exact pr_sub (by rfl) (by rfl) e1 | exact pr_shrv (by rfl) (by rfl) (by omega) (by simp only [IntKind.bits]; omega) e2 | exact zprA); exact rfl) | refine zs0 ?_ | ((with_reducible apply At.box (d := 2)); exact rfl; exact rfl; exact rfl; intro b2) | ((with_reducible apply At.alloc (d := 4)); exact rfl; exact rfl; intro b4) | (refine zsp ?_ ?_ <;> (intro hc; (try simp only [zhcs, reduceCtorEq] at hc); (try (exfalso; first | omega | contradiction | omega | exact absurd rfl hc | exact absurd (by decide) hc))))))
    all_goals ((with_reducible apply At.retV (B := [])); exact rfl; (repeat' (first | exact RVs.nil | (with_reducible apply RVs.cons) | exact rv_tmp (by rfl) | exact rv_cellN (by rfl) (by repeat constructor) (by rfl) (by rfl) (by rfl) | exact rv_cell1 (by rfl) (by repeat constructor) (by rfl) (by rfl) | exact rv_cellA (by rfl) (by repeat constructor) (by rfl) (by rfl) zlq)); exact zml; exact zkp; exact ⟨wd_mk (by rw [p1]; rfl) (by rw [p2]), rfl, rfl⟩)
  · obtain ⟨p1, p2, p3⟩ := dn_parts (x := x) (k := k) (by omega)
    have e0 : IntKind.wrap .i64 (64 - (k : Int)) = ((64 - k : Nat) : Int) := by rw [show 64 - (k : Int) = ((64 - k : Nat) : Int) by omega]; exact IntWalk.i64_in _ (by omega)
    have e1 := u_shr (x / 18446744073709551616) k
    have e2 := u_shr (x % 18446744073709551616) k
    have e3 := u_shl (x / 18446744073709551616) (64 - k)
    have e4 : bits .or .u64 ((x % 18446744073709551616 / 2 ^ k : Nat) : Int) ((x / 18446744073709551616 * 2 ^ (64 - k) % 18446744073709551616 : Nat) : Int) = ((x / 2 ^ k % 18446744073709551616 : Nat) : Int) := by
      have hb : x % 18446744073709551616 / 2 ^ k ≤ x % 18446744073709551616 := Nat.div_le_self _ _
      rw [bits_or_u64_nat _ _ (by omega) (Nat.mod_lt _ (by decide)), p2]
      rw [hi_shl _ (show k ≤ 64 by omega), Nat.or_comm, or_add p3]
    refine Ct.enterV (by rfl) Tryd.func29 rfl Tryd.ntmps29 rfl (fun w0 Rest => ?_)
    (repeat' (first | ((with_reducible apply At.mixed (id := 3) 16 (.q 0 (.q 1 (.q 2 (.q 3 (.q 4 (.q 5 (.q 6 (.q 7 (.q 8 (.q 9 (.q 10 (.q 11 (.q 12 (.q 13 (.q 14 (.x 15 .done))))))))))))))))); exact rfl; kernel_rfl; kernel_rfl; kernel_rfl) | refine zsx ?_ | refine zss ?_ | ((with_reducible apply AtM.bo); exact rfl; exact rfl; exact rfl) | ((first | (with_reducible first | apply At.val | apply AtQ.val) | ((with_reducible first | apply AtM1.valz | apply AtM1.val); exact rfl) | ((with_reducible apply AtM1.val); exact rfl)); (first | exact pr_sub (by rfl) (by rfl) e0 | exact pr_shrv (by rfl) (by rfl) (by omega) (by simp only [IntKind.bits]; omega) e1 | exact pr_shrv (by rfl) (by rfl) (by omega) (by simp only [IntKind.bits]; omega) e2 | exact pr_shlv (by rfl) (by rfl) (by omega) (by simp only [IntKind.bits]; omega) e3 | exact pr_or (by rfl) (by rfl) e4 | exact zprA); exact rfl) | refine zs0 ?_ | refine zx0 ?_ | ((with_reducible apply At.box (d := 2)); exact rfl; exact rfl; exact rfl; intro b2) | ((with_reducible apply At.alloc (d := 4)); exact rfl; exact rfl; intro b4) | (refine zsp ?_ ?_ <;> (intro hc; (try simp only [zhcs, reduceCtorEq] at hc); (try (exfalso; first | omega | contradiction | omega | exact absurd rfl hc | exact absurd (by decide) hc))))))
    all_goals ((with_reducible apply At.retV (B := [])); exact rfl; (repeat' (first | exact RVs.nil | (with_reducible apply RVs.cons) | exact rv_tmp (by rfl) | exact rv_cellN (by rfl) (by repeat constructor) (by rfl) (by rfl) (by rfl) | exact rv_cell1 (by rfl) (by repeat constructor) (by rfl) (by rfl) | exact rv_cellA (by rfl) (by repeat constructor) (by rfl) (by rfl) zlq)); exact zml; exact zkp; exact ⟨wd_mk (by rw [p1]) rfl, rfl, rfl⟩)
theorem lessR (x y : Nat) (hx : x < 340282366920938463463374607431768211456) (hy : y < 340282366920938463463374607431768211456) : Pu Tryd.prog 31 #[wv x, wv y] (wv (x - y)) := Pu.intro fun m => by
  have k1 := sub x y hx hy
  refine Ct.enterV (by rfl) Tryd.func31 rfl Tryd.ntmps31 rfl (fun w0 Rest => ?_)
  (repeat' (first | refine zss ?_ | ((first | (with_reducible first | apply At.val | apply AtQ.val)); (exact zprA); exact rfl) | refine zs0 ?_ | ((with_reducible first | apply AtM1.callp | apply AtQ.callp | apply At.callp); kernel_rfl; exact rfl; exact rfl; exact k1) | ((with_reducible apply At.box (d := 2)); exact rfl; exact rfl; exact rfl; intro b2) | ((with_reducible apply At.box (d := 3)); exact rfl; exact rfl; exact rfl; intro b3) | ((with_reducible apply At.alloc (d := 4)); exact rfl; exact rfl; intro b4) | ((with_reducible apply At.alloc (d := 5)); exact rfl; exact rfl; intro b5) | (refine zsp ?_ ?_ <;> (intro hc; (try simp only [zhcs, reduceCtorEq] at hc); (try (exfalso; first | contradiction | omega | exact absurd rfl hc | exact absurd (by decide) hc))))))
  all_goals ((with_reducible apply At.retV (B := [])); exact rfl; (repeat' (first | exact RVs.nil | (with_reducible apply RVs.cons) | exact rv_tmp (by rfl) | exact rv_cellN (by rfl) (by repeat constructor) (by rfl) (by rfl) (by rfl) | exact rv_cell1 (by rfl) (by repeat constructor) (by rfl) (by rfl) | exact rv_cellA (by rfl) (by repeat constructor) (by rfl) (by rfl) zlq)); exact zml; exact zkp; exact ⟨rfl, rfl, rfl⟩)
theorem up (x k : Nat) (hx : x * 2 ^ k < 340282366920938463463374607431768211456) (h0 : x < 340282366920938463463374607431768211456) (hk : k < 128) : Pu Tryd.prog 32 #[wv x, .int .i64 (k : Int)] (wv (x * 2 ^ k)) := Pu.intro fun m => by
  by_cases h : 64 ≤ k
  · obtain ⟨p1, p2⟩ := up_far hx h
    have e1 : IntKind.wrap .i64 ((k : Int) - 64) = ((k - 64 : Nat) : Int) := by rw [show (k : Int) - 64 = ((k - 64 : Nat) : Int) by omega]; exact IntWalk.i64_in _ (by omega)
    have e2 := u_shl (x % 18446744073709551616) (k - 64)
    refine Ct.enterV (by rfl) Tryd.func32 rfl Tryd.ntmps32 rfl (fun w0 Rest => ?_)
    (repeat' (first | refine zss ?_ | ((first | (with_reducible first | apply At.val | apply AtQ.val)); (first | exact pr_sub (by rfl) (by rfl) e1 | exact pr_shlv (by rfl) (by rfl) (by omega) (by simp only [IntKind.bits]; omega) e2 | exact zprA); exact rfl) | refine zs0 ?_ | ((with_reducible apply At.box (d := 2)); exact rfl; exact rfl; exact rfl; intro b2) | ((with_reducible apply At.alloc (d := 4)); exact rfl; exact rfl; intro b4) | (refine zsp ?_ ?_ <;> (intro hc; (try simp only [zhcs, reduceCtorEq] at hc); (try (exfalso; first | omega | contradiction | omega | exact absurd rfl hc | exact absurd (by decide) hc))))))
    all_goals ((with_reducible apply At.retV (B := [])); exact rfl; (repeat' (first | exact RVs.nil | (with_reducible apply RVs.cons) | exact rv_tmp (by rfl) | exact rv_cellN (by rfl) (by repeat constructor) (by rfl) (by rfl) (by rfl) | exact rv_cell1 (by rfl) (by repeat constructor) (by rfl) (by rfl) | exact rv_cellA (by rfl) (by repeat constructor) (by rfl) (by rfl) zlq)); exact zml; exact zkp; exact ⟨wd_mk (by rw [p1]) (by rw [p2]; rfl), rfl, rfl⟩)
  · obtain ⟨p1, p2, p3⟩ := up_parts (x := x) (k := k) (by omega)
    have e0 : IntKind.wrap .i64 (64 - (k : Int)) = ((64 - k : Nat) : Int) := by rw [show 64 - (k : Int) = ((64 - k : Nat) : Int) by omega]; exact IntWalk.i64_in _ (by omega)
    have hh : x / 18446744073709551616 * 2 ^ k < 18446744073709551616 := by
      have : x * 2 ^ k / 18446744073709551616 < 18446744073709551616 := Nat.div_lt_of_lt_mul hx
      rw [p1] at this
      exact Nat.lt_of_le_of_lt (Nat.le_add_right _ _) this
    have e1 := u_shl (x / 18446744073709551616) k
    rw [Nat.mod_eq_of_lt hh] at e1
    have e2 := u_shl (x % 18446744073709551616) k
    have e3 := u_shr (x % 18446744073709551616) (64 - k)
    have e4 : bits .or .u64 ((x / 18446744073709551616 * 2 ^ k : Nat) : Int) ((x % 18446744073709551616 / 2 ^ (64 - k) : Nat) : Int) = ((x * 2 ^ k / 18446744073709551616 : Nat) : Int) := by
      have hb : x % 18446744073709551616 / 2 ^ (64 - k) ≤ x % 18446744073709551616 := Nat.div_le_self _ _
      rw [bits_or_u64_nat _ _ hh (Nat.lt_of_le_of_lt hb (Nat.mod_lt _ (by decide))), p1, or_add p3]
    refine Ct.enterV (by rfl) Tryd.func32 rfl Tryd.ntmps32 rfl (fun w0 Rest => ?_)
    (repeat' (first | ((with_reducible apply At.mixed (id := 3) 16 (.q 0 (.q 1 (.q 2 (.q 3 (.q 4 (.q 5 (.q 6 (.q 7 (.q 8 (.q 9 (.q 10 (.q 11 (.q 12 (.q 13 (.q 14 (.x 15 .done))))))))))))))))); exact rfl; kernel_rfl; kernel_rfl; kernel_rfl) | refine zsx ?_ | refine zss ?_ | ((with_reducible apply AtM.bo); exact rfl; exact rfl; exact rfl) | ((first | (with_reducible first | apply At.val | apply AtQ.val) | ((with_reducible first | apply AtM1.valz | apply AtM1.val); exact rfl) | ((with_reducible apply AtM1.val); exact rfl)); (first | exact pr_sub (by rfl) (by rfl) e0 | exact pr_shrv (by rfl) (by rfl) (by omega) (by simp only [IntKind.bits]; omega) e3 | exact pr_shlv (by rfl) (by rfl) (by omega) (by simp only [IntKind.bits]; omega) e1 | exact pr_shlv (by rfl) (by rfl) (by omega) (by simp only [IntKind.bits]; omega) e2 | exact pr_or (by rfl) (by rfl) e4 | exact zprA); exact rfl) | refine zs0 ?_ | refine zx0 ?_ | ((with_reducible apply At.box (d := 2)); exact rfl; exact rfl; exact rfl; intro b2) | ((with_reducible apply At.alloc (d := 4)); exact rfl; exact rfl; intro b4) | (refine zsp ?_ ?_ <;> (intro hc; (try simp only [zhcs, reduceCtorEq] at hc); (try (exfalso; first | omega | contradiction | omega | exact absurd rfl hc | exact absurd (by decide) hc))))))
    all_goals ((with_reducible apply At.retV (B := [])); exact rfl; (repeat' (first | exact RVs.nil | (with_reducible apply RVs.cons) | exact rv_tmp (by rfl) | exact rv_cellN (by rfl) (by repeat constructor) (by rfl) (by rfl) (by rfl) | exact rv_cell1 (by rfl) (by repeat constructor) (by rfl) (by rfl) | exact rv_cellA (by rfl) (by repeat constructor) (by rfl) (by rfl) zlq)); exact zml; exact zkp; exact ⟨wd_mk rfl (by rw [p2]), rfl, rfl⟩)
end Ra
end Go.Proofs.YtpdleggpmhlagaaDoor

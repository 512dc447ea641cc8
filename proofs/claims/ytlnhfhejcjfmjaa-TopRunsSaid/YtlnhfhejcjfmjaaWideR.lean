/- The document's numbers, as sixteen bytes. -/
import Derived.Test.YtlnhfhejcjfmjaaWide
set_option linter.unusedSimpArgs false
set_option linter.unusedVariables false
set_option linter.unusedSectionVars false
set_option maxRecDepth 20000
namespace Go.Proofs.Ytlnhfhejcjfmjaa
open Go Go.J
attribute [local irreducible] At AtQ AtM AtM1 PR Ct Pu Rd Res.blk Res.own Res.ex RVs RV
namespace Wide
def tab (f : Nat → Nat) : List Int := (List.range 16).map (fun i => ((f i : Nat) : Int))
def dg (S i : Nat) : Nat := S / 256 ^ i % 256
abbrev gi : Int → Value := fun x => .int .i64 x
abbrev av (f : Nat → Nat) : Value := .agg ((tab f).map gi).toArray
theorem tab_len (f : Nat → Nat) : (tab f).length = 16 := by simp [tab]
theorem tabm_len (f : Nat → Nat) : ((tab f).map gi).length = 16 := by simp [tab]
theorem all_gi (l : List Int) : (l.map gi).all oneCell = true := by
  rw [List.all_eq_true]; intro x hx; obtain ⟨y, -, rfl⟩ := List.mem_map.1 hx; rfl
theorem tab_get (f : Nat → Nat) {i : Nat} (h : i < 16) : (tab f)[i]! = (f i : Int) := by
  rw [getElem!_pos _ i (by rw [tab_len]; exact h)]; simp [tab]
theorem tab_congr {f g : Nat → Nat} (h : ∀ j, j < 16 → f j = g j) : tab f = tab g := by
  unfold tab
  apply List.map_congr_left
  intro j hj
  rw [h j (List.mem_range.1 hj)]
theorem tab_set (f : Nat → Nat) {k : Nat} (v : Nat) (h : k < 16) : (tab f).set k (v : Int) = tab (fun j => if j = k then v else f j) := by
  apply List.ext_getElem (by simp [tab])
  intro j h1 h2
  rw [List.getElem_set]
  simp only [tab, List.getElem_map, List.getElem_range]
  by_cases e : k = j
  · subst e; simp
  · rw [if_neg e, if_neg (Ne.symm e)]
theorem pr_load_tab {n : Nat} {w0 : World} {F : Fr} {m : Mem} {Rs : List Res} {f : Nat → Nat} {x : Operand} {t : TypeId} {b k : Nat} {E : TypeId} {Rs' : List Res} (hx : ev F x = some (.pointer (some ⟨b, k, none⟩))) (hp : Pick Rs (.blk b E ((tab f).map gi)) Rs') (ht : isAggB Try.prog t = some false) (hk : k < 16) :
    PR Try.prog n F (HW w0 m Rs) (.load t x) (.int .i64 ((f k : Nat) : Int)) := by
  have := pr_load_arr (n := n) (w0 := w0) (m := m) (P := Try.prog) (g := gi) hx hp ht (by rw [tab_len]; exact hk)
  rwa [tab_get f hk] at this
theorem dg_lt (S i : Nat) : dg S i < 256 := Nat.mod_lt _ (by decide)
theorem pow256 (i : Nat) : (2 : Int) ^ (8 * (i : Int)).toNat = ((256 ^ i : Nat) : Int) := by
  rw [show (8 * (i : Int)).toNat = 8 * i by omega, show (256 : Nat) ^ i = 2 ^ (8 * i) by rw [Nat.pow_mul], Int.natCast_pow]; rfl
theorem lo_div (x : Nat) {i : Nat} (hi : i < 8) : x % 18446744073709551616 / 256 ^ i % 256 = dg x i := by
  have e : (18446744073709551616 : Nat) = 256 ^ i * 256 ^ (8 - i) := by rw [← Nat.pow_add, show i + (8 - i) = 8 by omega]
  rw [e, Nat.mod_mul_right_div_self]
  have hd : (256 : Nat) ∣ 256 ^ (8 - i) := by
    rw [show 8 - i = (7 - i) + 1 by omega, Nat.pow_succ]; exact Nat.dvd_mul_left _ _
  rw [Nat.mod_mod_of_dvd _ hd]; rfl
theorem hi_div (x i : Nat) : x / 18446744073709551616 / 256 ^ i % 256 = dg x (8 + i) := by
  unfold dg
  rw [Nat.div_div_eq_div_mul, show (18446744073709551616 : Nat) = 256 ^ 8 from rfl, ← Nat.pow_add]
theorem and255 (y : Nat) (h : y < 18446744073709551616) : bits .and .u64 (y : Int) 255 = ((y % 256 : Nat) : Int) := by
  rw [u64_and _ _ (by omega) (by omega) (by decide) (by decide), Int.toNat_natCast, show ((255 : Int)).toNat = 255 from rfl, nat_mask8]
theorem lo_dig (x : Nat) {i : Nat} (hi : i < 8) : bits .and .u64 (((x % 18446744073709551616 : Nat) : Int) / 2 ^ (8 * (i : Int)).toNat) 255 = ((dg x i : Nat) : Int) := by
  rw [pow256, ← Int.natCast_ediv, and255 _ (Nat.lt_of_le_of_lt (Nat.div_le_self _ _) (Nat.mod_lt _ (by decide))), lo_div x hi]
theorem hi_dig (x i : Nat) (hx : x < 340282366920938463463374607431768211456) : bits .and .u64 (((x / 18446744073709551616 : Nat) : Int) / 2 ^ (8 * (i : Int)).toNat) 255 = ((dg x (8 + i) : Nat) : Int) := by
  rw [pow256, ← Int.natCast_ediv, and255 _ (Nat.lt_of_le_of_lt (Nat.div_le_self _ _) (by omega)), hi_div x i]

/-! ### the number that sixteen bytes stand for -/
theorem dig_succ (S i : Nat) : S % 256 ^ (i + 1) = S % 256 ^ i + 256 ^ i * dg S i := Nat.mod_pow_succ
theorem or_dig {q d i : Nat} (hq : q < 256 ^ i) (hd : d < 256) (hi : i < 8) : bits .or .u64 (q : Int) (((d : Int) * 2 ^ (8 * (i : Int)).toNat) % 18446744073709551616) = ((q + 256 ^ i * d : Nat) : Int) := by
  have e : (18446744073709551616 : Nat) = 256 ^ i * 256 ^ (8 - i) := by rw [← Nat.pow_add, show i + (8 - i) = 8 by omega]
  have h1 : d * 256 ^ i < 18446744073709551616 := by
    rw [e, Nat.mul_comm]
    refine Nat.mul_lt_mul_of_pos_left (Nat.lt_of_lt_of_le hd ?_) (Nat.pow_pos (by decide))
    rw [show (256 : Nat) = 256 ^ 1 from rfl, ← Nat.pow_mul, Nat.one_mul]
    exact Nat.pow_le_pow_right (by decide) (by omega)
  have h2 : q < 18446744073709551616 := by
    refine Nat.lt_of_lt_of_le hq ?_
    rw [show (18446744073709551616 : Nat) = 256 ^ 8 from rfl]
    exact Nat.pow_le_pow_right (by decide) (by omega)
  rw [pow256, ← Int.natCast_mul, Int.emod_eq_of_lt (by omega) (by omega), u64_or _ _ (by omega) (by omega) (by omega) (by omega), Int.toNat_natCast, Int.toNat_natCast]
  congr 1
  rw [show (256 : Nat) ^ i = 2 ^ (8 * i) by rw [Nat.pow_mul]] at hq ⊢
  rw [Nat.or_comm, Nat.mul_comm, ← Nat.two_pow_add_eq_or_of_lt hq, Nat.add_comm]
theorem hi_dg (x i : Nat) : dg (x / 18446744073709551616) i = dg x (8 + i) := by
  unfold dg; exact hi_div x i
structure OS where
  (i : Nat) (h : Nat) (l : Nat)
/-! ### the sum, digit by digit -/
theorem pr_load_tabv {n : Nat} {w0 : World} {F : Fr} {m : Mem} {Rs : List Res} {f : Nat → Nat} {x : Operand} {t : TypeId} {b k v : Nat} {E : TypeId} {Rs' : List Res} (hx : ev F x = some (.pointer (some ⟨b, k, none⟩))) (hp : Pick Rs (.blk b E ((tab f).map gi)) Rs') (ht : isAggB Try.prog t = some false) (hk : k < 16) (hv : f k = v) :
    PR Try.prog n F (HW w0 m Rs) (.load t x) (.int .i64 ((v : Nat) : Int)) := hv ▸ pr_load_tab hx hp ht hk
def cy (x y i : Nat) : Nat := (x % 256 ^ i + y % 256 ^ i) / 256 ^ i
theorem cy_lt (x y i : Nat) : cy x y i < 2 := by
  have h : 0 < 256 ^ i := Nat.pow_pos (by decide)
  unfold cy
  rw [Nat.div_lt_iff_lt_mul h]
  have h1 := Nat.mod_lt x h
  have h2 := Nat.mod_lt y h
  omega
theorem cy_succ (x y i : Nat) : (dg x i + dg y i + cy x y i) / 256 = cy x y (i + 1) := by
  have h : 0 < 256 ^ i := Nat.pow_pos (by decide)
  unfold cy
  rw [dig_succ, dig_succ, Nat.pow_succ, ← Nat.div_div_eq_div_mul]
  congr 1
  rw [show x % 256 ^ i + 256 ^ i * dg x i + (y % 256 ^ i + 256 ^ i * dg y i) = (x % 256 ^ i + y % 256 ^ i) + 256 ^ i * (dg x i + dg y i) by rw [Nat.mul_add]; omega, Nat.add_mul_div_left _ _ h]
  omega
theorem cy_dig (x y i : Nat) : (dg x i + dg y i + cy x y i) % 256 = dg (x + y) i := by
  have h : 0 < 256 ^ i := Nat.pow_pos (by decide)
  unfold dg cy
  have e : (x + y) / 256 ^ i = x / 256 ^ i + y / 256 ^ i + (x % 256 ^ i + y % 256 ^ i) / 256 ^ i := by
    conv => lhs; rw [← Nat.mod_add_div x (256 ^ i), ← Nat.mod_add_div y (256 ^ i)]
    rw [show x % 256 ^ i + 256 ^ i * (x / 256 ^ i) + (y % 256 ^ i + 256 ^ i * (y / 256 ^ i)) = (x % 256 ^ i + y % 256 ^ i) + 256 ^ i * (x / 256 ^ i + y / 256 ^ i) by rw [Nat.mul_add]; omega, Nat.add_mul_div_left _ _ h]
    omega
  rw [e]; omega
theorem cy_end (x y : Nat) (hx : x < 340282366920938463463374607431768211456) (hy : y < 340282366920938463463374607431768211456) : cy x y 16 = (x + y) / 340282366920938463463374607431768211456 := by
  unfold cy
  rw [show (256 : Nat) ^ 16 = 340282366920938463463374607431768211456 from rfl, Nat.mod_eq_of_lt hx, Nat.mod_eq_of_lt hy]
structure AS where
  (i : Nat) (c : Nat)
end Wide
end Go.Proofs.Ytlnhfhejcjfmjaa

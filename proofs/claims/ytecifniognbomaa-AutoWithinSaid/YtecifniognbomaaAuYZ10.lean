/- Part 10 of what the law's proof needs: rules of the walk, contracts of functions, plain laws. No condition. -/
import Derived.Test.YtecifniognbomaaAuYZ9
/- What lies within, and around (plain). -/
set_option linter.unusedSimpArgs false
set_option linter.unusedVariables false
set_option linter.unusedSectionVars false
set_option maxRecDepth 20000
set_option maxHeartbeats 4000000
namespace Go.Proofs.Ytecifniognbomaa
open Go Go.J
namespace Au
open Se Win St
/-- why a tier can't answer -/
def oneE (w o a b : Int) : Int := if spanE a b w ≠ 0 then spanE a b w else if spanA a b w < o then 11 else 0
def tierV (t w o a b : Int) : Int := if oneE w o a b = 0 then t else 0
theorem span_ok {w i j : Int} (hw : 1 ≤ w ∧ w ≤ 1099511627776) (hi : 0 ≤ i) (hj : i < j) (hm : j * w ≤ 35184372088832) : spanE (i * w) (j * w) w = 0 ∧ spanA (i * w) (j * w) w = i := by
  have h0 : 0 ≤ i * w := Int.mul_nonneg hi (by omega)
  have h1 : i * w < j * w := Int.mul_lt_mul_of_pos_right hj (by omega)
  have hR : spanR (i * w) (j * w) w = true := decide_eq_true ⟨hw.1, hw.2, h0, hm, h1⟩
  have hU : spanU (i * w) (j * w) w = true := decide_eq_true ⟨Int.mul_emod_left _ _, Int.mul_emod_left _ _⟩
  unfold spanE spanA
  rw [hR, hU]
  exact ⟨rfl, Int.mul_ediv_cancel _ (by omega)⟩
theorem span0 {a b w : Int} (h : spanE a b w = 0) : spanA a b w = a / w ∧ a % w = 0 ∧ b % w = 0 ∧ 0 ≤ a ∧ a < b ∧ b ≤ 35184372088832 := by
  unfold spanE at h
  cases hR : spanR a b w
  · rw [hR, if_neg (by decide)] at h; exact absurd h (by decide)
  cases hU : spanU a b w
  · rw [hR, hU, if_pos rfl, if_neg (by decide)] at h; exact absurd h (by decide)
  have r := of_decide_eq_true hR
  have q := of_decide_eq_true hU
  unfold spanA
  rw [hR, hU]
  exact ⟨rfl, q.1, q.2, r.2.2.1, r.2.2.2.2, r.2.2.2.1⟩
theorem one_ok {w o i j : Int} (hw : 1 ≤ w ∧ w ≤ 1099511627776) (hi : 0 ≤ i) (hj : i < j) (hm : j * w ≤ 35184372088832) (ho : o ≤ i) : oneE w o (i * w) (j * w) = 0 := by
  obtain ⟨h1, h2⟩ := span_ok hw hi hj hm
  unfold oneE
  rw [if_neg (not_not_intro h1), h2, if_neg (by omega)]
theorem one0 {w o a b : Int} (h : oneE w o a b = 0) : spanE a b w = 0 ∧ o ≤ a / w := by
  unfold oneE at h
  by_cases h1 : spanE a b w = 0
  · rw [if_neg (not_not_intro h1), (span0 h1).1] at h
    refine ⟨h1, ?_⟩
    by_cases h2 : a / w < o
    · rw [if_pos h2] at h; exact absurd h (by decide)
    · omega
  · rw [if_pos h1] at h; exact absurd h h1
structure Wi (t w o f g a b e : Int) : Prop where
  one : oneE w o a b = 0
  tv : tierV t w o a b = t
  lo : f ≤ a
  hi : b ≤ g
  near : g - b < w
  bef : w ≤ a - f → oneE w o (a - w) b ≠ 0
  b0 : 0 ≤ a ∧ a < b
theorem within_in {t w o f g : Int} (hw : 1 ≤ w ∧ w ≤ 1099511627776) (ho : 0 ≤ o) (hf : 0 ≤ f ∧ f < g ∧ g ≤ 35184372088832) (h : (innW w o f g).2.2 = 0) :
    Wi t w o f g (innW w o f g).1 (innW w o f g).2.1 0 := by
  unfold innW at h ⊢
  by_cases h1 : g / w ≤ max (upI f w) o
  · rw [if_pos h1] at h; exact absurd h (by decide)
  rw [if_neg h1]
  dsimp only
  have hu := upI_bd (x := f) hf.1 hw.1
  have hd := mul_div (x := g) (by omega) hw.1
  have hm := mod_bd (t := g) hw.1
  have he := Int.emod_add_mul_ediv g w
  rw [Int.mul_comm] at he
  obtain ⟨i, hi⟩ : ∃ i, max (upI f w) o = i := ⟨_, rfl⟩
  rw [hi] at h1 ⊢
  have hi0 : 0 ≤ i := by omega
  have hui : upI f w ≤ i := by omega
  have hoi : o ≤ i := by omega
  have h2 : upI f w * w ≤ i * w := Int.mul_le_mul_of_nonneg_right hui (by omega)
  have h3 : i * w < g / w * w := Int.mul_lt_mul_of_pos_right (by omega) (by omega)
  have h4 : 0 ≤ i * w := Int.mul_nonneg hi0 (by omega)
  have ho1 := one_ok (o := o) hw hi0 (show i < g / w by omega) (by omega) hoi
  refine ⟨ho1, if_pos ho1, by omega, by omega, by omega, fun hb hq => ?_, by omega⟩
  obtain ⟨-, q2⟩ := one0 hq
  have e1 : (i * w - w) / w = i - 1 := by
    rw [show i * w - w = (i - 1) * w by rw [Int.sub_mul, Int.one_mul]]
    exact Int.mul_ediv_cancel _ (by omega)
  rw [e1] at q2
  have : i = upI f w := by omega
  rw [this] at hb
  omega
structure Ar (t w o f g c d : Int) : Prop where
  one : oneE w o c d = 0
  tv : tierV t w o c d = t
  lo : c ≤ f
  hi : g ≤ d
  nearA : f - c < w
  nearB : d - g < w
  b0 : 0 ≤ c ∧ d ≤ 35184372088832
theorem within_out {t w o f g : Int} (hw : 1 ≤ w ∧ w ≤ 1099511627776) (hf : 0 ≤ f ∧ f < g ∧ g ≤ 35184372088832) (h : (outW w o f g).2.2 = 0) :
    Ar t w o f g (outW w o f g).1 (outW w o f g).2.1 := by
  unfold outW at h ⊢
  by_cases h1 : f / w < o
  · rw [if_pos h1] at h; exact absurd h (by decide)
  rw [if_neg h1] at h ⊢
  by_cases h2 : 35184372088832 < upI g w * w
  · rw [if_pos h2] at h; exact absurd h (by decide)
  rw [if_neg h2]
  dsimp only
  have hu := upI_bd (x := g) (by omega) hw.1
  have hd := mul_div (x := f) hf.1 hw.1
  have hm := mod_bd (t := f) hw.1
  have he := Int.emod_add_mul_ediv f w
  rw [Int.mul_comm] at he
  have hlt : f / w < upI g w := by
    apply Decidable.by_contra
    intro hn
    have := Int.mul_le_mul_of_nonneg_right (show upI g w ≤ f / w by omega) (show 0 ≤ w by omega)
    omega
  have ho1 := one_ok (o := o) hw (div_bd hf.1 hw.1).1 hlt (by omega) (by omega)
  exact ⟨ho1, if_pos ho1, by omega, by omega, by omega, by omega, by omega⟩
theorem within_eq {w o f g : Int} (hw : 1 ≤ w ∧ w ≤ 1099511627776) (h : oneE w o f g = 0) : innW w o f g = (f, g, 0) ∧ outW w o f g = (f, g, 0) := by
  obtain ⟨h1, h2⟩ := one0 h
  obtain ⟨-, m1, m2, p1, p2, p3⟩ := span0 h1
  have e1 := Int.emod_add_mul_ediv f w
  have e2 := Int.emod_add_mul_ediv g w
  rw [Int.mul_comm] at e1 e2
  have u1 : upI f w = f / w := by rw [upI_eq hw.1, if_neg (by omega)]
  have u2 : upI g w = g / w := by rw [upI_eq hw.1, if_neg (by omega)]
  have hlt : f / w < g / w := by
    apply Decidable.by_contra
    intro hn
    have := Int.mul_le_mul_of_nonneg_right (show g / w ≤ f / w by omega) (show 0 ≤ w by omega)
    omega
  have hmx : max (f / w) o = f / w := by omega
  unfold innW outW
  rw [u1, u2, hmx, if_neg (by omega), if_neg (by omega), if_neg (by omega), show f / w * w = f by omega, show g / w * w = g by omega]
  exact ⟨rfl, rfl⟩
end Au
end Go.Proofs.Ytecifniognbomaa
/- Which tier answers. -/
set_option linter.unusedSimpArgs false
set_option linter.unusedVariables false
set_option linter.unusedSectionVars false
set_option maxRecDepth 20000
set_option maxHeartbeats 4000000
namespace Go.Proofs.Ytecifniognbomaa
open Go Go.J
attribute [local irreducible] At AtQ AtM AtM1 PR Ct Pu Rd Res.blk Res.own Res.ex RVs RV
namespace Au
open Se Win St
theorem one {m : Mem} (u : Sta) (t w n a b : Int) (hs : u.Ok m) (hok : okU u) (h : T3 u.k t w n) :
    Rd Try.prog 23 #[u.v, .int .i64 t, .int .i64 a, .int .i64 b] m [] (.int .i64 (oneE w (oldV u.now w n) a b)) := by
  unfold Rd
  have k0 := fun (m' : Mem) (hm : m.le m') => kept u t w n (hs.mono hm) hok h
  have k1 := win_span a b w
  unfold oneE
  generalize oldV u.now w n = o at k0 ⊢
  generalize u.now / w = q at k0
  generalize spanE a b w = e at k1 ⊢
  generalize spanA a b w = x at k1 ⊢
  generalize spanB a b w = y at k1
  clear hs hok
  by_cases h1 : e ≠ 0
  · rw [if_pos h1]
    rcases h with ⟨rfl, rfl, -⟩ | ⟨rfl, rfl, -⟩ | ⟨rfl, rfl, -⟩
    all_goals
      refine Ct.enterV (by rfl) Try.func23 rfl Try.ntmps23 rfl (fun w0 Rest => ?_)
      (repeat' (first | refine zss ?_ | ((first | (with_reducible first | apply At.val | apply AtQ.val)); (first | exact pr_indexArr (k := 0) (by rfl) (by rfl) (by rfl) (by rfl) (by decide) | exact pr_indexArr (k := 1) (by rfl) (by rfl) (by rfl) (by rfl) (by decide) | exact pr_indexArr (k := 2) (by rfl) (by rfl) (by rfl) (by rfl) (by decide)); exact rfl) | refine zs0 ?_ | ((with_reducible first | apply AtM1.cr | apply AtQ.cr | apply At.cr); exact rfl; exact rfl; exact fun _ hmm => k0 _ hmm; exact ztk; kernel_rfl) | ((with_reducible first | apply AtM1.callp | apply AtQ.callp | apply At.callp); kernel_rfl; exact rfl; exact rfl; exact k1) | ((with_reducible apply At.box (d := 4)); exact rfl; exact rfl; exact rfl; intro b4) | (refine zsp ?_ ?_ <;> (intro hc; (try simp only [zhcs, reduceCtorEq] at hc); (try (exfalso; first | (first | omega | exact absurd rfl hc | exact absurd hc h1) | contradiction | omega | exact absurd rfl hc | exact absurd (by decide) hc))))))
      all_goals ((with_reducible apply At.retB1 (B := [])); exact rfl; exact rfl; exact zml; exact zkp; exact ⟨rfl, rfl, rfl⟩)
  rw [if_neg h1]
  obtain rfl : e = 0 := by omega
  clear h1
  by_cases h2 : x < o
  · rw [if_pos h2]
    rcases h with ⟨rfl, rfl, -⟩ | ⟨rfl, rfl, -⟩ | ⟨rfl, rfl, -⟩
    all_goals
      refine Ct.enterV (by rfl) Try.func23 rfl Try.ntmps23 rfl (fun w0 Rest => ?_)
      (repeat' (first | refine zss ?_ | ((first | (with_reducible first | apply At.val | apply AtQ.val)); (first | exact pr_indexArr (k := 0) (by rfl) (by rfl) (by rfl) (by rfl) (by decide) | exact pr_indexArr (k := 1) (by rfl) (by rfl) (by rfl) (by rfl) (by decide) | exact pr_indexArr (k := 2) (by rfl) (by rfl) (by rfl) (by rfl) (by decide)); exact rfl) | refine zs0 ?_ | ((with_reducible first | apply AtM1.cr | apply AtQ.cr | apply At.cr); exact rfl; exact rfl; exact fun _ hmm => k0 _ hmm; exact ztk; kernel_rfl) | ((with_reducible first | apply AtM1.callp | apply AtQ.callp | apply At.callp); kernel_rfl; exact rfl; exact rfl; exact k1) | ((with_reducible apply At.box (d := 4)); exact rfl; exact rfl; exact rfl; intro b4) | (refine zsp ?_ ?_ <;> (intro hc; (try simp only [zhcs, reduceCtorEq] at hc); (try (exfalso; first | (first | omega | exact absurd rfl hc) | contradiction | omega | exact absurd rfl hc | exact absurd (by decide) hc))))))
      all_goals ((with_reducible apply At.retB1 (B := [])); exact rfl; exact rfl; exact zml; exact zkp; exact ⟨rfl, rfl, rfl⟩)
  · rw [if_neg h2]
    rcases h with ⟨rfl, rfl, -⟩ | ⟨rfl, rfl, -⟩ | ⟨rfl, rfl, -⟩
    all_goals
      refine Ct.enterV (by rfl) Try.func23 rfl Try.ntmps23 rfl (fun w0 Rest => ?_)
      (repeat' (first | refine zss ?_ | ((first | (with_reducible first | apply At.val | apply AtQ.val)); (first | exact pr_indexArr (k := 0) (by rfl) (by rfl) (by rfl) (by rfl) (by decide) | exact pr_indexArr (k := 1) (by rfl) (by rfl) (by rfl) (by rfl) (by decide) | exact pr_indexArr (k := 2) (by rfl) (by rfl) (by rfl) (by rfl) (by decide)); exact rfl) | refine zs0 ?_ | ((with_reducible first | apply AtM1.cr | apply AtQ.cr | apply At.cr); exact rfl; exact rfl; exact fun _ hmm => k0 _ hmm; exact ztk; kernel_rfl) | ((with_reducible first | apply AtM1.callp | apply AtQ.callp | apply At.callp); kernel_rfl; exact rfl; exact rfl; exact k1) | ((with_reducible apply At.box (d := 4)); exact rfl; exact rfl; exact rfl; intro b4) | (refine zsp ?_ ?_ <;> (intro hc; (try simp only [zhcs, reduceCtorEq] at hc); (try (exfalso; first | (first | omega | exact absurd rfl hc) | contradiction | omega | exact absurd rfl hc | exact absurd (by decide) hc))))))
      all_goals ((with_reducible apply At.retB1 (B := [])); exact rfl; exact rfl; exact zml; exact zkp; exact ⟨rfl, rfl, rfl⟩)
theorem tier {m : Mem} (u : Sta) (t w n a b : Int) (hs : u.Ok m) (hok : okU u) (h : T3 u.k t w n) :
    Rd Try.prog 8 #[u.v, .int .i64 t, .int .i64 a, .int .i64 b] m [] (.tuple #[.int .i64 (tierV t w (oldV u.now w n) a b), .int .i64 (oneE w (oldV u.now w n) a b)]) := by
  unfold Rd
  have k0 := fun (m' : Mem) (hm : m.le m') => check u (hs.mono hm)
  rw [show chk u = 0 from if_pos hok] at k0
  have k1 := fun (m' : Mem) (hm : m.le m') => one u t w n a b (hs.mono hm) hok h
  have h13 : 1 ≤ t ∧ t ≤ 3 := by rcases h with ⟨rfl, -⟩ | ⟨rfl, -⟩ | ⟨rfl, -⟩ <;> decide
  unfold tierV
  generalize oneE w (oldV u.now w n) a b = e at k1 ⊢
  clear hs hok h
  by_cases h1 : e = 0
  · rw [if_pos h1]
    subst h1
    refine Ct.enterV (by rfl) Try.func8 rfl Try.ntmps8 rfl (fun w0 Rest => ?_)
    (repeat' (first | refine zss ?_ | refine zs0 ?_ | ((with_reducible first | apply AtM1.cr | apply AtQ.cr | apply At.cr); exact rfl; exact rfl; exact fun _ hmm => k0 _ hmm; exact ztk; kernel_rfl) | ((with_reducible first | apply AtM1.cr | apply AtQ.cr | apply At.cr); exact rfl; exact rfl; exact fun _ hmm => k1 _ hmm; exact ztk; kernel_rfl) | ((with_reducible apply At.box (d := 4)); exact rfl; exact rfl; exact rfl; intro b4) | (refine zsp ?_ ?_ <;> (intro hc; (try simp only [zhcs, reduceCtorEq] at hc); (try (exfalso; first | (first | omega | exact absurd rfl hc) | contradiction | omega | exact absurd rfl hc | exact absurd (by decide) hc))))))
    all_goals ((with_reducible apply At.retV (B := [])); exact rfl; (repeat' (first | exact RVs.nil | (with_reducible apply RVs.cons) | exact rv_tmp (by rfl) | exact rv_cellN (by rfl) (by repeat constructor) (by rfl) (by rfl) (by rfl) | exact rv_cell1 (by rfl) (by repeat constructor) (by rfl) (by rfl))); exact zml; exact zkp; exact ⟨rfl, rfl, rfl⟩)
  · rw [if_neg h1]
    refine Ct.enterV (by rfl) Try.func8 rfl Try.ntmps8 rfl (fun w0 Rest => ?_)
    (repeat' (first | refine zss ?_ | refine zs0 ?_ | ((with_reducible first | apply AtM1.cr | apply AtQ.cr | apply At.cr); exact rfl; exact rfl; exact fun _ hmm => k0 _ hmm; exact ztk; kernel_rfl) | ((with_reducible first | apply AtM1.cr | apply AtQ.cr | apply At.cr); exact rfl; exact rfl; exact fun _ hmm => k1 _ hmm; exact ztk; kernel_rfl) | ((with_reducible apply At.box (d := 4)); exact rfl; exact rfl; exact rfl; intro b4) | (refine zsp ?_ ?_ <;> (intro hc; (try simp only [zhcs, reduceCtorEq] at hc); (try (exfalso; first | (first | omega | exact absurd rfl hc | exact absurd hc h1) | contradiction | omega | exact absurd rfl hc | exact absurd (by decide) hc))))))
    all_goals ((with_reducible apply At.retV (B := [])); exact rfl; (repeat' (first | exact RVs.nil | (with_reducible apply RVs.cons) | exact rv_tmp (by rfl) | exact rv_cellN (by rfl) (by repeat constructor) (by rfl) (by rfl) (by rfl) | exact rv_cell1 (by rfl) (by repeat constructor) (by rfl) (by rfl))); exact zml; exact zkp; exact ⟨rfl, rfl, rfl⟩)
/-- what AutoWithin's calls answer -/
structure Wk (m : Mem) (u : Sta) (t f g w o a b e1 c d e2 : Int) : Prop where
  lv : ∀ m', m.le m' → Rd Try.prog 4 #[] m' [] (.bool true)
  su : ∀ m', m.le m' → Rd Try.prog 5 #[u.v] m' [] (.int .i64 1)
  ck : ∀ m', m.le m' → Rd Try.prog 6 #[u.v] m' [] (.int .i64 0)
  k1 : ∀ m', m.le m' → Rd Try.prog 7 #[u.v, .int .i64 t, .int .i64 f, .int .i64 g] m' [] (.tuple #[.int .i64 a, .int .i64 b, .int .i64 e1])
  k3 : ∀ m', m.le m' → Rd Try.prog 9 #[u.v, .int .i64 t, .int .i64 f, .int .i64 g] m' [] (.tuple #[.int .i64 c, .int .i64 d, .int .i64 e2])
  kt : ∀ m', m.le m' → ∀ x y : Int, Rd Try.prog 8 #[u.v, .int .i64 t, .int .i64 x, .int .i64 y] m' [] (.tuple #[.int .i64 (tierV t w o x y), .int .i64 (oneE w o x y)])
  wb : 1 ≤ w ∧ w ≤ 1099511627776
  h3 : ∃ n, T3 u.k t w n
end Au
end Go.Proofs.Ytecifniognbomaa
/- AutoWithin, case 1. -/
set_option linter.unusedSimpArgs false
set_option linter.unusedVariables false
set_option linter.unusedSectionVars false
set_option maxRecDepth 20000
set_option maxHeartbeats 4000000
namespace Go.Proofs.Ytecifniognbomaa
open Go Go.J
attribute [local irreducible] At AtQ AtM AtM1 PR Ct Pu Rd Res.blk Res.own Res.ex RVs RV
namespace Au
open Se Win St
set_option maxRecDepth 100000 in
theorem within1 {m : Mem} (u : Sta) (t f g w o a b c d : Int) (K : Wk m u t f g w o a b 0 c d 0) (q1 : oneE w o a b = 0 ∧ tierV t w o a b = t ∧ f ≤ a ∧ b ≤ g ∧ g - b < w ∧ (w ≤ a - f → oneE w o (a - w) b ≠ 0) ∧ 0 ≤ a ∧ a < b) (q2 : oneE w o c d = 0 ∧ tierV t w o c d = t ∧ c ≤ f ∧ g ≤ d ∧ f - c < w ∧ d - g < w ∧ 0 ≤ c ∧ d ≤ 35184372088832) (q3 : a = f ∧ b = g ∧ c = f ∧ d = g) (q4 : oneE w o f g = 0) (q5 : 0 ≤ f ∧ f < g ∧ g ≤ 35184372088832) :
    Ct Try.prog 3 #[u.v, .int .i64 t, .int .i64 f, .int .i64 g] m [] (fun v m' B => v = .bool true ∧ B = []) := by
  obtain ⟨hlv, hsu, kc, k1, k3, kt, hw, n, h3⟩ := K
  rcases h3 with ⟨rfl, rfl, -⟩ | ⟨rfl, rfl, -⟩ | ⟨rfl, rfl, -⟩
  all_goals
    refine Ct.enterV (by rfl) Try.func3 rfl Try.ntmps3 rfl (fun w0 Rest => ?_)
    (repeat' (first | refine zss ?_ | ((first | (with_reducible first | apply At.val | apply AtQ.val)); (first | exact pr_indexArr (k := 0) (by rfl) (by rfl) (by rfl) (by rfl) (by decide) | exact pr_indexArr (k := 1) (by rfl) (by rfl) (by rfl) (by rfl) (by decide) | exact pr_indexArr (k := 2) (by rfl) (by rfl) (by rfl) (by rfl) (by decide)); exact rfl) | refine zsM ?_ | ((with_reducible first | apply AtM1.cr | apply AtQ.cr | apply At.cr); exact rfl; exact rfl; exact fun _ hmm => hlv _ hmm; exact ztk; kernel_rfl) | ((with_reducible first | apply AtM1.cr | apply AtQ.cr | apply At.cr); exact rfl; exact rfl; exact fun _ hmm => hsu _ hmm; exact ztk; kernel_rfl) | ((with_reducible first | apply AtM1.cr | apply AtQ.cr | apply At.cr); exact rfl; exact rfl; exact fun _ hmm => kc _ hmm; exact ztk; kernel_rfl) | ((with_reducible first | apply AtM1.cr | apply AtQ.cr | apply At.cr); exact rfl; exact rfl; exact fun _ hmm => k1 _ hmm; exact ztk; kernel_rfl) | ((with_reducible first | apply AtM1.cr | apply AtQ.cr | apply At.cr); exact rfl; exact rfl; exact fun _ hmm => k3 _ hmm; exact ztk; kernel_rfl) | ((with_reducible first | apply AtM1.cr | apply AtQ.cr | apply At.cr); exact rfl; exact rfl; exact fun _ hmm => kt _ hmm _ _; exact ztk; kernel_rfl) | ((with_reducible apply At.box (d := 4)); exact rfl; exact rfl; exact rfl; intro b4) | (refine zsp ?_ ?_ <;> (intro hc; (try simp only [zhcs, reduceCtorEq] at hc); (try (exfalso; first | (first | omega | exact absurd rfl hc | exact absurd hc (by decide)) | contradiction | omega | exact absurd rfl hc | exact absurd (by decide) hc))))))
    all_goals ((with_reducible apply At.retB1 (B := [])); exact rfl; exact rfl; exact zml; exact zkp; exact ⟨by first | rfl | (simp only [*]; simp; done) | (simp; omega), rfl⟩)
end Au
end Go.Proofs.Ytecifniognbomaa
/- AutoWithin, case 2. -/
set_option linter.unusedSimpArgs false
set_option linter.unusedVariables false
set_option linter.unusedSectionVars false
set_option maxRecDepth 20000
set_option maxHeartbeats 4000000
namespace Go.Proofs.Ytecifniognbomaa
open Go Go.J
attribute [local irreducible] At AtQ AtM AtM1 PR Ct Pu Rd Res.blk Res.own Res.ex RVs RV
namespace Au
open Se Win St
set_option maxRecDepth 100000 in
theorem within2 {m : Mem} (u : Sta) (t f g w o a b c d : Int) (K : Wk m u t f g w o a b 0 c d 0) (q1 : oneE w o a b = 0 ∧ tierV t w o a b = t ∧ f ≤ a ∧ b ≤ g ∧ g - b < w ∧ (w ≤ a - f → oneE w o (a - w) b ≠ 0) ∧ 0 ≤ a ∧ a < b) (q2 : oneE w o c d = 0 ∧ tierV t w o c d = t ∧ c ≤ f ∧ g ≤ d ∧ f - c < w ∧ d - g < w ∧ 0 ≤ c ∧ d ≤ 35184372088832) (q4 : oneE w o f g ≠ 0) (q5 : 0 ≤ f ∧ f < g ∧ g ≤ 35184372088832) :
    Ct Try.prog 3 #[u.v, .int .i64 t, .int .i64 f, .int .i64 g] m [] (fun v m' B => v = .bool true ∧ B = []) := by
  obtain ⟨hlv, hsu, kc, k1, k3, kt, hw, n, h3⟩ := K
  rcases h3 with ⟨rfl, rfl, -⟩ | ⟨rfl, rfl, -⟩ | ⟨rfl, rfl, -⟩
  all_goals
    refine Ct.enterV (by rfl) Try.func3 rfl Try.ntmps3 rfl (fun w0 Rest => ?_)
    (repeat' (first | refine zss ?_ | ((first | (with_reducible first | apply At.val | apply AtQ.val)); (first | exact pr_indexArr (k := 0) (by rfl) (by rfl) (by rfl) (by rfl) (by decide) | exact pr_indexArr (k := 1) (by rfl) (by rfl) (by rfl) (by rfl) (by decide) | exact pr_indexArr (k := 2) (by rfl) (by rfl) (by rfl) (by rfl) (by decide)); exact rfl) | refine zsM ?_ | ((with_reducible first | apply AtM1.cr | apply AtQ.cr | apply At.cr); exact rfl; exact rfl; exact fun _ hmm => hlv _ hmm; exact ztk; kernel_rfl) | ((with_reducible first | apply AtM1.cr | apply AtQ.cr | apply At.cr); exact rfl; exact rfl; exact fun _ hmm => hsu _ hmm; exact ztk; kernel_rfl) | ((with_reducible first | apply AtM1.cr | apply AtQ.cr | apply At.cr); exact rfl; exact rfl; exact fun _ hmm => kc _ hmm; exact ztk; kernel_rfl) | ((with_reducible first | apply AtM1.cr | apply AtQ.cr | apply At.cr); exact rfl; exact rfl; exact fun _ hmm => k1 _ hmm; exact ztk; kernel_rfl) | ((with_reducible first | apply AtM1.cr | apply AtQ.cr | apply At.cr); exact rfl; exact rfl; exact fun _ hmm => k3 _ hmm; exact ztk; kernel_rfl) | ((with_reducible first | apply AtM1.cr | apply AtQ.cr | apply At.cr); exact rfl; exact rfl; exact fun _ hmm => kt _ hmm _ _; exact ztk; kernel_rfl) | ((with_reducible apply At.box (d := 4)); exact rfl; exact rfl; exact rfl; intro b4) | (refine zsp ?_ ?_ <;> (intro hc; (try simp only [zhcs, reduceCtorEq] at hc); (try (exfalso; first | (first | omega | exact absurd rfl hc | exact absurd hc (by decide)) | contradiction | omega | exact absurd rfl hc | exact absurd (by decide) hc))))))
    all_goals ((with_reducible apply At.retB1 (B := [])); exact rfl; exact rfl; exact zml; exact zkp; exact ⟨by first | rfl | (simp only [*]; simp; done) | (simp; omega), rfl⟩)
end Au
end Go.Proofs.Ytecifniognbomaa
/- AutoWithin, case 3. -/
set_option linter.unusedSimpArgs false
set_option linter.unusedVariables false
set_option linter.unusedSectionVars false
set_option maxRecDepth 20000
set_option maxHeartbeats 4000000
namespace Go.Proofs.Ytecifniognbomaa
open Go Go.J
attribute [local irreducible] At AtQ AtM AtM1 PR Ct Pu Rd Res.blk Res.own Res.ex RVs RV
namespace Au
open Se Win St
set_option maxRecDepth 100000 in
theorem within3 {m : Mem} (u : Sta) (t f g w o a b c d e2 : Int) (K : Wk m u t f g w o a b 0 c d e2) (q1 : oneE w o a b = 0 ∧ tierV t w o a b = t ∧ f ≤ a ∧ b ≤ g ∧ g - b < w ∧ (w ≤ a - f → oneE w o (a - w) b ≠ 0) ∧ 0 ≤ a ∧ a < b) (q2 : e2 ≠ 0) (q4 : oneE w o f g ≠ 0) (q5 : 0 ≤ f ∧ f < g ∧ g ≤ 35184372088832) :
    Ct Try.prog 3 #[u.v, .int .i64 t, .int .i64 f, .int .i64 g] m [] (fun v m' B => v = .bool true ∧ B = []) := by
  obtain ⟨hlv, hsu, kc, k1, k3, kt, hw, n, h3⟩ := K
  rcases h3 with ⟨rfl, rfl, -⟩ | ⟨rfl, rfl, -⟩ | ⟨rfl, rfl, -⟩
  all_goals
    refine Ct.enterV (by rfl) Try.func3 rfl Try.ntmps3 rfl (fun w0 Rest => ?_)
    (repeat' (first | refine zss ?_ | ((first | (with_reducible first | apply At.val | apply AtQ.val)); (first | exact pr_indexArr (k := 0) (by rfl) (by rfl) (by rfl) (by rfl) (by decide) | exact pr_indexArr (k := 1) (by rfl) (by rfl) (by rfl) (by rfl) (by decide) | exact pr_indexArr (k := 2) (by rfl) (by rfl) (by rfl) (by rfl) (by decide)); exact rfl) | refine zsM ?_ | ((with_reducible first | apply AtM1.cr | apply AtQ.cr | apply At.cr); exact rfl; exact rfl; exact fun _ hmm => hlv _ hmm; exact ztk; kernel_rfl) | ((with_reducible first | apply AtM1.cr | apply AtQ.cr | apply At.cr); exact rfl; exact rfl; exact fun _ hmm => hsu _ hmm; exact ztk; kernel_rfl) | ((with_reducible first | apply AtM1.cr | apply AtQ.cr | apply At.cr); exact rfl; exact rfl; exact fun _ hmm => kc _ hmm; exact ztk; kernel_rfl) | ((with_reducible first | apply AtM1.cr | apply AtQ.cr | apply At.cr); exact rfl; exact rfl; exact fun _ hmm => k1 _ hmm; exact ztk; kernel_rfl) | ((with_reducible first | apply AtM1.cr | apply AtQ.cr | apply At.cr); exact rfl; exact rfl; exact fun _ hmm => k3 _ hmm; exact ztk; kernel_rfl) | ((with_reducible first | apply AtM1.cr | apply AtQ.cr | apply At.cr); exact rfl; exact rfl; exact fun _ hmm => kt _ hmm _ _; exact ztk; kernel_rfl) | ((with_reducible apply At.box (d := 4)); exact rfl; exact rfl; exact rfl; intro b4) | (refine zsp ?_ ?_ <;> (intro hc; (try simp only [zhcs, reduceCtorEq] at hc); (try (exfalso; first | (first | omega | exact absurd rfl hc | exact absurd hc (by decide)) | contradiction | omega | exact absurd rfl hc | exact absurd (by decide) hc))))))
    all_goals ((with_reducible apply At.retB1 (B := [])); exact rfl; exact rfl; exact zml; exact zkp; exact ⟨by first | rfl | (simp only [*]; simp; done) | (simp; omega), rfl⟩)
end Au
end Go.Proofs.Ytecifniognbomaa
/- AutoWithin, case 4. -/
set_option linter.unusedSimpArgs false
set_option linter.unusedVariables false
set_option linter.unusedSectionVars false
set_option maxRecDepth 20000
set_option maxHeartbeats 4000000
namespace Go.Proofs.Ytecifniognbomaa
open Go Go.J
attribute [local irreducible] At AtQ AtM AtM1 PR Ct Pu Rd Res.blk Res.own Res.ex RVs RV
namespace Au
open Se Win St
set_option maxRecDepth 100000 in
theorem within4 {m : Mem} (u : Sta) (t f g w o a b c d e1 : Int) (K : Wk m u t f g w o a b e1 c d 0) (q1 : e1 ≠ 0) (q2 : oneE w o c d = 0 ∧ tierV t w o c d = t ∧ c ≤ f ∧ g ≤ d ∧ f - c < w ∧ d - g < w ∧ 0 ≤ c ∧ d ≤ 35184372088832) (q4 : oneE w o f g ≠ 0) (q5 : 0 ≤ f ∧ f < g ∧ g ≤ 35184372088832) :
    Ct Try.prog 3 #[u.v, .int .i64 t, .int .i64 f, .int .i64 g] m [] (fun v m' B => v = .bool true ∧ B = []) := by
  obtain ⟨hlv, hsu, kc, k1, k3, kt, hw, n, h3⟩ := K
  rcases h3 with ⟨rfl, rfl, -⟩ | ⟨rfl, rfl, -⟩ | ⟨rfl, rfl, -⟩
  all_goals
    refine Ct.enterV (by rfl) Try.func3 rfl Try.ntmps3 rfl (fun w0 Rest => ?_)
    (repeat' (first | refine zss ?_ | ((first | (with_reducible first | apply At.val | apply AtQ.val)); (first | exact pr_indexArr (k := 0) (by rfl) (by rfl) (by rfl) (by rfl) (by decide) | exact pr_indexArr (k := 1) (by rfl) (by rfl) (by rfl) (by rfl) (by decide) | exact pr_indexArr (k := 2) (by rfl) (by rfl) (by rfl) (by rfl) (by decide)); exact rfl) | refine zsM ?_ | ((with_reducible first | apply AtM1.cr | apply AtQ.cr | apply At.cr); exact rfl; exact rfl; exact fun _ hmm => hlv _ hmm; exact ztk; kernel_rfl) | ((with_reducible first | apply AtM1.cr | apply AtQ.cr | apply At.cr); exact rfl; exact rfl; exact fun _ hmm => hsu _ hmm; exact ztk; kernel_rfl) | ((with_reducible first | apply AtM1.cr | apply AtQ.cr | apply At.cr); exact rfl; exact rfl; exact fun _ hmm => kc _ hmm; exact ztk; kernel_rfl) | ((with_reducible first | apply AtM1.cr | apply AtQ.cr | apply At.cr); exact rfl; exact rfl; exact fun _ hmm => k1 _ hmm; exact ztk; kernel_rfl) | ((with_reducible first | apply AtM1.cr | apply AtQ.cr | apply At.cr); exact rfl; exact rfl; exact fun _ hmm => k3 _ hmm; exact ztk; kernel_rfl) | ((with_reducible first | apply AtM1.cr | apply AtQ.cr | apply At.cr); exact rfl; exact rfl; exact fun _ hmm => kt _ hmm _ _; exact ztk; kernel_rfl) | ((with_reducible apply At.box (d := 4)); exact rfl; exact rfl; exact rfl; intro b4) | (refine zsp ?_ ?_ <;> (intro hc; (try simp only [zhcs, reduceCtorEq] at hc); (try (exfalso; first | (first | omega | exact absurd rfl hc | exact absurd hc (by decide)) | contradiction | omega | exact absurd rfl hc | exact absurd (by decide) hc))))))
    all_goals ((with_reducible apply At.retB1 (B := [])); exact rfl; exact rfl; exact zml; exact zkp; exact ⟨by first | rfl | (simp only [*]; simp; done) | (simp; omega), rfl⟩)
end Au
end Go.Proofs.Ytecifniognbomaa
/- AutoWithin, case 5. -/
set_option linter.unusedSimpArgs false
set_option linter.unusedVariables false
set_option linter.unusedSectionVars false
set_option maxRecDepth 20000
set_option maxHeartbeats 4000000
namespace Go.Proofs.Ytecifniognbomaa
open Go Go.J
attribute [local irreducible] At AtQ AtM AtM1 PR Ct Pu Rd Res.blk Res.own Res.ex RVs RV
namespace Au
open Se Win St
set_option maxRecDepth 100000 in
theorem within5 {m : Mem} (u : Sta) (t f g w o a b c d e1 e2 : Int) (K : Wk m u t f g w o a b e1 c d e2) (q1 : e1 ≠ 0) (q2 : e2 ≠ 0) (q4 : oneE w o f g ≠ 0) :
    Ct Try.prog 3 #[u.v, .int .i64 t, .int .i64 f, .int .i64 g] m [] (fun v m' B => v = .bool true ∧ B = []) := by
  obtain ⟨hlv, hsu, kc, k1, k3, kt, hw, n, h3⟩ := K
  rcases h3 with ⟨rfl, rfl, -⟩ | ⟨rfl, rfl, -⟩ | ⟨rfl, rfl, -⟩
  all_goals
    refine Ct.enterV (by rfl) Try.func3 rfl Try.ntmps3 rfl (fun w0 Rest => ?_)
    (repeat' (first | refine zss ?_ | ((first | (with_reducible first | apply At.val | apply AtQ.val)); (first | exact pr_indexArr (k := 0) (by rfl) (by rfl) (by rfl) (by rfl) (by decide) | exact pr_indexArr (k := 1) (by rfl) (by rfl) (by rfl) (by rfl) (by decide) | exact pr_indexArr (k := 2) (by rfl) (by rfl) (by rfl) (by rfl) (by decide)); exact rfl) | refine zsM ?_ | ((with_reducible first | apply AtM1.cr | apply AtQ.cr | apply At.cr); exact rfl; exact rfl; exact fun _ hmm => hlv _ hmm; exact ztk; kernel_rfl) | ((with_reducible first | apply AtM1.cr | apply AtQ.cr | apply At.cr); exact rfl; exact rfl; exact fun _ hmm => hsu _ hmm; exact ztk; kernel_rfl) | ((with_reducible first | apply AtM1.cr | apply AtQ.cr | apply At.cr); exact rfl; exact rfl; exact fun _ hmm => kc _ hmm; exact ztk; kernel_rfl) | ((with_reducible first | apply AtM1.cr | apply AtQ.cr | apply At.cr); exact rfl; exact rfl; exact fun _ hmm => k1 _ hmm; exact ztk; kernel_rfl) | ((with_reducible first | apply AtM1.cr | apply AtQ.cr | apply At.cr); exact rfl; exact rfl; exact fun _ hmm => k3 _ hmm; exact ztk; kernel_rfl) | ((with_reducible first | apply AtM1.cr | apply AtQ.cr | apply At.cr); exact rfl; exact rfl; exact fun _ hmm => kt _ hmm _ _; exact ztk; kernel_rfl) | ((with_reducible apply At.box (d := 4)); exact rfl; exact rfl; exact rfl; intro b4) | (refine zsp ?_ ?_ <;> (intro hc; (try simp only [zhcs, reduceCtorEq] at hc); (try (exfalso; first | (first | omega | exact absurd rfl hc | exact absurd hc (by decide)) | contradiction | omega | exact absurd rfl hc | exact absurd (by decide) hc))))))
    all_goals ((with_reducible apply At.retB1 (B := [])); exact rfl; exact rfl; exact zml; exact zkp; exact ⟨by first | rfl | (simp only [*]; simp; done) | (simp; omega), rfl⟩)
end Au
end Go.Proofs.Ytecifniognbomaa

/- Part 6 of what the law's proof needs: rules of the walk, contracts of functions, plain laws. No condition. -/
import Derived.Test.YtmnlmmbfjfgfeaaDoorQu4Z5
import Derived.Shelf.Spec.TrailingZeros
import Derived.Lib.ItoaNum
import Derived.Lib.SliceRun
import Derived.Test.YtmnlmmbfjfgfeaaDoorRows
/- How many noughts a word of 64 bits ends in: math/bits.TrailingZeros64, with its table. -/
set_option linter.unusedSimpArgs false
set_option linter.unusedVariables false
set_option linter.unusedSectionVars false
set_option maxRecDepth 20000
set_option maxHeartbeats 4000000
namespace Go.Proofs.YtmnlmmbfjfgfeaaDoor
open Go Go.J
attribute [local irreducible] At AtQ AtM AtM1 PR Ct Pu Rd Res.blk Res.own Res.ex RVs RV
namespace Ra
open Wide
/-- the table as it was laid -/
def TZ (m : Mem) : Prop := ∀ w : World, (∀ k o, m k = some o → w.heap[k]? = some o) → TabAt 3 Lib.deBruijn64tab w
theorem TZ.mono {m m' : Mem} (h : TZ m) (hm : m.le m') : TZ m' := fun w hw => h w fun k o hk => hw k o (hm k o hk)
theorem pr_load_tz {n : Nat} {w0 : World} {F : Fr} {m : Mem} {Rs : List Res} {x : Operand} {t : TypeId} {j k : Nat} (h : TZ m) (hx : ev F x = some (.pointer (some ⟨3, j, none⟩))) (ht : isAggB Tryd.prog t = some false) (hj : j < 64) (hv : Lib.deBruijn64tab.getD j 0 = k) :
    PR Tryd.prog n F (HW w0 m Rs) (.load t x) (.int .u8 (k : Int)) := pr_load1 ht hx fun w hw => by
  have := h w hw.mem j hj
  rw [hv] at this
  exact this
theorem tz {m : Mem} (ht : TZ m) (x : Nat) (hx : x < 18446744073709551616) : Rd Tryd.prog 72 #[.int .u64 (x : Int)] m [] (.int .i64 ((Lib.ctz 64 x : Nat) : Int)) := by
  unfold Rd
  by_cases h0 : x = 0
  · subst h0
    rw [show Lib.ctz 64 0 = 64 from rfl]
    refine Ct.enterV (by rfl) Tryd.func72 rfl Tryd.ntmps72 rfl (fun w0 Rest => ?_)
    (repeat' (first | refine zss ?_ | ((first | (with_reducible first | apply At.val | apply AtQ.val)); (exact zprA); exact rfl) | refine zsM ?_ | (refine zsp ?_ ?_ <;> (intro hc; (try simp only [zhcs, reduceCtorEq] at hc); (try (exfalso; first | omega | contradiction | omega | exact absurd rfl hc | exact absurd (by decide) hc))))))
    all_goals ((with_reducible apply At.retB1 (B := [])); exact rfl; exact rfl; exact zml; exact zkp; exact ⟨rfl, rfl, rfl⟩)
  · obtain ⟨hlow, hk⟩ := Lib.lowest_bit 64 x h0 hx
    rw [show (2 : Nat) ^ 64 = 18446744073709551616 from rfl] at hlow
    obtain ⟨hi, htab⟩ := Lib.deBruijn64_at _ hk
    have e1 : IntKind.wrap .u64 (0 - (x : Int)) = ((18446744073709551616 - x : Nat) : Int) := by rw [IntKind.wrap_u64]; omega
    have e2 : bits .and .u64 (x : Int) ((18446744073709551616 - x : Nat) : Int) = ((2 ^ Lib.ctz 64 x : Nat) : Int) := by rw [bits_and_u64_nat x _ hx (by omega), hlow]
    generalize Lib.ctz 64 x = c at hk hi htab e2 ⊢
    generalize hz : 2 ^ c = z at hi htab e2
    have e3 : IntKind.wrap .u64 ((z : Int) * 285870213051353865) = ((z * 285870213051353865 % 18446744073709551616 : Nat) : Int) := u_mulw z 285870213051353865
    generalize z * 285870213051353865 % 18446744073709551616 = y at hi htab e3
    have e4 : (y : Int) / 2 ^ ((58 : Int)).toNat = ((y / 288230376151711744 : Nat) : Int) := u_shr y 58
    generalize y / 288230376151711744 = j at hi htab e4
    have e5 : IntKind.wrap .i64 ((c : Nat) : Int) = (c : Int) := IntWalk.i64_in _ (by omega)
    have h0' : ¬ (x : Int) = 0 := by omega
    clear hlow hz
    refine Ct.enterV (by rfl) Tryd.func72 rfl Tryd.ntmps72 rfl (fun w0 Rest => ?_)
    (repeat' (first | refine zss ?_ | ((first | (with_reducible first | apply At.val | apply AtQ.val)); (first | exact pr_neg (by rfl) e1 | exact pr_and (by rfl) (by rfl) e2 | exact pr_mul (by rfl) (by rfl) e3 | exact pr_shrv (by rfl) (by rfl) (by decide) (by decide) e4 | exact pr_indexArr1 (by rfl) (by rfl) (by rfl) (by rfl) hi | exact pr_load_tz ht (by rfl) (by rfl) hi htab | exact pr_conv ⟨_, rfl⟩ (by rfl) (by rfl) e5 | exact zprA); exact rfl) | refine zsM ?_ | (refine zsp ?_ ?_ <;> (intro hc; (try simp only [zhcs, reduceCtorEq] at hc); (try (exfalso; first | omega | contradiction | omega | exact absurd rfl hc | exact absurd (by decide) hc))))))
    all_goals ((with_reducible apply At.retB1 (B := [])); exact rfl; exact rfl; exact zml; exact zkp; exact ⟨rfl, rfl, rfl⟩)
end Ra
end Go.Proofs.YtmnlmmbfjfgfeaaDoor
/- Ratios: none, noughts, down, up, less. -/
set_option linter.unusedSimpArgs false
set_option linter.unusedVariables false
set_option linter.unusedSectionVars false
set_option maxRecDepth 20000
set_option maxHeartbeats 4000000
namespace Go.Proofs.YtmnlmmbfjfgfeaaDoor
open Go Go.J
attribute [local irreducible] At AtQ AtM AtM1 PR Ct Pu Rd Res.blk Res.own Res.ex RVs RV
namespace Ra
open Wide
theorem wd_dec (a b : Nat) : decide (a = b) = andL [decide (((a / 18446744073709551616 : Nat) : Int) = ((b / 18446744073709551616 : Nat) : Int)), decide (((a % 18446744073709551616 : Nat) : Int) = ((b % 18446744073709551616 : Nat) : Int))] := by
  by_cases h : a = b
  · subst h; simp [andL]
  · rw [decide_eq_false h]
    by_cases h1 : ((a / 18446744073709551616 : Nat) : Int) = ((b / 18446744073709551616 : Nat) : Int)
    · rw [decide_eq_true h1, decide_eq_false (by omega)]; rfl
    · rw [decide_eq_false h1]; rfl
theorem pr_weq {n : Nat} {F : Fr} {C : World → Prop} {x y : Operand} {u : TypeId} {a b : Nat} (hx : ev F x = some (wv a)) (hy : ev F y = some (wv b)) : PR Tryd.prog n F C (.binOp .eql 25 x y u) (.bool (decide (a = b))) := by
  rw [wd_dec]
  exact pr_aggeq2 hx hy (by rfl) (by kernel_rfl) (by kernel_rfl) (by rfl)
theorem pr_wne {n : Nat} {F : Fr} {C : World → Prop} {x y : Operand} {u : TypeId} {a b : Nat} (hx : ev F x = some (wv a)) (hy : ev F y = some (wv b)) : PR Tryd.prog n F C (.binOp .neq 25 x y u) (.bool (!decide (a = b))) := by
  rw [wd_dec]
  exact pr_aggne2 hx hy (by rfl) (by kernel_rfl) (by kernel_rfl) (by rfl)
theorem hi_shl (h : Nat) {k : Nat} (hk : k ≤ 64) : h * 2 ^ (64 - k) % 18446744073709551616 = h % 2 ^ k * 2 ^ (64 - k) := by
  rw [pow64 hk, Nat.mul_mod_mul_right]
theorem none_ (x : Nat) : Pu Tryd.prog 40 #[wv x] (.bool (decide (x = 0))) := Pu.intro fun m => by
  by_cases h : x = 0
  · subst h
    refine Ct.enterV (by rfl) Tryd.func40 rfl Tryd.ntmps40 rfl (fun w0 Rest => ?_)
    (repeat' (first | refine zss ?_ | ((first | (with_reducible first | apply At.val | apply AtQ.val)); (first | exact pr_weq (a := 0) (b := 0) (by rfl) (by rfl) | exact zprA); exact rfl) | refine zs0 ?_ | ((with_reducible apply At.box (d := 1)); exact rfl; exact rfl; exact rfl; intro b1) | (refine zsp ?_ ?_ <;> (intro hc; (try simp only [zhcs, reduceCtorEq] at hc); (try (exfalso; first | contradiction | omega | exact absurd rfl hc | exact absurd (by decide) hc))))))
    all_goals ((with_reducible apply At.retB1 (B := [])); exact rfl; exact rfl; exact zml; exact zkp; exact ⟨rfl, rfl, rfl⟩)
  · refine Ct.enterV (by rfl) Tryd.func40 rfl Tryd.ntmps40 rfl (fun w0 Rest => ?_)
    (repeat' (first | refine zss ?_ | ((first | (with_reducible first | apply At.val | apply AtQ.val)); (first | exact pr_weq (a := x) (b := 0) (by rfl) (by rfl) | exact zprA); exact rfl) | refine zs0 ?_ | ((with_reducible apply At.box (d := 1)); exact rfl; exact rfl; exact rfl; intro b1) | (refine zsp ?_ ?_ <;> (intro hc; (try simp only [zhcs, reduceCtorEq] at hc); (try (exfalso; first | contradiction | omega | exact absurd rfl hc | exact absurd (by decide) hc))))))
    all_goals ((with_reducible apply At.retB1 (B := [])); exact rfl; exact rfl; exact zml; exact zkp; exact ⟨rfl, rfl, rfl⟩)
theorem ctz_le {y : Nat} (hy : y < 18446744073709551616) : Lib.ctz 64 y ≤ 64 := by
  by_cases h : y = 0
  · subst h; exact Nat.le_refl _
  · obtain ⟨_, _, h2⟩ := ctz_at h hy; omega
theorem noughts {m : Mem} (ht : TZ m) (x : Nat) (hx : x < 340282366920938463463374607431768211456) : Rd Tryd.prog 55 #[wv x] m [] (.int .i64 ((nt x : Nat) : Int)) := by
  unfold Rd
  have hl : x % 18446744073709551616 < 18446744073709551616 := Nat.mod_lt _ (by decide)
  have hc : ∀ y, y < 18446744073709551616 → Lib.ctz 64 y ≤ 64 := fun y hy => ctz_le hy
  unfold nt
  by_cases h : x % 18446744073709551616 = 0
  · rw [if_pos h]
    have k1 := fun (m' : Mem) (hm' : m.le m') => tz (m := m') (ht.mono hm') (x / 18446744073709551616) (by omega)
    have e1 := hc (x / 18446744073709551616) (by omega)
    generalize Lib.ctz 64 (x / 18446744073709551616) = c at k1 e1
    have e2 : IntKind.wrap .i64 (64 + (c : Int)) = ((64 + c : Nat) : Int) := by rw [show 64 + (c : Int) = ((64 + c : Nat) : Int) by omega]; exact IntWalk.i64_in _ (by omega)
    clear hc
    refine Ct.enterV (by rfl) Tryd.func55 rfl Tryd.ntmps55 rfl (fun w0 Rest => ?_)
    (repeat' (first | refine zss ?_ | ((first | (with_reducible first | apply At.val | apply AtQ.val)); (first | exact pr_add (by rfl) (by rfl) e2 | exact zprA); exact rfl) | refine zs0 ?_ | ((with_reducible first | apply AtM1.cr | apply AtQ.cr | apply At.cr); exact rfl; exact rfl; exact fun _ hmm => k1 _ hmm; exact ztk; kernel_rfl) | ((with_reducible apply At.box (d := 1)); exact rfl; exact rfl; exact rfl; intro b1) | (refine zsp ?_ ?_ <;> (intro hc; (try simp only [zhcs, reduceCtorEq] at hc); (try (exfalso; first | omega | contradiction | omega | exact absurd rfl hc | exact absurd (by decide) hc))))))
    all_goals ((with_reducible apply At.retB1 (B := [])); exact rfl; exact rfl; exact zml; exact zkp; exact ⟨rfl, rfl, rfl⟩)
  · rw [if_neg h]
    have k1 := fun (m' : Mem) (hm' : m.le m') => tz (m := m') (ht.mono hm') (x % 18446744073709551616) hl
    clear hc
    refine Ct.enterV (by rfl) Tryd.func55 rfl Tryd.ntmps55 rfl (fun w0 Rest => ?_)
    (repeat' (first | refine zss ?_ | ((first | (with_reducible first | apply At.val | apply AtQ.val)); (exact zprA); exact rfl) | refine zs0 ?_ | ((with_reducible first | apply AtM1.cr | apply AtQ.cr | apply At.cr); exact rfl; exact rfl; exact fun _ hmm => k1 _ hmm; exact ztk; kernel_rfl) | ((with_reducible apply At.box (d := 1)); exact rfl; exact rfl; exact rfl; intro b1) | (refine zsp ?_ ?_ <;> (intro hc; (try simp only [zhcs, reduceCtorEq] at hc); (try (exfalso; first | omega | contradiction | omega | exact absurd rfl hc | exact absurd (by decide) hc))))))
    all_goals ((with_reducible apply At.retB1 (B := [])); exact rfl; exact rfl; exact zml; exact zkp; exact ⟨rfl, rfl, rfl⟩)
theorem down (x k : Nat) (hx : x < 340282366920938463463374607431768211456) (hk : k < 128) : Pu Tryd.prog 56 #[wv x, .int .i64 (k : Int)] (wv (x / 2 ^ k)) := Pu.intro fun m => by
  by_cases h : 64 ≤ k
  · obtain ⟨p1, p2⟩ := dn_far hx h
    have e1 : IntKind.wrap .i64 ((k : Int) - 64) = ((k - 64 : Nat) : Int) := by rw [show (k : Int) - 64 = ((k - 64 : Nat) : Int) by omega]; exact IntWalk.i64_in _ (by omega)
    have e2 := u_shr (x / 18446744073709551616) (k - 64)
    refine Ct.enterV (by rfl) Tryd.func56 rfl Tryd.ntmps56 rfl (fun w0 Rest => ?_)
    (repeat' (first | refine zss ?_ | ((first | (with_reducible first | apply At.val | apply AtQ.val)); (first | exact pr_sub (by rfl) (by rfl) e1 | exact pr_shrv (by rfl) (by rfl) (by omega) (by simp only [IntKind.bits]; omega) e2 | exact zprA); exact rfl) | refine zs0 ?_ | ((with_reducible apply At.box (d := 2)); exact rfl; exact rfl; exact rfl; intro b2) | ((with_reducible apply At.alloc (d := 4)); exact rfl; exact rfl; intro b4) | (refine zsp ?_ ?_ <;> (intro hc; (try simp only [zhcs, reduceCtorEq] at hc); (try (exfalso; first | omega | contradiction | omega | exact absurd rfl hc | exact absurd (by decide) hc))))))
    all_goals ((with_reducible apply At.retV (B := [])); exact rfl; (repeat' (first | exact RVs.nil | (with_reducible apply RVs.cons) | exact rv_tmp (by rfl) | exact rv_cellN (by rfl) (by repeat constructor) (by rfl) (by rfl) (by rfl) | exact rv_cell1 (by rfl) (by repeat constructor) (by rfl) (by rfl) | exact rv_cellA (by rfl) (by repeat constructor) (by rfl) (by rfl) zlq)); exact zml; exact zkp; exact ⟨wd_mk (by rw [p1]; rfl) (by rw [p2]), rfl, rfl⟩)
  · obtain ⟨p1, p2, p3⟩ := dn_parts (x := x) (k := k) (by omega)
    have e0 : IntKind.wrap .i64 (64 - (k : Int)) = ((64 - k : Nat) : Int) := by rw [show 64 - (k : Int) = ((64 - k : Nat) : Int) by omega]; exact IntWalk.i64_in _ (by omega)
    have e1 := u_shr (x / 18446744073709551616) k
    have e2 := u_shr (x % 18446744073709551616) k
    have e3 := u_shl (x / 18446744073709551616) (64 - k)
    have e4 : bits .or .u64 ((x % 18446744073709551616 / 2 ^ k : Nat) : Int) ((x / 18446744073709551616 * 2 ^ (64 - k) % 18446744073709551616 : Nat) : Int) = ((x / 2 ^ k % 18446744073709551616 : Nat) : Int) := by
      have hb : x % 18446744073709551616 / 2 ^ k ≤ x % 18446744073709551616 := Nat.div_le_self _ _
      rw [bits_or_u64_nat _ _ (by omega) (Nat.mod_lt _ (by decide)), p2]
      rw [hi_shl _ (show k ≤ 64 by omega), Nat.or_comm, or_add p3]
    refine Ct.enterV (by rfl) Tryd.func56 rfl Tryd.ntmps56 rfl (fun w0 Rest => ?_)
    (repeat' (first | ((with_reducible apply At.mixed (id := 3) 16 (.q 0 (.q 1 (.q 2 (.q 3 (.q 4 (.q 5 (.q 6 (.q 7 (.q 8 (.q 9 (.q 10 (.q 11 (.q 12 (.q 13 (.q 14 (.x 15 .done))))))))))))))))); exact rfl; kernel_rfl; kernel_rfl; kernel_rfl) | refine zsx ?_ | refine zss ?_ | ((with_reducible apply AtM.bo); exact rfl; exact rfl; exact rfl) | ((first | (with_reducible first | apply At.val | apply AtQ.val) | ((with_reducible first | apply AtM1.valz | apply AtM1.val); exact rfl) | ((with_reducible apply AtM1.val); exact rfl)); (first | exact pr_sub (by rfl) (by rfl) e0 | exact pr_shrv (by rfl) (by rfl) (by omega) (by simp only [IntKind.bits]; omega) e1 | exact pr_shrv (by rfl) (by rfl) (by omega) (by simp only [IntKind.bits]; omega) e2 | exact pr_shlv (by rfl) (by rfl) (by omega) (by simp only [IntKind.bits]; omega) e3 | exact pr_or (by rfl) (by rfl) e4 | exact zprA); exact rfl) | refine zs0 ?_ | refine zx0 ?_ | ((with_reducible apply At.box (d := 2)); exact rfl; exact rfl; exact rfl; intro b2) | ((with_reducible apply At.alloc (d := 4)); exact rfl; exact rfl; intro b4) | (refine zsp ?_ ?_ <;> (intro hc; (try simp only [zhcs, reduceCtorEq] at hc); (try (exfalso; first | omega | contradiction | omega | exact absurd rfl hc | exact absurd (by decide) hc))))))
    all_goals ((with_reducible apply At.retV (B := [])); exact rfl; (repeat' (first | exact RVs.nil | (with_reducible apply RVs.cons) | exact rv_tmp (by rfl) | exact rv_cellN (by rfl) (by repeat constructor) (by rfl) (by rfl) (by rfl) | exact rv_cell1 (by rfl) (by repeat constructor) (by rfl) (by rfl) | exact rv_cellA (by rfl) (by repeat constructor) (by rfl) (by rfl) zlq)); exact zml; exact zkp; exact ⟨wd_mk (by rw [p1]) rfl, rfl, rfl⟩)
theorem lessR (x y : Nat) (hx : x < 340282366920938463463374607431768211456) (hy : y < 340282366920938463463374607431768211456) : Pu Tryd.prog 57 #[wv x, wv y] (wv (x - y)) := Pu.intro fun m => by
  have k1 := sub x y hx hy
  refine Ct.enterV (by rfl) Tryd.func57 rfl Tryd.ntmps57 rfl (fun w0 Rest => ?_)
  (repeat' (first | refine zss ?_ | ((first | (with_reducible first | apply At.val | apply AtQ.val)); (exact zprA); exact rfl) | refine zs0 ?_ | ((with_reducible first | apply AtM1.callp | apply AtQ.callp | apply At.callp); kernel_rfl; exact rfl; exact rfl; exact k1) | ((with_reducible apply At.box (d := 2)); exact rfl; exact rfl; exact rfl; intro b2) | ((with_reducible apply At.box (d := 3)); exact rfl; exact rfl; exact rfl; intro b3) | ((with_reducible apply At.alloc (d := 4)); exact rfl; exact rfl; intro b4) | ((with_reducible apply At.alloc (d := 5)); exact rfl; exact rfl; intro b5) | (refine zsp ?_ ?_ <;> (intro hc; (try simp only [zhcs, reduceCtorEq] at hc); (try (exfalso; first | contradiction | omega | exact absurd rfl hc | exact absurd (by decide) hc))))))
  all_goals ((with_reducible apply At.retV (B := [])); exact rfl; (repeat' (first | exact RVs.nil | (with_reducible apply RVs.cons) | exact rv_tmp (by rfl) | exact rv_cellN (by rfl) (by repeat constructor) (by rfl) (by rfl) (by rfl) | exact rv_cell1 (by rfl) (by repeat constructor) (by rfl) (by rfl) | exact rv_cellA (by rfl) (by repeat constructor) (by rfl) (by rfl) zlq)); exact zml; exact zkp; exact ⟨rfl, rfl, rfl⟩)
theorem up (x k : Nat) (hx : x * 2 ^ k < 340282366920938463463374607431768211456) (h0 : x < 340282366920938463463374607431768211456) (hk : k < 128) : Pu Tryd.prog 58 #[wv x, .int .i64 (k : Int)] (wv (x * 2 ^ k)) := Pu.intro fun m => by
  by_cases h : 64 ≤ k
  · obtain ⟨p1, p2⟩ := up_far hx h
    have e1 : IntKind.wrap .i64 ((k : Int) - 64) = ((k - 64 : Nat) : Int) := by rw [show (k : Int) - 64 = ((k - 64 : Nat) : Int) by omega]; exact IntWalk.i64_in _ (by omega)
    have e2 := u_shl (x % 18446744073709551616) (k - 64)
    refine Ct.enterV (by rfl) Tryd.func58 rfl Tryd.ntmps58 rfl (fun w0 Rest => ?_)
    (repeat' (first | refine zss ?_ | ((first | (with_reducible first | apply At.val | apply AtQ.val)); (first | exact pr_sub (by rfl) (by rfl) e1 | exact pr_shlv (by rfl) (by rfl) (by omega) (by simp only [IntKind.bits]; omega) e2 | exact zprA); exact rfl) | refine zs0 ?_ | ((with_reducible apply At.box (d := 2)); exact rfl; exact rfl; exact rfl; intro b2) | ((with_reducible apply At.alloc (d := 4)); exact rfl; exact rfl; intro b4) | (refine zsp ?_ ?_ <;> (intro hc; (try simp only [zhcs, reduceCtorEq] at hc); (try (exfalso; first | omega | contradiction | omega | exact absurd rfl hc | exact absurd (by decide) hc))))))
    all_goals ((with_reducible apply At.retV (B := [])); exact rfl; (repeat' (first | exact RVs.nil | (with_reducible apply RVs.cons) | exact rv_tmp (by rfl) | exact rv_cellN (by rfl) (by repeat constructor) (by rfl) (by rfl) (by rfl) | exact rv_cell1 (by rfl) (by repeat constructor) (by rfl) (by rfl) | exact rv_cellA (by rfl) (by repeat constructor) (by rfl) (by rfl) zlq)); exact zml; exact zkp; exact ⟨wd_mk (by rw [p1]) (by rw [p2]; rfl), rfl, rfl⟩)
  · obtain ⟨p1, p2, p3⟩ := up_parts (x := x) (k := k) (by omega)
    have e0 : IntKind.wrap .i64 (64 - (k : Int)) = ((64 - k : Nat) : Int) := by rw [show 64 - (k : Int) = ((64 - k : Nat) : Int) by omega]; exact IntWalk.i64_in _ (by omega)
    have hh : x / 18446744073709551616 * 2 ^ k < 18446744073709551616 := by
      have : x * 2 ^ k / 18446744073709551616 < 18446744073709551616 := Nat.div_lt_of_lt_mul hx
      rw [p1] at this
      exact Nat.lt_of_le_of_lt (Nat.le_add_right _ _) this
    have e1 := u_shl (x / 18446744073709551616) k
    rw [Nat.mod_eq_of_lt hh] at e1
    have e2 := u_shl (x % 18446744073709551616) k
    have e3 := u_shr (x % 18446744073709551616) (64 - k)
    have e4 : bits .or .u64 ((x / 18446744073709551616 * 2 ^ k : Nat) : Int) ((x % 18446744073709551616 / 2 ^ (64 - k) : Nat) : Int) = ((x * 2 ^ k / 18446744073709551616 : Nat) : Int) := by
      have hb : x % 18446744073709551616 / 2 ^ (64 - k) ≤ x % 18446744073709551616 := Nat.div_le_self _ _
      rw [bits_or_u64_nat _ _ hh (Nat.lt_of_le_of_lt hb (Nat.mod_lt _ (by decide))), p1, or_add p3]
    refine Ct.enterV (by rfl) Tryd.func58 rfl Tryd.ntmps58 rfl (fun w0 Rest => ?_)
    (repeat' (first | ((with_reducible apply At.mixed (id := 3) 16 (.q 0 (.q 1 (.q 2 (.q 3 (.q 4 (.q 5 (.q 6 (.q 7 (.q 8 (.q 9 (.q 10 (.q 11 (.q 12 (.q 13 (.q 14 (.x 15 .done))))))))))))))))); exact rfl; kernel_rfl; kernel_rfl; kernel_rfl) | refine zsx ?_ | refine zss ?_ | ((with_reducible apply AtM.bo); exact rfl; exact rfl; exact rfl) | ((first | (with_reducible first | apply At.val | apply AtQ.val) | ((with_reducible first | apply AtM1.valz | apply AtM1.val); exact rfl) | ((with_reducible apply AtM1.val); exact rfl)); (first | exact pr_sub (by rfl) (by rfl) e0 | exact pr_shrv (by rfl) (by rfl) (by omega) (by simp only [IntKind.bits]; omega) e3 | exact pr_shlv (by rfl) (by rfl) (by omega) (by simp only [IntKind.bits]; omega) e1 | exact pr_shlv (by rfl) (by rfl) (by omega) (by simp only [IntKind.bits]; omega) e2 | exact pr_or (by rfl) (by rfl) e4 | exact zprA); exact rfl) | refine zs0 ?_ | refine zx0 ?_ | ((with_reducible apply At.box (d := 2)); exact rfl; exact rfl; exact rfl; intro b2) | ((with_reducible apply At.alloc (d := 4)); exact rfl; exact rfl; intro b4) | (refine zsp ?_ ?_ <;> (intro hc; (try simp only [zhcs, reduceCtorEq] at hc); (try (exfalso; first | omega | contradiction | omega | exact absurd rfl hc | exact absurd (by decide) hc))))))
    all_goals ((with_reducible apply At.retV (B := [])); exact rfl; (repeat' (first | exact RVs.nil | (with_reducible apply RVs.cons) | exact rv_tmp (by rfl) | exact rv_cellN (by rfl) (by repeat constructor) (by rfl) (by rfl) (by rfl) | exact rv_cell1 (by rfl) (by repeat constructor) (by rfl) (by rfl) | exact rv_cellA (by rfl) (by repeat constructor) (by rfl) (by rfl) zlq)); exact zml; exact zkp; exact ⟨wd_mk rfl (by rw [p2]), rfl, rfl⟩)
end Ra
end Go.Proofs.YtmnlmmbfjfgfeaaDoor
/- Ratios: the greatest common divisor, by halving. -/
set_option linter.unusedSimpArgs false
set_option linter.unusedVariables false
set_option linter.unusedSectionVars false
set_option maxRecDepth 20000
set_option maxHeartbeats 4000000
namespace Go.Proofs.YtmnlmmbfjfgfeaaDoor
open Go Go.J
attribute [local irreducible] At AtQ AtM AtM1 PR Ct Pu Rd Res.blk Res.own Res.ex RVs RV
namespace Ra
open Wide
theorem pr_minN {n : Nat} {F : Fr} {C : World → Prop} {x y : Operand} {k : IntKind} {p q : Nat} {ts : Array TypeId} (hx : ev F x = some (.int k (p : Int))) (hy : ev F y = some (.int k (q : Int))) : PR Tryd.prog n F C (.call ⟨.builtin .min, #[x, y], ts⟩) (.int k ((min p q : Nat) : Int)) := by
  rw [show ((min p q : Nat) : Int) = min (p : Int) (q : Int) by omega]
  exact pr_minI hx hy
theorem or_zero' (a : Nat) (h : a < 18446744073709551616) : bits .or .u64 (a : Int) 0 = (a : Int) := by
  have := bits_or_u64_nat a 0 h (by decide)
  rw [Nat.or_zero] at this
  exact this
theorem zero_or' (a : Nat) (h : a < 18446744073709551616) : bits .or .u64 0 (a : Int) = (a : Int) := by
  have := bits_or_u64_nat 0 a (by decide) h
  rw [Nat.zero_or] at this
  exact this
structure GS where
  (a b : Nat)
theorem gcd {m : Mem} (ht : TZ m) (x y : Nat) (hx : x < 340282366920938463463374607431768211456) (hy : y < 340282366920938463463374607431768211456) : Rd Tryd.prog 41 #[wv x, wv y] m [] (wv (Nat.gcd x y)) := by
  unfold Rd
  have hxh : x / 18446744073709551616 < 18446744073709551616 := by omega
  have hyh : y / 18446744073709551616 < 18446744073709551616 := by omega
  have n1 := none_ x
  have n2 := none_ y
  by_cases h0 : x = 0
  · rw [decide_eq_true h0] at n1
    subst h0
    rw [Nat.gcd_zero_left]
    have e1 := zero_or' _ hyh
    have e2 := zero_or' _ (show y % 18446744073709551616 < 18446744073709551616 by omega)
    refine Ct.enterV (by rfl) Tryd.func41 rfl Tryd.ntmps41 rfl (fun w0 Rest => ?_)
    (repeat' (first | refine zss ?_ | ((first | (with_reducible first | apply At.val | apply AtQ.val)); (first | exact pr_or (by rfl) (by rfl) e1 | exact pr_or (by rfl) (by rfl) e2); exact rfl) | refine zs0 ?_ | ((with_reducible first | apply AtM1.callp | apply AtQ.callp | apply At.callp); kernel_rfl; exact rfl; exact rfl; exact n1) | ((with_reducible first | apply AtM1.callp | apply AtQ.callp | apply At.callp); kernel_rfl; exact rfl; exact rfl; exact n2) | ((with_reducible apply At.box (d := 2)); exact rfl; exact rfl; exact rfl; intro b2) | ((with_reducible apply At.box (d := 3)); exact rfl; exact rfl; exact rfl; intro b3) | ((with_reducible apply At.alloc (d := 4)); exact rfl; exact rfl; intro b4) | (refine zsp ?_ ?_ <;> (intro hc; (try simp only [zhcs, reduceCtorEq] at hc); (try (exfalso; first | contradiction | omega | exact absurd rfl hc | exact absurd (by decide) hc))))))
    all_goals ((with_reducible apply At.retV (B := [])); exact rfl; (repeat' (first | exact RVs.nil | (with_reducible apply RVs.cons) | exact rv_tmp (by rfl) | exact rv_cellN (by rfl) (by repeat constructor) (by rfl) (by rfl) (by rfl) | exact rv_cell1 (by rfl) (by repeat constructor) (by rfl) (by rfl))); exact zml; exact zkp; exact ⟨rfl, rfl, rfl⟩)
  rw [decide_eq_false h0] at n1
  by_cases h1 : y = 0
  · rw [decide_eq_true h1] at n2
    subst h1
    rw [Nat.gcd_zero_right]
    have e1 := or_zero' _ hxh
    have e2 := or_zero' _ (show x % 18446744073709551616 < 18446744073709551616 by omega)
    refine Ct.enterV (by rfl) Tryd.func41 rfl Tryd.ntmps41 rfl (fun w0 Rest => ?_)
    (repeat' (first | refine zss ?_ | ((first | (with_reducible first | apply At.val | apply AtQ.val)); (first | exact pr_or (by rfl) (by rfl) e1 | exact pr_or (by rfl) (by rfl) e2); exact rfl) | refine zs0 ?_ | ((with_reducible first | apply AtM1.callp | apply AtQ.callp | apply At.callp); kernel_rfl; exact rfl; exact rfl; exact n1) | ((with_reducible first | apply AtM1.callp | apply AtQ.callp | apply At.callp); kernel_rfl; exact rfl; exact rfl; exact n2) | ((with_reducible apply At.box (d := 2)); exact rfl; exact rfl; exact rfl; intro b2) | ((with_reducible apply At.box (d := 3)); exact rfl; exact rfl; exact rfl; intro b3) | ((with_reducible apply At.alloc (d := 4)); exact rfl; exact rfl; intro b4) | (refine zsp ?_ ?_ <;> (intro hc; (try simp only [zhcs, reduceCtorEq] at hc); (try (exfalso; first | contradiction | omega | exact absurd rfl hc | exact absurd (by decide) hc))))))
    all_goals ((with_reducible apply At.retV (B := [])); exact rfl; (repeat' (first | exact RVs.nil | (with_reducible apply RVs.cons) | exact rv_tmp (by rfl) | exact rv_cellN (by rfl) (by repeat constructor) (by rfl) (by rfl) (by rfl) | exact rv_cell1 (by rfl) (by repeat constructor) (by rfl) (by rfl))); exact zml; exact zkp; exact ⟨rfl, rfl, rfl⟩)
  rw [decide_eq_false h1] at n2
  have k1 := fun (m' : Mem) (hm' : m.le m') => noughts (m := m') (ht.mono hm') x hx
  have k2 := fun (m' : Mem) (hm' : m.le m') => noughts (m := m') (ht.mono hm') y hy
  obtain ⟨_, _, q1⟩ := nt_spec h0 hx
  obtain ⟨_, _, q2⟩ := nt_spec h1 hy
  have kd := down x (nt x) hx q1
  have hend := gcd_end h0 hx h1 hy
  obtain ⟨o1, o2⟩ := od_spec h0 hx
  have hox : od x < 340282366920938463463374607431768211456 := Nat.lt_of_le_of_lt (Nat.div_le_self _ _) hx
  have hG : Nat.gcd x y < 340282366920938463463374607431768211456 := Nat.lt_of_le_of_lt (Nat.gcd_le_left y (by omega)) hx
  generalize Nat.gcd x y = G at hend hG ⊢
  have kd' : Pu Tryd.prog 56 #[wv x, .int .i64 ((nt x : Nat) : Int)] (wv (od x)) := kd
  clear kd
  generalize od x = u at kd' hend o2 hox
  refine Ct.enterV (by rfl) Tryd.func41 rfl Tryd.ntmps41 rfl (fun w0 Rest => ?_)
  (repeat' (first | ((with_reducible apply At.mixed (id := 4) 5 (.q 0 (.q 1 (.q 2 (.q 3 (.x 4 .done)))))); exact rfl; kernel_rfl; kernel_rfl; kernel_rfl) | ((with_reducible apply At.mixed (id := 6) 5 (.q 0 (.q 1 (.q 2 (.q 3 (.x 4 .done)))))); exact rfl; kernel_rfl; kernel_rfl; kernel_rfl) | refine zsx ?_ | refine zss ?_ | ((with_reducible apply AtM.bo); exact rfl; exact rfl; exact rfl) | ((first | (with_reducible first | apply At.val | apply AtQ.val) | ((with_reducible first | apply AtM1.valz | apply AtM1.val); exact rfl) | ((with_reducible apply AtM1.val); exact rfl)); (exact pr_minN (by rfl) (by rfl)); exact rfl) | refine zs0 ?_ | refine zx0 ?_ | ((with_reducible first | apply AtM1.callp | apply AtQ.callp | apply At.callp); kernel_rfl; exact rfl; exact rfl; exact n1) | ((with_reducible first | apply AtM1.callp | apply AtQ.callp | apply At.callp); kernel_rfl; exact rfl; exact rfl; exact n2) | ((with_reducible first | apply AtM1.cr | apply AtQ.cr | apply At.cr); exact rfl; exact rfl; exact fun _ hmm => k1 _ hmm; exact ztk; kernel_rfl) | ((with_reducible first | apply AtM1.cr | apply AtQ.cr | apply At.cr); exact rfl; exact rfl; exact fun _ hmm => k2 _ hmm; exact ztk; kernel_rfl) | ((with_reducible first | apply AtM1.callp | apply AtQ.callp | apply At.callp); kernel_rfl; exact rfl; exact rfl; exact kd') | ((with_reducible apply At.box (d := 2)); exact rfl; exact rfl; exact rfl; intro b2) | ((with_reducible apply At.box (d := 3)); exact rfl; exact rfl; exact rfl; intro b3) | ((with_reducible apply At.alloc (d := 4)); exact rfl; exact rfl; intro b4) | (refine zsp ?_ ?_ <;> (intro hc; (try simp only [zhcs, reduceCtorEq] at hc); (try (exfalso; first | contradiction | omega | exact absurd rfl hc | exact absurd (by decide) hc))))))
  clear k1 k2 n1 n2 kd' hx hxh hyh
  (refine At.loopk (σ := GS) [2, 3, 4, 5] (fun s F0 => F0) (fun s => m) (fun s => .blk b2 25 (wd s.a) :: .blk b3 25 (wd s.b) :: .blk b4 25 (wd 0) :: Rest) (fun s => s.a % 2 = 1 ∧ s.a < 340282366920938463463374607431768211456 ∧ s.b < 340282366920938463463374607431768211456 ∧ Nat.gcd s.a s.b = Nat.gcd u y) (fun s => s.a + s.b) ⟨u, y⟩ (by rfl) ?_ zsubs zml zente ?_)
  · exact ⟨o2, hox, hy, rfl⟩
  rintro ⟨a, b⟩ ⟨g1, g2, g3, g4⟩
  dsimp only at g1 g2 g3 g4 ⊢
  have n3 := none_ b
  by_cases hb : b = 0
  · rw [decide_eq_true hb] at n3
    subst hb
    rw [Nat.gcd_zero_right] at g4
    rw [← g4, Nat.mul_comm] at hend
    have ku := up a (min (nt x) (nt y)) (by rw [hend]; exact hG) g2 (by omega)
    rw [hend] at ku
    (repeat' (first | refine zss ?_ | refine zs0 ?_ | ((with_reducible first | apply AtM1.callp | apply AtQ.callp | apply At.callp); kernel_rfl; exact rfl; exact rfl; exact n3) | ((with_reducible first | apply AtM1.callp | apply AtQ.callp | apply At.callp); kernel_rfl; exact rfl; exact rfl; exact ku) | ((with_reducible apply At.box (d := 2)); exact rfl; exact rfl; exact rfl; intro b2) | ((with_reducible apply At.box (d := 3)); exact rfl; exact rfl; exact rfl; intro b3) | ((with_reducible apply At.alloc (d := 4)); exact rfl; exact rfl; intro b4) | (refine zsp ?_ ?_ <;> (intro hc; (try simp only [zhcs, reduceCtorEq] at hc); (try (exfalso; first | contradiction | omega | exact absurd rfl hc | exact absurd (by decide) hc))))))
    all_goals ((with_reducible apply At.retV (B := [])); exact rfl; (repeat' (first | exact RVs.nil | (with_reducible apply RVs.cons) | exact rv_tmp (by rfl) | exact rv_cellN (by rfl) (by repeat constructor) (by rfl) (by rfl) (by rfl) | exact rv_cell1 (by rfl) (by repeat constructor) (by rfl) (by rfl))); exact zml; exact zkp; exact ⟨rfl, rfl, rfl⟩)
  · rw [decide_eq_false hb] at n3
    obtain ⟨s1, s2, s3⟩ := gcd_step g1 hb g3
    obtain ⟨_, _, q3⟩ := nt_spec hb g3
    have k3 := fun (m' : Mem) (hm' : m.le m') => noughts (m := m') (ht.mono hm') b g3
    have kd : Pu Tryd.prog 56 #[wv b, .int .i64 ((nt b : Nat) : Int)] (wv (od b)) := down b (nt b) g3 q3
    have hob : od b < 340282366920938463463374607431768211456 := Nat.lt_of_le_of_lt (Nat.div_le_self _ _) g3
    generalize od b = c at s1 s2 s3 kd hob
    have kl := less c a
    clear q3
    by_cases hc2 : c < a
    · rw [decide_eq_true hc2] at kl
      rw [Nat.min_eq_right (Nat.le_of_lt hc2), Nat.max_eq_left (Nat.le_of_lt hc2)] at s1 s3
      rw [Nat.min_eq_right (Nat.le_of_lt hc2)] at s2
      have km := lessR a c g2 hob
      (repeat' (first | ((with_reducible apply At.mixed (id := 4) 5 (.q 0 (.q 1 (.q 2 (.q 3 (.x 4 .done)))))); exact rfl; kernel_rfl; kernel_rfl; kernel_rfl) | ((with_reducible apply At.mixed (id := 6) 5 (.q 0 (.q 1 (.q 2 (.q 3 (.x 4 .done)))))); exact rfl; kernel_rfl; kernel_rfl; kernel_rfl) | refine zsx ?_ | refine zss ?_ | ((with_reducible apply AtM.bo); exact rfl; exact rfl; exact rfl) | refine zs0 ?_ | refine zx0 ?_ | ((with_reducible first | apply AtM1.callp | apply AtQ.callp | apply At.callp); kernel_rfl; exact rfl; exact rfl; exact n3) | ((with_reducible first | apply AtM1.cr | apply AtQ.cr | apply At.cr); exact rfl; exact rfl; exact fun _ hmm => k3 _ hmm; exact ztk; kernel_rfl) | ((with_reducible first | apply AtM1.callp | apply AtQ.callp | apply At.callp); kernel_rfl; exact rfl; exact rfl; exact kd) | ((with_reducible first | apply AtM1.callp | apply AtQ.callp | apply At.callp); kernel_rfl; exact rfl; exact rfl; exact kl) | ((with_reducible first | apply AtM1.callp | apply AtQ.callp | apply At.callp); kernel_rfl; exact rfl; exact rfl; exact km) | ((with_reducible apply At.box (d := 2)); exact rfl; exact rfl; exact rfl; intro b2) | ((with_reducible apply At.box (d := 3)); exact rfl; exact rfl; exact rfl; intro b3) | ((with_reducible apply At.alloc (d := 4)); exact rfl; exact rfl; intro b4) | (refine zsp ?_ ?_ <;> (intro hc; (try simp only [zhcs, reduceCtorEq] at hc); (try (exfalso; first | contradiction | omega | exact absurd rfl hc | exact absurd (by decide) hc))))))
      all_goals ((with_reducible refine At.reachk ((⟨c, a - c⟩ : GS)) ?_ ?_ ?_ ?_); exact zsubs; exact zml; exact zente; exact ⟨⟨s2, hob, Nat.lt_of_le_of_lt (Nat.sub_le _ _) g2, s1.trans g4⟩, s3⟩)
    · rw [decide_eq_false hc2] at kl
      have hle := Nat.le_of_not_lt hc2
      rw [Nat.min_eq_left hle, Nat.max_eq_right hle] at s1 s3
      have km := lessR c a hob g2
      (repeat' (first | ((with_reducible apply At.mixed (id := 4) 5 (.q 0 (.q 1 (.q 2 (.q 3 (.x 4 .done)))))); exact rfl; kernel_rfl; kernel_rfl; kernel_rfl) | ((with_reducible apply At.mixed (id := 6) 5 (.q 0 (.q 1 (.q 2 (.q 3 (.x 4 .done)))))); exact rfl; kernel_rfl; kernel_rfl; kernel_rfl) | refine zsx ?_ | refine zss ?_ | ((with_reducible apply AtM.bo); exact rfl; exact rfl; exact rfl) | refine zs0 ?_ | refine zx0 ?_ | ((with_reducible first | apply AtM1.callp | apply AtQ.callp | apply At.callp); kernel_rfl; exact rfl; exact rfl; exact n3) | ((with_reducible first | apply AtM1.cr | apply AtQ.cr | apply At.cr); exact rfl; exact rfl; exact fun _ hmm => k3 _ hmm; exact ztk; kernel_rfl) | ((with_reducible first | apply AtM1.callp | apply AtQ.callp | apply At.callp); kernel_rfl; exact rfl; exact rfl; exact kd) | ((with_reducible first | apply AtM1.callp | apply AtQ.callp | apply At.callp); kernel_rfl; exact rfl; exact rfl; exact kl) | ((with_reducible first | apply AtM1.callp | apply AtQ.callp | apply At.callp); kernel_rfl; exact rfl; exact rfl; exact km) | ((with_reducible apply At.box (d := 2)); exact rfl; exact rfl; exact rfl; intro b2) | ((with_reducible apply At.box (d := 3)); exact rfl; exact rfl; exact rfl; intro b3) | ((with_reducible apply At.alloc (d := 4)); exact rfl; exact rfl; intro b4) | (refine zsp ?_ ?_ <;> (intro hc; (try simp only [zhcs, reduceCtorEq] at hc); (try (exfalso; first | contradiction | omega | exact absurd rfl hc | exact absurd (by decide) hc))))))
      all_goals ((with_reducible refine At.reachk ((⟨a, c - a⟩ : GS)) ?_ ?_ ?_ ?_); exact zsubs; exact zml; exact zente; exact ⟨⟨g1, g2, Nat.lt_of_le_of_lt (Nat.sub_le _ _) hob, s1.trans g4⟩, s3⟩)
end Ra
end Go.Proofs.YtmnlmmbfjfgfeaaDoor
/- Ratios: one number by another, and the check. -/
set_option linter.unusedSimpArgs false
set_option linter.unusedVariables false
set_option linter.unusedSectionVars false
set_option maxRecDepth 20000
set_option maxHeartbeats 4000000
namespace Go.Proofs.YtmnlmmbfjfgfeaaDoor
open Go Go.J
attribute [local irreducible] At AtQ AtM AtM1 PR Ct Pu Rd Res.blk Res.own Res.ex RVs RV
namespace Ra
open Wide
theorem times_ (x y : Nat) (hx : x < 340282366920938463463374607431768211456) (hy : y < 340282366920938463463374607431768211456) : Pu Tryd.prog 39 #[wv x, wv y] (.tuple #[wv (sV (x * y)), .int .i64 (sE (x * y))]) := Pu.intro fun m => by
  by_cases h1 : x < 18446744073709551616
  · have z1 : x / 18446744073709551616 = 0 := by omega
    have z2 : x % 18446744073709551616 = x := by omega
    have k1 := times y x hy h1
    rw [Nat.mul_comm] at k1
    rw [show wv x = .agg #[.int .u64 0, .int .u64 (x : Int)] from (wd_mk (by rw [z1]; rfl) (by rw [z2])).symm]
    refine Ct.enterV (by rfl) Tryd.func39 rfl Tryd.ntmps39 rfl (fun w0 Rest => ?_)
    (repeat' (first | refine zss ?_ | refine zs0 ?_ | ((with_reducible first | apply AtM1.callp | apply AtQ.callp | apply At.callp); kernel_rfl; exact rfl; exact rfl; exact k1) | ((with_reducible apply At.box (d := 2)); exact rfl; exact rfl; exact rfl; intro b2) | ((with_reducible apply At.box (d := 3)); exact rfl; exact rfl; exact rfl; intro b3) | ((with_reducible apply At.alloc (d := 4)); exact rfl; exact rfl; intro b4) | (refine zsp ?_ ?_ <;> (intro hc; (try simp only [zhcs, reduceCtorEq] at hc); (try (exfalso; first | contradiction | omega | exact absurd rfl hc | exact absurd (by decide) hc))))))
    all_goals ((with_reducible apply At.retV (B := [])); exact rfl; (repeat' (first | exact RVs.nil | (with_reducible apply RVs.cons) | exact rv_tmp (by rfl) | exact rv_cellN (by rfl) (by repeat constructor) (by rfl) (by rfl) (by rfl) | exact rv_cell1 (by rfl) (by repeat constructor) (by rfl) (by rfl))); exact zml; exact zkp; exact ⟨rfl, rfl, rfl⟩)
  · have n1 : ¬ ((x / 18446744073709551616 : Nat) : Int) = 0 := by omega
    by_cases h2 : y < 18446744073709551616
    · have z1 : y / 18446744073709551616 = 0 := by omega
      have z2 : y % 18446744073709551616 = y := by omega
      have k1 := times x y hx h2
      rw [show wv y = .agg #[.int .u64 0, .int .u64 (y : Int)] from (wd_mk (by rw [z1]; rfl) (by rw [z2])).symm]
      refine Ct.enterV (by rfl) Tryd.func39 rfl Tryd.ntmps39 rfl (fun w0 Rest => ?_)
      (repeat' (first | refine zss ?_ | refine zs0 ?_ | ((with_reducible first | apply AtM1.callp | apply AtQ.callp | apply At.callp); kernel_rfl; exact rfl; exact rfl; exact k1) | ((with_reducible apply At.box (d := 2)); exact rfl; exact rfl; exact rfl; intro b2) | ((with_reducible apply At.box (d := 3)); exact rfl; exact rfl; exact rfl; intro b3) | ((with_reducible apply At.alloc (d := 4)); exact rfl; exact rfl; intro b4) | (refine zsp ?_ ?_ <;> (intro hc; (try simp only [zhcs, reduceCtorEq] at hc); (try (exfalso; first | (first | omega | exact absurd hc n1) | contradiction | omega | exact absurd rfl hc | exact absurd (by decide) hc))))))
      all_goals ((with_reducible apply At.retV (B := [])); exact rfl; (repeat' (first | exact RVs.nil | (with_reducible apply RVs.cons) | exact rv_tmp (by rfl) | exact rv_cellN (by rfl) (by repeat constructor) (by rfl) (by rfl) (by rfl) | exact rv_cell1 (by rfl) (by repeat constructor) (by rfl) (by rfl))); exact zml; exact zkp; exact ⟨rfl, rfl, rfl⟩)
    · have n2 : ¬ ((y / 18446744073709551616 : Nat) : Int) = 0 := by omega
      have hb : 340282366920938463463374607431768211456 ≤ x * y := Nat.le_trans (by decide : 340282366920938463463374607431768211456 ≤ 18446744073709551616 * 18446744073709551616) (Nat.mul_le_mul (by omega) (by omega))
      rw [show sV (x * y) = 0 from if_neg (Nat.not_lt.2 hb), show sE (x * y) = 1 from if_neg (Nat.not_lt.2 hb)]
      refine Ct.enterV (by rfl) Tryd.func39 rfl Tryd.ntmps39 rfl (fun w0 Rest => ?_)
      (repeat' (first | refine zss ?_ | refine zs0 ?_ | ((with_reducible apply At.box (d := 2)); exact rfl; exact rfl; exact rfl; intro b2) | ((with_reducible apply At.box (d := 3)); exact rfl; exact rfl; exact rfl; intro b3) | ((with_reducible apply At.alloc (d := 4)); exact rfl; exact rfl; intro b4) | (refine zsp ?_ ?_ <;> (intro hc; (try simp only [zhcs, reduceCtorEq] at hc); (try (exfalso; first | (first | omega | exact absurd hc n1 | exact absurd hc n2) | contradiction | omega | exact absurd rfl hc | exact absurd (by decide) hc))))))
      all_goals ((with_reducible apply At.retV (B := [])); exact rfl; (repeat' (first | exact RVs.nil | (with_reducible apply RVs.cons) | exact rv_tmp (by rfl) | exact rv_cellN (by rfl) (by repeat constructor) (by rfl) (by rfl) (by rfl) | exact rv_cell1 (by rfl) (by repeat constructor) (by rfl) (by rfl))); exact zml; exact zkp; exact ⟨rfl, rfl, rfl⟩)
/-- a ratio's value -/
abbrev rv (n d : Nat) : Value := .agg (wd n ++ wd d).toArray
def chk (n d : Nat) : Int := if d = 0 ∨ Nat.gcd n d ≠ 1 then 2 else 0
theorem check {m : Mem} (ht : TZ m) (n d : Nat) (hn : n < 340282366920938463463374607431768211456) (hd : d < 340282366920938463463374607431768211456) : Rd Tryd.prog 35 #[rv n d] m [] (.int .i64 (chk n d)) := by
  unfold Rd
  have k1 := none_ d
  have k2 := fun (m' : Mem) (hm' : m.le m') => gcd (m := m') (ht.mono hm') n d hn hd
  have k3 := of_ 1 (by decide)
  unfold chk
  by_cases h0 : d = 0
  · rw [decide_eq_true h0] at k1
    rw [if_pos (.inl h0)]
    refine Ct.enterV (by rfl) Tryd.func35 rfl Tryd.ntmps35 rfl (fun w0 Rest => ?_)
    (repeat' (first | refine zss ?_ | refine zs0 ?_ | ((with_reducible first | apply AtM1.callp | apply AtQ.callp | apply At.callp); kernel_rfl; exact rfl; exact rfl; exact k1) | ((with_reducible apply At.box (d := 1)); exact rfl; exact rfl; exact rfl; intro b1) | (refine zsp ?_ ?_ <;> (intro hc; (try simp only [zhcs, reduceCtorEq] at hc); (try (exfalso; first | contradiction | omega | exact absurd rfl hc | exact absurd (by decide) hc))))))
    all_goals ((with_reducible apply At.retB1 (B := [])); exact rfl; exact rfl; exact zml; exact zkp; exact ⟨rfl, rfl, rfl⟩)
  · rw [decide_eq_false h0] at k1
    obtain ⟨g, hg⟩ : ∃ g, Nat.gcd n d = g := ⟨_, rfl⟩
    rw [hg] at k2
    by_cases h1 : g = 1
    · rw [if_neg (by rw [hg]; rintro (h | h); exact h0 h; exact h h1)]
      clear hg
      subst h1
      refine Ct.enterV (by rfl) Tryd.func35 rfl Tryd.ntmps35 rfl (fun w0 Rest => ?_)
      (repeat' (first | refine zss ?_ | ((first | (with_reducible first | apply At.val | apply AtQ.val)); (exact pr_wne (a := 1) (b := 1) (by rfl) (by rfl)); exact rfl) | refine zs0 ?_ | ((with_reducible first | apply AtM1.callp | apply AtQ.callp | apply At.callp); kernel_rfl; exact rfl; exact rfl; exact k1) | ((with_reducible first | apply AtM1.cr | apply AtQ.cr | apply At.cr); exact rfl; exact rfl; exact fun _ hmm => k2 _ hmm; exact ztk; kernel_rfl) | ((with_reducible first | apply AtM1.callp | apply AtQ.callp | apply At.callp); kernel_rfl; exact rfl; exact rfl; exact k3) | ((with_reducible apply At.box (d := 1)); exact rfl; exact rfl; exact rfl; intro b1) | (refine zsp ?_ ?_ <;> (intro hc; (try simp only [zhcs, reduceCtorEq] at hc); (try (exfalso; first | contradiction | omega | exact absurd rfl hc | exact absurd (by decide) hc))))))
      all_goals ((with_reducible apply At.retB1 (B := [])); exact rfl; exact rfl; exact zml; exact zkp; exact ⟨rfl, rfl, rfl⟩)
    · rw [if_pos (by rw [hg]; exact .inr h1)]
      have e : (!decide (g = 1)) = true := by rw [decide_eq_false h1]; rfl
      have pw : ∀ {n' : Nat} {F : Fr} {C : World → Prop} {x y : Operand} {u : TypeId}, ev F x = some (wv g) → ev F y = some (wv 1) → PR Tryd.prog n' F C (.binOp .neq 25 x y u) (.bool true) := fun hx hy => by rw [← e]; exact pr_wne hx hy
      refine Ct.enterV (by rfl) Tryd.func35 rfl Tryd.ntmps35 rfl (fun w0 Rest => ?_)
      (repeat' (first | refine zss ?_ | ((first | (with_reducible first | apply At.val | apply AtQ.val)); (exact pw (by rfl) (by rfl)); exact rfl) | refine zs0 ?_ | ((with_reducible first | apply AtM1.callp | apply AtQ.callp | apply At.callp); kernel_rfl; exact rfl; exact rfl; exact k1) | ((with_reducible first | apply AtM1.cr | apply AtQ.cr | apply At.cr); exact rfl; exact rfl; exact fun _ hmm => k2 _ hmm; exact ztk; kernel_rfl) | ((with_reducible first | apply AtM1.callp | apply AtQ.callp | apply At.callp); kernel_rfl; exact rfl; exact rfl; exact k3) | ((with_reducible apply At.box (d := 1)); exact rfl; exact rfl; exact rfl; intro b1) | (refine zsp ?_ ?_ <;> (intro hc; (try simp only [zhcs, reduceCtorEq] at hc); (try (exfalso; first | contradiction | omega | exact absurd rfl hc | exact absurd (by decide) hc))))))
      all_goals ((with_reducible apply At.retB1 (B := [])); exact rfl; exact rfl; exact zml; exact zkp; exact ⟨rfl, rfl, rfl⟩)
end Ra
end Go.Proofs.YtmnlmmbfjfgfeaaDoor
/- Ratios: which is less. -/
set_option linter.unusedSimpArgs false
set_option linter.unusedVariables false
set_option linter.unusedSectionVars false
set_option maxRecDepth 20000
set_option maxHeartbeats 4000000
namespace Go.Proofs.YtmnlmmbfjfgfeaaDoor
open Go Go.J
attribute [local irreducible] At AtQ AtM AtM1 PR Ct Pu Rd Res.blk Res.own Res.ex RVs RV
namespace Ra
open Wide
def les (a b c d : Nat) : Bool × Int := if chk a b ≠ 0 ∨ chk c d ≠ 0 then (false, 2) else if sE (a * d) ≠ 0 ∨ sE (c * b) ≠ 0 then (false, 1) else (decide (a * d < c * b), 0)
theorem sE_zero {x : Nat} (h : sE x = 0) : sV x = x := by
  unfold sE at h
  unfold sV
  by_cases k : x < 340282366920938463463374607431768211456
  · rw [if_pos k]
  · rw [if_neg k] at h; exact absurd h (by decide)
theorem lessT {m : Mem} (ht : TZ m) (a b c d : Nat) (ha : a < 340282366920938463463374607431768211456) (hb : b < 340282366920938463463374607431768211456) (hc' : c < 340282366920938463463374607431768211456) (hd : d < 340282366920938463463374607431768211456) :
    Rd Tryd.prog 22 #[rv a b, rv c d] m [] (.tuple #[.bool (les a b c d).1, .int .i64 (les a b c d).2]) := by
  unfold Rd
  have k1 := fun (m' : Mem) (hm' : m.le m') => check (m := m') (ht.mono hm') a b ha hb
  have k2 := fun (m' : Mem) (hm' : m.le m') => check (m := m') (ht.mono hm') c d hc' hd
  have k3 := times_ a d ha hd
  have k4 := times_ c b hc' hb
  have k5 := less (sV (a * d)) (sV (c * b))
  unfold les
  by_cases h1 : chk a b = 0
  rotate_left
  · rw [if_pos (.inl h1)]
    generalize chk a b = e1 at k1 h1
    refine Ct.enterV (by rfl) Tryd.func22 rfl Tryd.ntmps22 rfl (fun w0 Rest => ?_)
    (repeat' (first | refine zss ?_ | refine zs0 ?_ | ((with_reducible first | apply AtM1.cr | apply AtQ.cr | apply At.cr); exact rfl; exact rfl; exact fun _ hmm => k1 _ hmm; exact ztk; kernel_rfl) | ((with_reducible apply At.box (d := 2)); exact rfl; exact rfl; exact rfl; intro b2) | ((with_reducible apply At.box (d := 3)); exact rfl; exact rfl; exact rfl; intro b3) | ((with_reducible apply At.alloc (d := 6)); exact rfl; exact rfl; intro b6) | ((with_reducible apply At.alloc (d := 8)); exact rfl; exact rfl; intro b8) | (refine zsp ?_ ?_ <;> (intro hc; (try simp only [zhcs, reduceCtorEq] at hc); (try (exfalso; first | (first | omega | exact absurd hc h1) | contradiction | omega | exact absurd rfl hc | exact absurd (by decide) hc))))))
    all_goals ((with_reducible apply At.retV (B := [])); exact rfl; (repeat' (first | exact RVs.nil | (with_reducible apply RVs.cons) | exact rv_tmp (by rfl) | exact rv_cellN (by rfl) (by repeat constructor) (by rfl) (by rfl) (by rfl) | exact rv_cell1 (by rfl) (by repeat constructor) (by rfl) (by rfl))); exact zml; exact zkp; exact ⟨rfl, rfl, rfl⟩)
  by_cases h2 : chk c d = 0
  rotate_left
  · rw [if_pos (.inr h2)]
    rw [h1] at k1
    generalize chk c d = e2 at k2 h2
    refine Ct.enterV (by rfl) Tryd.func22 rfl Tryd.ntmps22 rfl (fun w0 Rest => ?_)
    (repeat' (first | refine zss ?_ | refine zs0 ?_ | ((with_reducible first | apply AtM1.cr | apply AtQ.cr | apply At.cr); exact rfl; exact rfl; exact fun _ hmm => k1 _ hmm; exact ztk; kernel_rfl) | ((with_reducible first | apply AtM1.cr | apply AtQ.cr | apply At.cr); exact rfl; exact rfl; exact fun _ hmm => k2 _ hmm; exact ztk; kernel_rfl) | ((with_reducible apply At.box (d := 2)); exact rfl; exact rfl; exact rfl; intro b2) | ((with_reducible apply At.box (d := 3)); exact rfl; exact rfl; exact rfl; intro b3) | ((with_reducible apply At.alloc (d := 6)); exact rfl; exact rfl; intro b6) | ((with_reducible apply At.alloc (d := 8)); exact rfl; exact rfl; intro b8) | (refine zsp ?_ ?_ <;> (intro hc; (try simp only [zhcs, reduceCtorEq] at hc); (try (exfalso; first | (first | omega | exact absurd hc h2) | contradiction | omega | exact absurd rfl hc | exact absurd (by decide) hc))))))
    all_goals ((with_reducible apply At.retV (B := [])); exact rfl; (repeat' (first | exact RVs.nil | (with_reducible apply RVs.cons) | exact rv_tmp (by rfl) | exact rv_cellN (by rfl) (by repeat constructor) (by rfl) (by rfl) (by rfl) | exact rv_cell1 (by rfl) (by repeat constructor) (by rfl) (by rfl))); exact zml; exact zkp; exact ⟨rfl, rfl, rfl⟩)
  rw [if_neg (by rintro (h | h); exact h h1; exact h h2)]
  rw [h1] at k1
  rw [h2] at k2
  by_cases h3 : sE (a * d) = 0
  rotate_left
  · rw [if_pos (.inl h3)]
    generalize sE (a * d) = e3 at k3 h3
    refine Ct.enterV (by rfl) Tryd.func22 rfl Tryd.ntmps22 rfl (fun w0 Rest => ?_)
    (repeat' (first | refine zss ?_ | refine zs0 ?_ | ((with_reducible first | apply AtM1.cr | apply AtQ.cr | apply At.cr); exact rfl; exact rfl; exact fun _ hmm => k1 _ hmm; exact ztk; kernel_rfl) | ((with_reducible first | apply AtM1.cr | apply AtQ.cr | apply At.cr); exact rfl; exact rfl; exact fun _ hmm => k2 _ hmm; exact ztk; kernel_rfl) | ((with_reducible first | apply AtM1.callp | apply AtQ.callp | apply At.callp); kernel_rfl; exact rfl; exact rfl; exact k3) | ((with_reducible first | apply AtM1.callp | apply AtQ.callp | apply At.callp); kernel_rfl; exact rfl; exact rfl; exact k4) | ((with_reducible apply At.box (d := 2)); exact rfl; exact rfl; exact rfl; intro b2) | ((with_reducible apply At.box (d := 3)); exact rfl; exact rfl; exact rfl; intro b3) | ((with_reducible apply At.alloc (d := 6)); exact rfl; exact rfl; intro b6) | ((with_reducible apply At.alloc (d := 8)); exact rfl; exact rfl; intro b8) | (refine zsp ?_ ?_ <;> (intro hc; (try simp only [zhcs, reduceCtorEq] at hc); (try (exfalso; first | (first | omega | exact absurd hc h3) | contradiction | omega | exact absurd rfl hc | exact absurd (by decide) hc))))))
    all_goals ((with_reducible apply At.retV (B := [])); exact rfl; (repeat' (first | exact RVs.nil | (with_reducible apply RVs.cons) | exact rv_tmp (by rfl) | exact rv_cellN (by rfl) (by repeat constructor) (by rfl) (by rfl) (by rfl) | exact rv_cell1 (by rfl) (by repeat constructor) (by rfl) (by rfl))); exact zml; exact zkp; exact ⟨rfl, rfl, rfl⟩)
  by_cases h4 : sE (c * b) = 0
  rotate_left
  · rw [if_pos (.inr h4)]
    rw [h3] at k3
    generalize sE (c * b) = e4 at k4 h4
    refine Ct.enterV (by rfl) Tryd.func22 rfl Tryd.ntmps22 rfl (fun w0 Rest => ?_)
    (repeat' (first | refine zss ?_ | refine zs0 ?_ | ((with_reducible first | apply AtM1.cr | apply AtQ.cr | apply At.cr); exact rfl; exact rfl; exact fun _ hmm => k1 _ hmm; exact ztk; kernel_rfl) | ((with_reducible first | apply AtM1.cr | apply AtQ.cr | apply At.cr); exact rfl; exact rfl; exact fun _ hmm => k2 _ hmm; exact ztk; kernel_rfl) | ((with_reducible first | apply AtM1.callp | apply AtQ.callp | apply At.callp); kernel_rfl; exact rfl; exact rfl; exact k3) | ((with_reducible first | apply AtM1.callp | apply AtQ.callp | apply At.callp); kernel_rfl; exact rfl; exact rfl; exact k4) | ((with_reducible apply At.box (d := 2)); exact rfl; exact rfl; exact rfl; intro b2) | ((with_reducible apply At.box (d := 3)); exact rfl; exact rfl; exact rfl; intro b3) | ((with_reducible apply At.alloc (d := 6)); exact rfl; exact rfl; intro b6) | ((with_reducible apply At.alloc (d := 8)); exact rfl; exact rfl; intro b8) | (refine zsp ?_ ?_ <;> (intro hc; (try simp only [zhcs, reduceCtorEq] at hc); (try (exfalso; first | (first | omega | exact absurd hc h4) | contradiction | omega | exact absurd rfl hc | exact absurd (by decide) hc))))))
    all_goals ((with_reducible apply At.retV (B := [])); exact rfl; (repeat' (first | exact RVs.nil | (with_reducible apply RVs.cons) | exact rv_tmp (by rfl) | exact rv_cellN (by rfl) (by repeat constructor) (by rfl) (by rfl) (by rfl) | exact rv_cell1 (by rfl) (by repeat constructor) (by rfl) (by rfl))); exact zml; exact zkp; exact ⟨rfl, rfl, rfl⟩)
  rw [if_neg (by rintro (h | h); exact h h3; exact h h4)]
  rw [sE_zero h3, sE_zero h4] at k5
  rw [sE_zero h3, h3] at k3
  rw [sE_zero h4, h4] at k4
  refine Ct.enterV (by rfl) Tryd.func22 rfl Tryd.ntmps22 rfl (fun w0 Rest => ?_)
  (repeat' (first | refine zss ?_ | refine zs0 ?_ | ((with_reducible first | apply AtM1.cr | apply AtQ.cr | apply At.cr); exact rfl; exact rfl; exact fun _ hmm => k1 _ hmm; exact ztk; kernel_rfl) | ((with_reducible first | apply AtM1.cr | apply AtQ.cr | apply At.cr); exact rfl; exact rfl; exact fun _ hmm => k2 _ hmm; exact ztk; kernel_rfl) | ((with_reducible first | apply AtM1.callp | apply AtQ.callp | apply At.callp); kernel_rfl; exact rfl; exact rfl; exact k3) | ((with_reducible first | apply AtM1.callp | apply AtQ.callp | apply At.callp); kernel_rfl; exact rfl; exact rfl; exact k4) | ((with_reducible first | apply AtM1.callp | apply AtQ.callp | apply At.callp); kernel_rfl; exact rfl; exact rfl; exact k5) | ((with_reducible apply At.box (d := 2)); exact rfl; exact rfl; exact rfl; intro b2) | ((with_reducible apply At.box (d := 3)); exact rfl; exact rfl; exact rfl; intro b3) | ((with_reducible apply At.alloc (d := 6)); exact rfl; exact rfl; intro b6) | ((with_reducible apply At.alloc (d := 8)); exact rfl; exact rfl; intro b8) | (refine zsp ?_ ?_ <;> (intro hc; (try simp only [zhcs, reduceCtorEq] at hc); (try (exfalso; first | contradiction | omega | exact absurd rfl hc | exact absurd (by decide) hc))))))
  all_goals ((with_reducible apply At.retV (B := [])); exact rfl; (repeat' (first | exact RVs.nil | (with_reducible apply RVs.cons) | exact rv_tmp (by rfl) | exact rv_cellN (by rfl) (by repeat constructor) (by rfl) (by rfl) (by rfl) | exact rv_cell1 (by rfl) (by repeat constructor) (by rfl) (by rfl))); exact zml; exact zkp; exact ⟨rfl, rfl, rfl⟩)
end Ra
end Go.Proofs.YtmnlmmbfjfgfeaaDoor
/- Ratios: how long a number is. -/
set_option linter.unusedSimpArgs false
set_option linter.unusedVariables false
set_option linter.unusedSectionVars false
set_option maxRecDepth 20000
set_option maxHeartbeats 4000000
namespace Go.Proofs.YtmnlmmbfjfgfeaaDoor
open Go Go.J
attribute [local irreducible] At AtQ AtM AtM1 PR Ct Pu Rd Res.blk Res.own Res.ex RVs RV
namespace Ra
open Wide
theorem len64 (y : Nat) (h : y < 18446744073709551616) : Pu Tryd.prog 69 #[.int .u64 (y : Int)] (.int .i64 (Lib.bitLen y : Int)) := by
  have := Pu.of_same fun w => Any.bits_Len64 { laysn134 with } (y : Int) w (by omega) (by omega)
  rw [Int.toNat_natCast] at this
  exact this
/-- how many digits of base two -/
def ln (x : Nat) : Nat := if x / 18446744073709551616 = 0 then Lib.bitLen (x % 18446744073709551616) else 64 + Lib.bitLen (x / 18446744073709551616)
theorem long (x : Nat) (hx : x < 340282366920938463463374607431768211456) : Pu Tryd.prog 59 #[wv x] (.int .i64 (ln x : Int)) := Pu.intro fun m => by
  have hh : x / 18446744073709551616 < 18446744073709551616 := by omega
  unfold ln
  by_cases h : x / 18446744073709551616 = 0
  · rw [if_pos h]
    have k1 := len64 (x % 18446744073709551616) (Nat.mod_lt _ (by decide))
    refine Ct.enterV (by rfl) Tryd.func59 rfl Tryd.ntmps59 rfl (fun w0 Rest => ?_)
    (repeat' (first | refine zss ?_ | refine zs0 ?_ | ((with_reducible first | apply AtM1.callp | apply AtQ.callp | apply At.callp); kernel_rfl; exact rfl; exact rfl; exact k1) | ((with_reducible apply At.box (d := 1)); exact rfl; exact rfl; exact rfl; intro b1) | (refine zsp ?_ ?_ <;> (intro hc; (try simp only [zhcs, reduceCtorEq] at hc); (try (exfalso; first | omega | contradiction | omega | exact absurd rfl hc | exact absurd (by decide) hc))))))
    all_goals ((with_reducible apply At.retB1 (B := [])); exact rfl; exact rfl; exact zml; exact zkp; exact ⟨rfl, rfl, rfl⟩)
  · rw [if_neg h]
    have k1 := len64 (x / 18446744073709551616) hh
    have e1 : Lib.bitLen (x / 18446744073709551616) ≤ 64 := Lib.bitLen_le _ 64 (by omega) (by omega)
    generalize Lib.bitLen (x / 18446744073709551616) = c at k1 e1
    have e2 : IntKind.wrap .i64 (64 + (c : Int)) = ((64 + c : Nat) : Int) := by rw [show 64 + (c : Int) = ((64 + c : Nat) : Int) by omega]; exact IntWalk.i64_in _ (by omega)
    have n1 : ¬ ((x / 18446744073709551616 : Nat) : Int) = 0 := by omega
    refine Ct.enterV (by rfl) Tryd.func59 rfl Tryd.ntmps59 rfl (fun w0 Rest => ?_)
    (repeat' (first | refine zss ?_ | ((first | (with_reducible first | apply At.val | apply AtQ.val)); (exact pr_add (by rfl) (by rfl) e2); exact rfl) | refine zs0 ?_ | ((with_reducible first | apply AtM1.callp | apply AtQ.callp | apply At.callp); kernel_rfl; exact rfl; exact rfl; exact k1) | ((with_reducible apply At.box (d := 1)); exact rfl; exact rfl; exact rfl; intro b1) | (refine zsp ?_ ?_ <;> (intro hc; (try simp only [zhcs, reduceCtorEq] at hc); (try (exfalso; first | (first | omega | exact absurd hc n1) | contradiction | omega | exact absurd rfl hc | exact absurd (by decide) hc))))))
    all_goals ((with_reducible apply At.retB1 (B := [])); exact rfl; exact rfl; exact zml; exact zkp; exact ⟨rfl, rfl, rfl⟩)
end Ra
end Go.Proofs.YtmnlmmbfjfgfeaaDoor
/- Ratios (plain): how often, by shifting and taking away. -/
set_option linter.unusedSimpArgs false
set_option linter.unusedVariables false
set_option linter.unusedSectionVars false
set_option maxRecDepth 20000
set_option maxHeartbeats 4000000
namespace Go.Proofs.YtmnlmmbfjfgfeaaDoor
open Go Go.J
namespace Ra
theorem len_bounds {y : Nat} (h0 : y ≠ 0) (h : y < 18446744073709551616) : 1 ≤ Lib.bitLen y ∧ 2 ^ (Lib.bitLen y - 1) ≤ y ∧ y < 2 ^ Lib.bitLen y ∧ Lib.bitLen y ≤ 64 := by
  obtain ⟨h1, h2, h3⟩ := Lib.bitLenAux_bounds 64 y h h0
  exact ⟨h1, h2, h3, Lib.bitLen_le y 64 (Nat.le_refl _) h⟩
theorem ln_bounds {x : Nat} (h0 : x ≠ 0) (hx : x < 340282366920938463463374607431768211456) : 1 ≤ ln x ∧ 2 ^ (ln x - 1) ≤ x ∧ x < 2 ^ ln x ∧ ln x ≤ 128 := by
  unfold ln
  have hd := Nat.div_add_mod x 18446744073709551616
  have hm : x % 18446744073709551616 < 18446744073709551616 := Nat.mod_lt _ (by decide)
  by_cases h : x / 18446744073709551616 = 0
  · rw [if_pos h]
    rw [h, Nat.mul_zero, Nat.zero_add] at hd
    rw [hd] at hm ⊢
    obtain ⟨h1, h2, h3, h4⟩ := len_bounds h0 hm
    exact ⟨h1, h2, h3, by omega⟩
  · rw [if_neg h]
    obtain ⟨h1, h2, h3, h4⟩ := len_bounds h (by omega)
    generalize x / 18446744073709551616 = q at h h1 h2 h3 h4 hd ⊢
    generalize Lib.bitLen q = c at h1 h2 h3 h4 ⊢
    refine ⟨by omega, ?_, ?_, by omega⟩
    · rw [show 64 + c - 1 = 64 + (c - 1) by omega, Nat.pow_add]
      have := Nat.mul_le_mul_left (2 ^ 64) h2
      rw [show (2 : Nat) ^ 64 = 18446744073709551616 from rfl] at this ⊢
      omega
    · rw [Nat.pow_add]
      have := Nat.mul_le_mul_left (2 ^ 64) (Nat.succ_le_of_lt h3)
      rw [show (2 : Nat) ^ 64 = 18446744073709551616 from rfl] at this ⊢
      omega
/-- the longest shift -/
theorem sh_fits {a d k : Nat} (ha0 : a ≠ 0) (ha : a < 340282366920938463463374607431768211456) (hd0 : d ≠ 0) (hd : d < 340282366920938463463374607431768211456) (hk : k + ln d ≤ ln a) : d * 2 ^ k < 340282366920938463463374607431768211456 ∧ k < 128 := by
  obtain ⟨_, _, _, a4⟩ := ln_bounds ha0 ha
  obtain ⟨d1, _, d3, _⟩ := ln_bounds hd0 hd
  refine ⟨?_, by omega⟩
  have h1 : d * 2 ^ k < 2 ^ ln d * 2 ^ k := Nat.mul_lt_mul_of_pos_right d3 (Nat.two_pow_pos k)
  rw [← Nat.pow_add] at h1
  have h2 : 2 ^ (ln d + k) ≤ 2 ^ 128 := Nat.pow_le_pow_right (by decide) (by omega)
  rw [show (2 : Nat) ^ 128 = 340282366920938463463374607431768211456 from rfl] at h2
  omega
theorem sh_start {a d k : Nat} (ha0 : a ≠ 0) (ha : a < 340282366920938463463374607431768211456) (hd0 : d ≠ 0) (hd : d < 340282366920938463463374607431768211456) (hk : ln a + 1 ≤ k + ln d) : a < d * 2 ^ k := by
  obtain ⟨_, _, a3, _⟩ := ln_bounds ha0 ha
  obtain ⟨d1, d2, _, _⟩ := ln_bounds hd0 hd
  have h1 : 2 ^ (ln d - 1) * 2 ^ k ≤ d * 2 ^ k := Nat.mul_le_mul_right _ d2
  rw [← Nat.pow_add] at h1
  have h2 : 2 ^ ln a ≤ 2 ^ (ln d - 1 + k) := Nat.pow_le_pow_right (by decide) (by omega)
  omega
/-- what is true ahead of the shift by s - 1 -/
def Wi (a d s q r : Nat) : Prop := a = q * 2 ^ s * d + r ∧ r < d * 2 ^ s
theorem wi_no {a d k q r : Nat} (h : Wi a d (k + 1) q r) (hr : r < d * 2 ^ k) : Wi a d k (q * 2) r := by
  obtain ⟨h1, _⟩ := h
  refine ⟨?_, hr⟩
  rw [Nat.mul_assoc q 2, ← Nat.pow_succ']
  exact h1
theorem wi_yes {a d k q r : Nat} (h : Wi a d (k + 1) q r) (hr : ¬ r < d * 2 ^ k) : Wi a d k (q * 2 + 1) (r - d * 2 ^ k) := by
  obtain ⟨h1, h2⟩ := h
  have e1 : d * 2 ^ (k + 1) = 2 * (d * 2 ^ k) := by rw [Nat.pow_succ', Nat.mul_left_comm]
  have e2 : (q * 2 + 1) * 2 ^ k * d = q * 2 ^ (k + 1) * d + d * 2 ^ k := by
    rw [Nat.add_mul, Nat.one_mul, Nat.add_mul, Nat.mul_assoc q 2, ← Nat.pow_succ', Nat.mul_comm (2 ^ k) d]
  refine ⟨?_, by omega⟩
  rw [e2]
  omega
theorem wi_end {a d q r : Nat} (h : Wi a d 0 q r) : q = a / d := by
  obtain ⟨h1, h2⟩ := h
  rw [Nat.pow_zero, Nat.mul_one] at h1 h2
  rw [h1, Nat.mul_comm q d, Nat.mul_add_div (by omega), Nat.div_eq_of_lt h2, Nat.add_zero]
/-- the bit k set, in the words -/
theorem or_bit (q k : Nat) : (q * 2 ^ (k + 1) + 2 ^ k) / 18446744073709551616 = q * 2 ^ (k + 1) / 18446744073709551616 ||| 2 ^ k / 18446744073709551616 ∧ (q * 2 ^ (k + 1) + 2 ^ k) % 18446744073709551616 = q * 2 ^ (k + 1) % 18446744073709551616 ||| 2 ^ k % 18446744073709551616 := by
  have e : q * 2 ^ (k + 1) + 2 ^ k = q * 2 ^ (k + 1) ||| 2 ^ k := by
    rw [← Nat.shiftLeft_eq, Nat.shiftLeft_add_eq_or_of_lt (Nat.pow_lt_pow_right (by decide) (Nat.lt_succ_self k))]
  rw [e]
  exact ⟨Nat.or_div_two_pow (n := 64), Nat.or_mod_two_pow (n := 64)⟩
end Ra
end Go.Proofs.YtmnlmmbfjfgfeaaDoor
/- Ratios: how often one number goes into another. -/
set_option linter.unusedSimpArgs false
set_option linter.unusedVariables false
set_option linter.unusedSectionVars false
set_option maxRecDepth 20000
set_option maxHeartbeats 4000000
namespace Go.Proofs.YtmnlmmbfjfgfeaaDoor
open Go Go.J
attribute [local irreducible] At AtQ AtM AtM1 PR Ct Pu Rd Res.blk Res.own Res.ex RVs RV
namespace Ra
open Wide
structure WS where
  (t : Int) (Q q r : Nat)
theorem whole (a d : Nat) (ha : a < 340282366920938463463374607431768211456) (hd : d < 340282366920938463463374607431768211456) (hd0 : d ≠ 0) : Pu Tryd.prog 42 #[wv a, wv d] (wv (a / d)) := Pu.intro fun m => by
  have l1 := long a ha
  have l2 := long d hd
  have hla : ln a ≤ 128 ∧ (a = 0 → ln a = 0) := by
    by_cases h : a = 0
    · subst h; exact ⟨by decide, fun _ => by decide⟩
    · exact ⟨(ln_bounds h ha).2.2.2, fun k => absurd k h⟩
  have hld := ln_bounds hd0 hd
  have hld1 : 1 ≤ ln d := hld.1
  have hld4 : ln d ≤ 128 := hld.2.2.2
  clear hld
  have hst : Wi a d (((ln a : Int) - (ln d : Int)) + 1).toNat 0 a := by
    refine ⟨by simp, ?_⟩
    by_cases h : a = 0
    · have := Nat.mul_le_mul_left d (Nat.two_pow_pos (((ln a : Int) - (ln d : Int)) + 1).toNat)
      omega
    · exact sh_start h ha hd0 hd (by omega)
  have hfit := fun k => @sh_fits a d k
  obtain ⟨la, hlae⟩ : ∃ la, ln a = la := ⟨_, rfl⟩
  obtain ⟨ld, hlde⟩ : ∃ ld, ln d = ld := ⟨_, rfl⟩
  rw [hlae] at hla l1
  rw [hlde] at hld1 hld4 l2
  rw [hlae, hlde] at hst
  have e0 : IntKind.wrap .i64 ((la : Int) - (ld : Int)) = (la : Int) - (ld : Int) := IntWalk.i64_in _ (by omega)
  refine Ct.enterV (by rfl) Tryd.func42 rfl Tryd.ntmps42 rfl (fun w0 Rest => ?_)
  (repeat' (first | refine zss ?_ | ((first | (with_reducible first | apply At.val | apply AtQ.val)); (exact pr_sub (by rfl) (by rfl) e0); exact rfl) | refine zs0 ?_ | ((with_reducible first | apply AtM1.callp | apply AtQ.callp | apply At.callp); kernel_rfl; exact rfl; exact rfl; exact l1) | ((with_reducible first | apply AtM1.callp | apply AtQ.callp | apply At.callp); kernel_rfl; exact rfl; exact rfl; exact l2) | fail | ((with_reducible apply At.box (d := 2)); exact rfl; exact rfl; exact rfl; intro b2) | ((with_reducible apply At.box (d := 3)); exact rfl; exact rfl; exact rfl; intro b3) | ((with_reducible apply At.alloc (d := 4)); exact rfl; exact rfl; intro b4) | ((with_reducible apply At.alloc (d := 5)); exact rfl; exact rfl; intro b5) | ((with_reducible apply At.alloc (d := 7)); exact rfl; exact rfl; intro b7) | ((with_reducible apply At.alloc (d := 8)); exact rfl; exact rfl; intro b8) | (refine zsp ?_ ?_ <;> (intro hc; (try simp only [zhcs, reduceCtorEq] at hc); (try (exfalso; first | contradiction | omega | exact absurd rfl hc | exact absurd (by decide) hc))))))
  clear l1 l2 e0
  rw [show ([.int .u64 0, .int .u64 0] : List Value) = wd 0 from rfl]
  (refine At.loopk (σ := WS) [2, 3, 4, 5] (fun s F0 => (6, .int .i64 s.t) :: F0) (fun s => m) (fun s => .blk b2 25 (wd s.r) :: .blk b3 25 (wd d) :: .blk b4 25 (wd 0) :: .blk b5 25 (wd s.Q) :: Rest) (fun s => -200 ≤ s.t ∧ s.t + ld ≤ la ∧ s.r ≤ a ∧ s.Q = s.q * 2 ^ (s.t + 1).toNat ∧ Wi a d (s.t + 1).toNat s.q s.r) (fun s => (s.t + 1).toNat) ⟨(la : Int) - (ld : Int), 0, 0, a⟩ (by rfl) ?_ zsubs zml zente ?_)
  · exact ⟨by dsimp only; omega, by dsimp only; omega, Nat.le_refl _, by simp, hst⟩
  rintro ⟨t, Q, q, r⟩ ⟨g1, g2, g3, g4, g5⟩
  dsimp only at g1 g2 g3 g4 g5 ⊢
  by_cases h : 0 ≤ t
  · obtain ⟨k, rfl⟩ : ∃ k : Nat, t = (k : Int) := ⟨t.toNat, by omega⟩
    rw [show ((k : Int) + 1).toNat = k + 1 by omega] at g4 g5
    have a0 : a ≠ 0 := fun e => by have := hla.2 e; omega
    obtain ⟨f1, f2⟩ := hfit k a0 ha hd0 hd (by omega)
    have ku := up d k f1 hd f2
    have kl := less r (d * 2 ^ k)
    have em : IntKind.wrap .i64 ((k : Int) - 1) = (k : Int) - 1 := IntWalk.i64_in _ (by omega)
    by_cases hr : r < d * 2 ^ k
    · rw [decide_eq_true hr] at kl
      have hn := wi_no g5 hr
      clear hfit hst
      generalize d * 2 ^ k = X at ku kl f1 hr
      (repeat' (first | refine zss ?_ | ((first | (with_reducible first | apply At.val | apply AtQ.val)); (exact pr_sub (by rfl) (by rfl) em); exact rfl) | refine zs0 ?_ | ((with_reducible first | apply AtM1.callp | apply AtQ.callp | apply At.callp); kernel_rfl; exact rfl; exact rfl; exact ku) | ((with_reducible first | apply AtM1.callp | apply AtQ.callp | apply At.callp); kernel_rfl; exact rfl; exact rfl; exact kl) | ((with_reducible apply At.box (d := 2)); exact rfl; exact rfl; exact rfl; intro b2) | ((with_reducible apply At.box (d := 3)); exact rfl; exact rfl; exact rfl; intro b3) | ((with_reducible apply At.alloc (d := 4)); exact rfl; exact rfl; intro b4) | ((with_reducible apply At.alloc (d := 5)); exact rfl; exact rfl; intro b5) | ((with_reducible apply At.alloc (d := 7)); exact rfl; exact rfl; intro b7) | ((with_reducible apply At.alloc (d := 8)); exact rfl; exact rfl; intro b8) | (refine zsp ?_ ?_ <;> (intro hc; (try simp only [zhcs, reduceCtorEq] at hc); (try (exfalso; first | omega | contradiction | omega | exact absurd rfl hc | exact absurd (by decide) hc))))))
      all_goals ((with_reducible refine At.reachk ((⟨(k : Int) - 1, Q, q * 2, r⟩ : WS)) ?_ ?_ ?_ ?_); exact zsubs; exact zml; exact zente; exact ⟨⟨by dsimp only; omega, by dsimp only; omega, g3, by dsimp only; rw [show ((k : Int) - 1 + 1).toNat = k by omega, g4, Nat.pow_succ', Nat.mul_assoc], by dsimp only; rw [show ((k : Int) - 1 + 1).toNat = k by omega]; exact hn⟩, by dsimp only; omega⟩)
    · rw [decide_eq_false hr] at kl
      have hy := wi_yes g5 hr
      have h1p : 2 ^ k < 340282366920938463463374607431768211456 := by
        have := Nat.le_mul_of_pos_left (2 ^ k) (Nat.pos_of_ne_zero hd0)
        omega
      have k1 := of_ 1 (by decide)
      have kv := up 1 k (by rw [Nat.one_mul]; exact h1p) (by decide) f2
      rw [Nat.one_mul] at kv
      have km := lessR r (d * 2 ^ k) (Nat.lt_of_le_of_lt g3 ha) f1
      have ob := or_bit q k
      rw [← g4] at ob
      have hQ : Q < 340282366920938463463374607431768211456 := by
        have h1 := g5.1
        rw [← g4] at h1
        have := Nat.le_mul_of_pos_right Q (Nat.pos_of_ne_zero hd0)
        omega
      have p1 : bits .or .u64 ((Q / 18446744073709551616 : Nat) : Int) ((2 ^ k / 18446744073709551616 : Nat) : Int) = (((Q + 2 ^ k) / 18446744073709551616 : Nat) : Int) := by rw [bits_or_u64_nat _ _ (by omega) (by omega), ob.1]
      have p2 : bits .or .u64 ((Q % 18446744073709551616 : Nat) : Int) ((2 ^ k % 18446744073709551616 : Nat) : Int) = (((Q + 2 ^ k) % 18446744073709551616 : Nat) : Int) := by rw [bits_or_u64_nat _ _ (by omega) (by omega), ob.2]
      have hq : Q + 2 ^ k = (q * 2 + 1) * 2 ^ k := by rw [g4, Nat.add_mul, Nat.one_mul, Nat.pow_succ', Nat.mul_assoc]
      clear hfit hst ob
      generalize d * 2 ^ k = X at ku kl f1 hr hy km
      generalize Q + 2 ^ k = Q2 at p1 p2 hq
      obtain ⟨Z, hZ⟩ : ∃ Z, 2 ^ k = Z := ⟨_, rfl⟩
      rw [hZ] at kv p1 p2 hq h1p
      (repeat' (first | refine zss ?_ | ((first | (with_reducible first | apply At.val | apply AtQ.val)); (first | exact pr_sub (by rfl) (by rfl) em | exact pr_or (by rfl) (by rfl) p1 | exact pr_or (by rfl) (by rfl) p2); exact rfl) | refine zs0 ?_ | ((with_reducible first | apply AtM1.callp | apply AtQ.callp | apply At.callp); kernel_rfl; exact rfl; exact rfl; exact ku) | ((with_reducible first | apply AtM1.callp | apply AtQ.callp | apply At.callp); kernel_rfl; exact rfl; exact rfl; exact kl) | ((with_reducible first | apply AtM1.callp | apply AtQ.callp | apply At.callp); kernel_rfl; exact rfl; exact rfl; exact km) | ((with_reducible first | apply AtM1.callp | apply AtQ.callp | apply At.callp); kernel_rfl; exact rfl; exact rfl; exact k1) | ((with_reducible first | apply AtM1.callp | apply AtQ.callp | apply At.callp); kernel_rfl; exact rfl; exact rfl; exact kv) | ((with_reducible apply At.box (d := 2)); exact rfl; exact rfl; exact rfl; intro b2) | ((with_reducible apply At.box (d := 3)); exact rfl; exact rfl; exact rfl; intro b3) | ((with_reducible apply At.alloc (d := 4)); exact rfl; exact rfl; intro b4) | ((with_reducible apply At.alloc (d := 5)); exact rfl; exact rfl; intro b5) | ((with_reducible apply At.alloc (d := 7)); exact rfl; exact rfl; intro b7) | ((with_reducible apply At.alloc (d := 8)); exact rfl; exact rfl; intro b8) | (refine zsp ?_ ?_ <;> (intro hc; (try simp only [zhcs, reduceCtorEq] at hc); (try (exfalso; first | omega | contradiction | omega | exact absurd rfl hc | exact absurd (by decide) hc))))))
      all_goals ((with_reducible refine At.reachk ((⟨(k : Int) - 1, Q2, q * 2 + 1, r - X⟩ : WS)) ?_ ?_ ?_ ?_); exact zsubs; exact zml; exact zente; exact ⟨⟨by dsimp only; omega, by dsimp only; omega, by dsimp only; omega, by dsimp only; rw [show ((k : Int) - 1 + 1).toNat = k by omega, hZ]; exact hq, by dsimp only; rw [show ((k : Int) - 1 + 1).toNat = k by omega]; exact hy⟩, by dsimp only; omega⟩)
  · rw [show (t + 1).toNat = 0 by omega] at g4 g5
    rw [Nat.pow_zero, Nat.mul_one, wi_end g5] at g4
    subst g4
    (repeat' (first | refine zss ?_ | refine zs0 ?_ | ((with_reducible apply At.box (d := 2)); exact rfl; exact rfl; exact rfl; intro b2) | ((with_reducible apply At.box (d := 3)); exact rfl; exact rfl; exact rfl; intro b3) | ((with_reducible apply At.alloc (d := 4)); exact rfl; exact rfl; intro b4) | ((with_reducible apply At.alloc (d := 5)); exact rfl; exact rfl; intro b5) | ((with_reducible apply At.alloc (d := 7)); exact rfl; exact rfl; intro b7) | ((with_reducible apply At.alloc (d := 8)); exact rfl; exact rfl; intro b8) | (refine zsp ?_ ?_ <;> (intro hc; (try simp only [zhcs, reduceCtorEq] at hc); (try (exfalso; first | omega | contradiction | omega | exact absurd rfl hc | exact absurd (by decide) hc))))))
    all_goals ((with_reducible apply At.retV (B := [])); exact rfl; (repeat' (first | exact RVs.nil | (with_reducible apply RVs.cons) | exact rv_tmp (by rfl) | exact rv_cellN (by rfl) (by repeat constructor) (by rfl) (by rfl) (by rfl) | exact rv_cell1 (by rfl) (by repeat constructor) (by rfl) (by rfl))); exact zml; exact zkp; exact ⟨rfl, rfl, rfl⟩)
end Ra
end Go.Proofs.YtmnlmmbfjfgfeaaDoor
/- Ratios: Floor, Reduce. -/
set_option linter.unusedSimpArgs false
set_option linter.unusedVariables false
set_option linter.unusedSectionVars false
set_option maxRecDepth 20000
set_option maxHeartbeats 4000000
namespace Go.Proofs.YtmnlmmbfjfgfeaaDoor
open Go Go.J
attribute [local irreducible] At AtQ AtM AtM1 PR Ct Pu Rd Res.blk Res.own Res.ex RVs RV
namespace Ra
open Wide
def flo (n d : Nat) : Nat × Int := if d = 0 then (0, 2) else (n / d, 0)
def red (n d : Nat) : (Nat × Nat) × Int := if d = 0 then ((0, 0), 1) else ((n / Nat.gcd n d, d / Nat.gcd n d), 0)
theorem reduce {m : Mem} (ht : TZ m) (n d : Nat) (hn : n < 340282366920938463463374607431768211456) (hd : d < 340282366920938463463374607431768211456) : Rd Tryd.prog 23 #[wv n, wv d] m [] (.tuple #[rv (red n d).1.1 (red n d).1.2, .int .i64 (red n d).2]) := by
  unfold Rd
  have k1 := none_ d
  unfold red
  by_cases h : d = 0
  · rw [decide_eq_true h] at k1
    rw [if_pos h]
    refine Ct.enterV (by rfl) Tryd.func23 rfl Tryd.ntmps23 rfl (fun w0 Rest => ?_)
    (repeat' (first | refine zss ?_ | refine zs0 ?_ | ((with_reducible first | apply AtM1.callp | apply AtQ.callp | apply At.callp); kernel_rfl; exact rfl; exact rfl; exact k1) | ((with_reducible apply At.box (d := 2)); exact rfl; exact rfl; exact rfl; intro b2) | ((with_reducible apply At.box (d := 3)); exact rfl; exact rfl; exact rfl; intro b3) | ((with_reducible apply At.alloc (d := 4)); exact rfl; exact rfl; intro b4) | ((with_reducible apply At.alloc (d := 6)); exact rfl; exact rfl; intro b6) | (refine zsp ?_ ?_ <;> (intro hc; (try simp only [zhcs, reduceCtorEq] at hc); (try (exfalso; first | contradiction | omega | exact absurd rfl hc | exact absurd (by decide) hc))))))
    all_goals ((with_reducible apply At.retV (B := [])); exact rfl; (repeat' (first | exact RVs.nil | (with_reducible apply RVs.cons) | exact rv_tmp (by rfl) | exact rv_cellN (by rfl) (by repeat constructor) (by rfl) (by rfl) (by rfl) | exact rv_cell1 (by rfl) (by repeat constructor) (by rfl) (by rfl))); exact zml; exact zkp; exact ⟨rfl, rfl, rfl⟩)
  · rw [decide_eq_false h] at k1
    rw [if_neg h]
    have k2 := fun (m' : Mem) (hm' : m.le m') => gcd (m := m') (ht.mono hm') n d hn hd
    have hg0 : Nat.gcd n d ≠ 0 := fun e => h (Nat.eq_zero_of_gcd_eq_zero_right e)
    have hg : Nat.gcd n d < 340282366920938463463374607431768211456 := Nat.lt_of_le_of_lt (Nat.gcd_le_right n (Nat.pos_of_ne_zero h) : Nat.gcd n d ≤ d) hd
    generalize Nat.gcd n d = g at k2 hg0 hg ⊢
    have k3 := whole n g hn hg hg0
    have k4 := whole d g hd hg hg0
    refine Ct.enterV (by rfl) Tryd.func23 rfl Tryd.ntmps23 rfl (fun w0 Rest => ?_)
    (repeat' (first | ((with_reducible apply At.mixed (id := 4) 9 (.q 0 (.q 1 (.q 2 (.q 3 (.q 4 (.q 5 (.q 6 (.x 7 (.q 8 .done)))))))))); exact rfl; kernel_rfl; kernel_rfl; kernel_rfl) | refine zsx ?_ | refine zss ?_ | ((with_reducible apply AtM.bo); exact rfl; exact rfl; exact rfl) | refine zs0 ?_ | refine zx0 ?_ | ((with_reducible first | apply AtM1.callp | apply AtQ.callp | apply At.callp); kernel_rfl; exact rfl; exact rfl; exact k1) | ((with_reducible first | apply AtM1.cr | apply AtQ.cr | apply At.cr); exact rfl; exact rfl; exact fun _ hmm => k2 _ hmm; exact ztk; kernel_rfl) | ((with_reducible first | apply AtM1.callp | apply AtQ.callp | apply At.callp); kernel_rfl; exact rfl; exact rfl; exact k3) | ((with_reducible first | apply AtM1.callp | apply AtQ.callp | apply At.callp); kernel_rfl; exact rfl; exact rfl; exact k4) | ((with_reducible apply At.box (d := 2)); exact rfl; exact rfl; exact rfl; intro b2) | ((with_reducible apply At.box (d := 3)); exact rfl; exact rfl; exact rfl; intro b3) | ((with_reducible apply At.alloc (d := 4)); exact rfl; exact rfl; intro b4) | ((with_reducible apply At.alloc (d := 6)); exact rfl; exact rfl; intro b6) | (refine zsp ?_ ?_ <;> (intro hc; (try simp only [zhcs, reduceCtorEq] at hc); (try (exfalso; first | contradiction | omega | exact absurd rfl hc | exact absurd (by decide) hc))))))
    all_goals ((with_reducible apply At.retV (B := [])); exact rfl; (repeat' (first | exact RVs.nil | (with_reducible apply RVs.cons) | exact rv_tmp (by rfl) | exact rv_cellN (by rfl) (by repeat constructor) (by rfl) (by rfl) (by rfl) | exact rv_cell1 (by rfl) (by repeat constructor) (by rfl) (by rfl))); exact zml; exact zkp; exact ⟨rfl, rfl, rfl⟩)
end Ra
end Go.Proofs.YtmnlmmbfjfgfeaaDoor
/- append where there is no room: to whatever can be read, into what is new. -/
set_option linter.unusedSimpArgs false
set_option linter.unusedVariables false
set_option linter.unusedSectionVars false
set_option maxRecDepth 20000
namespace Go.J
open Go
section
variable {P : Program} {n : Nat} {w0 : World} {F : Fr} {m : Mem} {Rs : List Res} {Q : Exit → Act → World → Prop} {α : Type} [Inhabited α] {f : α → List Value} {sz : Nat}
theorem At.appendF {ops : Array Oper} {rest : List Oper} {d : Nat} {x y : Operand} {t tx e2 : TypeId} {ty : TypeId} {pos : String} {aft : Array Edge} {E : TypeId} {p p2 : Option Addr} {c ln ln2 c2 : Nat} {l l2 : List α}
    (hx : ev F x = some (.slice p ln c)) (hy : ev F y = some (.slice p2 ln2 c2)) (h1 : Rdb (HW w0 m Rs) f sz p c l) (hln : ln = l.length) (h2 : Rdb (HW w0 m Rs) f sz p2 c2 l2) (hl2 : ln2 = l2.length)
    (ht : P.underlying t = some (.slice E)) (ht2 : P.underlying tx = some (.slice e2)) (he : elemB P E sz = true) (hc : c < l.length + l2.length)
    (hsm : l.length + l2.length ≤ 34359738368) (hd : Nat.blt d n = true)
    (h : ∀ p' c', At n w0 ((d, .slice p' (l ++ l2).length c') :: F) m (.own f sz E p' c' (l ++ l2) :: Rs) (wpList P ops Q rest)) :
    At n w0 F m Rs (wpList P ops Q (⟨some d, .call ⟨.builtin .append, #[x, y], #[t, tx]⟩, ty, pos, aft, none⟩ :: rest)) := fun a w ha hw =>
  wpList_plain rfl fun K hK => by
    subst hln hl2
    have hf := h1.fl
    obtain ⟨i, z, hi, hz, hsz, hbt, hzs⟩ := elemB_spec he
    have hby : (l.length + l2.length) * i.bytes ≤ 140737488355328 := Nat.le_trans (Nat.mul_le_mul hsm hbt) (by omega)
    have h63 : l.length + l2.length ≤ maxLen := by simp only [maxLen]; omega
    have hsmall : ((l.length + l2.length : Nat) : Int) ≤ 9223372036854775807 := by omega
    have s1 := rdb_src (P := P) h1 hw ht
    have s2 := rdb_src (P := P) h2 hw ht2
    have hl1 := flatMap_length hf.len l
    have hl2 := flatMap_length hf.len l2
    have hll : (l ++ l2).length = l.length + l2.length := by simp
    have hold : (Builtin.firstCells i.size l.length (.slice p l.length c)).run P w.drew = .ok (l.flatMap f).toArray w.drew := by rw [hsz]; exact s1.cellsD
    have hr := run_append_grow_src (P := P) (ty := ty) (w := w) t tx E i z ht hi hz p l.length c (l.flatMap f) hold (.slice p2 l2.length c2) l2.length (l2.flatMap f) (by rw [hsz]; exact s2) hc hsmall (growslice_fits hc hby)
    have hge := grownCap_ge w (l.length + l2.length) c E
    have hcm : grownCap w (l.length + l2.length) c E ≤ maxLen := grownCap_le_maxLen w (l.length + l2.length) c E h63
    rw [← hll] at hr hge hcm
    unfold Oper.wp
    have hrun : ∀ v w', (Builtin.append_ #[t, tx] ty #[.slice p l.length c, .slice p2 l2.length c2]).run P w = .ok v w' → (execOp a.eval ⟨some d, .call ⟨.builtin .append, #[x, y], #[t, tx]⟩, ty, pos, aft, none⟩).run P w = .ok (.value v) w' := fun v w' hr => by
      rw [BigFrame.execOp_builtin]
      simp [BigFrame.builtin_append, ha.ev hx, ha.ev hy, hr]
    rw [hrun _ _ hr]
    refine hK _ _ (h _ _ _ _ (ha.put hd) (hw.add rfl rfl rfl (by simp) (fun k hk => heap_alloc_old w.drew _ hk) ⟨fun k => k = w.heap.size, .inr ⟨w.heap.size, 0, _, rfl, heap_alloc_new w.drew _, hge, hcm, ?_, fun j hj => ?_, fun _ => Iff.rfl⟩, fun k hk => by omega⟩))
    · simp only [Array.size_append, List.size_toArray, size_zeroCells, hzs, List.length_append, hl1, hl2, ← Nat.add_mul]
      rw [List.length_append] at hge
      rw [Nat.add_sub_cancel' hge, Nat.zero_add]
      exact Nat.le_refl _
    · rw [Nat.zero_add, List.flatMap_append, Array.getElem?_append_left (by
        rw [hll, Nat.add_mul] at hj
        simp only [List.size_toArray, List.length_append, hl1, hl2]; omega)]
      simp
theorem addr_add0 (a : Addr) : a.add 0 = a := by cases a; simp [Addr.add]
theorem subp0 (p : Option Addr) (c sz : Nat) : subp p c 0 sz = p := by
  unfold subp
  split
  · rfl
  · rw [Nat.zero_mul]; cases p <;> simp [addr_add0]
theorem Rdb.cut {C : World → Prop} {p : Option Addr} {c : Nat} {l : List α} (h : Rdb C f sz p c l) (hi : Nat) (h1 : hi ≤ l.length) : Rdb C f sz p hi (l.take hi) := by
  have := Rdb.subh h hi h1
  rw [subp0] at this
  exact ⟨this.fl, this.some, fun w hw => by rw [List.length_take]; omega, this.cell⟩
/-- a part from the front, with no room behind it -/
theorem run_slice3 {t e : TypeId} (ht : P.underlying t = some (.slice e)) (hs : sizeB P e = some sz) (p : Option Addr) (l c hi : Nat) (h2 : hi ≤ c) (k k' : IntKind) (w : World) :
    (Instr.sliceAt t (.slice p l c) none (some (.int k (hi : Int))) (some (.int k' (hi : Int)))).run P w = .ok (.slice p hi hi) w := by
  have hr : ∀ w, (underlying t).run P w = .ok (.slice e) w := fun w => by simp only [underlying, program, bind, Sem.bind, Sem.run, ht]; rfl
  have a2 : (0 : Int) ≤ (hi : Int) ∧ (hi : Int) ≤ (c : Int) := ⟨by omega, by omega⟩
  unfold Instr.sliceAt
  simp only [Sem.run_bind, hr, Result.andThen]
  unfold Instr.slice
  simp only [Sem.run_bind, hr, Result.andThen]
  have hb : (Instr.sliceBounds true l c none (some (.int k (hi : Int))) (some (.int k' (hi : Int)))).run P w = .ok (0, hi, hi) w := by
    unfold Instr.sliceBounds Instr.sliceBound
    simp [asIntOf, pure, Sem.run, bind, Sem.bind, h2]
  rw [hb]
  simp only [run_sizeOf hs, pure, Sem.run]
  have := subp0 p hi sz
  unfold subp at this
  simp only [Nat.sub_zero, this]
theorem pr_slice3 {C : World → Prop} {x y z : Operand} {t e : TypeId} {p : Option Addr} {l c hi : Nat} {k k' : IntKind} (hx : ev F x = some (.slice p l c)) (hz : ev F z = some (.int k (hi : Int))) (hy : ev F y = some (.int k' (hi : Int))) (ht : P.underlying t = some (.slice e)) (hs : sizeB P e = some sz) (hle : LeSz C sz c l) (h2 : hi ≤ l) :
    PR P n F C (.slice t x none (some z) (some y)) (.slice p hi hi) := fun _ _ _ _ _ a w ha hC => by
  simp only [execOp, ha.ev hx, Sem.run_bind, Option.map_none, Option.map_some, ha.ev hz, ha.ev hy]
  rw [run_slice3 ht hs p l c hi (Nat.le_trans h2 (hle w hC))]
  rfl
end
end Go.J
/- What one owns may be made to stay: for a call's argument, and for what comes back. -/
set_option linter.unusedSimpArgs false
set_option linter.unusedVariables false
set_option linter.unusedSectionVars false
set_option maxRecDepth 20000
namespace Go.J
open Go
section
variable {P : Program} {m : Mem} {Rs : List Res} {α : Type} [Inhabited α] {f : α → List Value} {sz : Nat}
theorem HW.freeze {w0 w : World} {E : TypeId} {p : Option Addr} {c : Nat} {l : List α} (hf : Fl f sz) (hw : HW w0 m (.own f sz E p c l :: Rs) w) : ∃ m', m.le m' ∧ Sl m' f sz p c l ∧ HW w0 m' Rs w := by
  have k := At.own_freeze (n := 0) (w0 := w0) (F := []) (m := m) (Rs := .own f sz E p c l :: Rs) (K := fun _ w => ∃ m', m.le m' ∧ Sl m' f sz p c l ∧ HW w0 m' Rs w) hf pk0
    (fun m' hm' sl => by
      unfold At
      intro a w1 _ hw1
      exact ⟨m', hm', sl, hw1⟩)
  unfold At at k
  exact k ⟨#[], []⟩ w ⟨rfl, rfl, fun _ _ h => by cases h⟩ hw
theorem Ct.freezeG {g : FuncId} {args : Array Value} {E : TypeId} {p : Option Addr} {c : Nat} {l : List α} {R : Value → Mem → List Res → Prop} (hf : Fl f sz) (h : ∀ m', m.le m' → Sl m' f sz p c l → Ct P g args m' Rs R) :
    Ct P g args m (.own f sz E p c l :: Rs) R := by
  unfold Ct at h ⊢
  intro w0 Rest w hw
  obtain ⟨m', hm', sl, hw'⟩ := HW.freeze hf hw
  exact (h m' hm' sl w0 Rest w hw').mono fun _ _ ⟨v, m2, B, h1, h2, h3, h4⟩ => ⟨v, m2, B, h1, Mem.le_trans hm' h2, h3, h4⟩
theorem Ct.slice {g : FuncId} {args : Array Value} {A B0 : List Res} {E : TypeId} {l : List α} {R : Value → Option Addr → Nat → Prop} (hf : Fl f sz) (h : Ct P g args m A (fun v m' B => ∃ p c, R v p c ∧ B = .own f sz E p c l :: B0)) :
    Ct P g args m A (fun v m' B => B = B0 ∧ ∃ p c, R v p c ∧ Sl m' f sz p c l) := by
  unfold Ct at h ⊢
  intro w0 Rest w hw
  refine (h w0 Rest w hw).mono fun _ _ ⟨v, m2, B, h1, h2, ⟨p, c, h3, hB⟩, h4⟩ => ?_
  subst hB
  obtain ⟨m3, hm3, sl, hw3⟩ := HW.freeze hf h4
  exact ⟨v, m3, B0, h1, Mem.le_trans h2 hm3, ⟨rfl, p, c, h3, sl⟩, hw3⟩
/-- a slice's literal, that stays -/
theorem At.litF {n : Nat} {w0 : World} {F : Fr} {Q : Exit → Act → World → Prop} {ops : Array Oper} {rest : List Oper} {d : Nat} {t E : TypeId} {len : Nat} {xs : List (Nat × Operand)} {ps : List (Nat × Value)} {ty : TypeId} {pos : String} {aft : Array Edge}
    (f : α → List Value) (l : List α) (hf : Fl f sz) (ht : P.underlying t = some (.slice E)) (he : elemB P E sz = true) (hx : evps F xs = some ps) (hsm : Nat.ble (len * sz) 16777216 = true) (hl : l.length = len)
    (hb : litL P E sz len ps = flat (l.flatMap f)) (hd : Nat.blt d n = true)
    (h : ∀ b m', m.le m' → Sl m' f sz (some ⟨b, 0, none⟩) len l → At n w0 ((d, .slice (some ⟨b, 0, none⟩) len len) :: F) m' Rs (wpList P ops Q rest)) :
    At n w0 F m Rs (wpList P ops Q (⟨some d, .buildSlice t len xs.toArray, ty, pos, aft, none⟩ :: rest)) :=
  At.lit f l hf ht he hx hsm hl hb hd (fun b => At.own_freeze hf pk0 fun m' hm' sl => h b m' hm' sl)
end
end Go.J
/- A slice beside nil; what is cleared. -/
set_option linter.unusedSimpArgs false
set_option linter.unusedVariables false
set_option linter.unusedSectionVars false
set_option maxRecDepth 20000
namespace Go.J
open Go
section
variable {P : Program} {n : Nat} {F : Fr} {C : World → Prop}
theorem run_equal_slnil {t e : TypeId} {p : Option Addr} {l c l2 c2 : Nat} (ht : P.underlying t = some (.slice e)) (w : World) : (Op.equal t (.slice p l c) (.slice none l2 c2)).run P w = .ok p.isNone w := by
  simp [Op.equal, Op.maxDepth, Lib.run_equalIn_slice_nil w 9999 t e p l c l2 c2 ht]
theorem pr_sleql {x y : Operand} {p : Option Addr} {l c l2 c2 : Nat} {t u e : TypeId} (ht : P.underlying t = some (.slice e)) (hx : ev F x = some (.slice p l c)) (hy : ev F y = some (.slice none l2 c2)) : PR P n F C (.binOp .eql t x y u) (.bool p.isNone) :=
  pr_eql_of hx hy (fun _ => rfl) (by cases p <;> rfl) (fun w _ => run_equal_slnil ht w)
theorem pr_slneq {x y : Operand} {p : Option Addr} {l c l2 c2 : Nat} {t u e : TypeId} (ht : P.underlying t = some (.slice e)) (hx : ev F x = some (.slice p l c)) (hy : ev F y = some (.slice none l2 c2)) : PR P n F C (.binOp .neq t x y u) (.bool !p.isNone) :=
  pr_neq_of hx hy (fun _ => rfl) (by cases p <;> rfl) (fun w _ => run_equal_slnil ht w)
def zeroOneB (P : Program) (e : TypeId) : Bool := match P.info? e with
  | some i => match i.zero with
    | some z => z.cells.toList.all oneCell
    | none => false
  | none => false
end
section
variable {P : Program} {n : Nat} {w0 : World} {F : Fr} {m : Mem} {Rs : List Res} {Q : Exit → Act → World → Prop} {α : Type} [Inhabited α] {f : α → List Value} {sz : Nat} {E : TypeId} {p : Option Addr} {c : Nat} {l : List α} {Rs' : List Res}
theorem pr_slice_own {x z : Operand} {t : TypeId} {ln hi : Nat} {k : IntKind} (hx : ev F x = some (.slice p ln c)) (hz : ev F z = some (.int k (hi : Int))) (hp : Pick Rs (.own f sz E p c l) Rs') (hl : l.length = hi) (ht : P.underlying t = some (.slice E)) (hs : sizeB P E = some sz) :
    PR P n F (HW w0 m Rs) (.slice t x none (some z) none) (.slice (subp p c 0 sz) (hi - 0) (c - 0)) := by
  subst hl
  exact fun d ty pos aft g a w ha hC => pr_slice_h hx hz ht hs (own_le hp w hC) d ty pos aft g a w ha hC
theorem zeroCells_one {z : Array Value} (h : z.toList.all oneCell = true) (k : Nat) : ∀ v ∈ (Builtin.zeroCells z k).toList, v.oneCell' = true := fun v hv => by
  simp only [Builtin.zeroCells, Array.toList_map, Array.toList_range, List.mem_map, List.mem_range] at hv
  obtain ⟨i, hi, rfl⟩ := hv
  have hz : 0 < z.size := by
    rcases Nat.eq_zero_or_pos z.size with e | e
    · rw [e] at hi; simp at hi
    · exact e
  have hm := Nat.mod_lt i hz
  have := List.all_eq_true.1 h z[i % z.size]! (by
    rw [getElem!_pos z _ hm]
    exact Array.getElem_mem_toList hm)
  generalize z[i % z.size]! = u at this
  cases u <;> first | rfl | (simp [oneCell] at this)
/-- the end of what one owns is cleared: the rest stays -/
theorem At.clearW {ops : Array Oper} {rest : List Oper} {d : Option Nat} {x : Operand} {t : TypeId} {ty : TypeId} {pos : String} {aft : Array Edge} {ln c2 : Nat} {q : Option Addr}
    (lo : Nat) (hx : ev F x = some (.slice q ln c2)) (hp : Pick Rs (.own f sz E p c l) Rs') (hq : q = subp p c lo sz) (hf : Fl f sz) (ht : P.underlying t = some (.slice E)) (he : elemB P E sz = true) (hz1 : zeroOneB P E = true) (hlo : lo ≤ l.length) (hln : ln = l.length - lo) (hd : d = none)
    (h : At n w0 F m (.own f sz E p c (l.take lo) :: Rs') (wpList P ops Q rest)) :
    At n w0 F m Rs (wpList P ops Q (⟨d, .call ⟨.builtin .clear, #[x], #[t]⟩, ty, pos, aft, none⟩ :: rest)) := fun a w ha hw =>
  wpList_plain rfl fun K hK => by
    subst hln hd hq
    obtain ⟨i, z, hi, hz, hsz, hbt, hzs⟩ := elemB_spec he
    have hone : z.cells.toList.all oneCell = true := by
      unfold zeroOneB at hz1; rw [hi] at hz1; simp only [hz] at hz1; exact hz1
    have hrow : ∀ s, (Res.own f sz E p c l).p w s → ∃ w', (Builtin.clear_ #[t] ty #[.slice (subp p c lo sz) (l.length - lo) c2]).run P w = .ok (.tuple #[]) w' ∧ (Res.own f sz E p c (l.take lo)).p w' s ∧ w'.os = w.os ∧ w'.tape = w.tape ∧ w'.output = w.output ∧ w.heap.size ≤ w'.heap.size ∧ (∀ k, k < w.heap.size → ¬ s k → w'.heap[k]? = w.heap[k]?) := fun s hown => by
      by_cases hz0 : l.length - lo = 0
      · have hl : l.take lo = l := List.take_of_length_le (by omega)
        rw [hz0, hl]
        refine ⟨w, ?_, hown, rfl, rfl, rfl, Nat.le_refl _, fun _ _ _ => rfl⟩
        cases subp p c lo sz <;> simp [Builtin.clear_, run_underlying ht]
      · rcases hown with ⟨rfl, rfl, rfl, hno⟩ | ⟨g, o, cur, rfl, h4, h5, h6, h7, h8, hgs⟩
        · simp at hz0
        · have hne : c ≠ lo := by omega
          have hsub : subp (some ⟨g, o, none⟩) c lo sz = some ⟨g, o + lo * sz, none⟩ := by unfold subp; rw [if_neg hne]; simp [Addr.add_eq]
          rw [hsub]
          have hlen : (Builtin.zeroCells z.cells (l.length - lo)).toList.length = (l.length - lo) * sz := by rw [Array.length_toList, size_zeroCells, hzs]
          have hcs : l.length * sz ≤ c * sz := Nat.mul_le_mul_right _ h5
          have hsp : (l.length - lo) * sz + lo * sz = l.length * sz := by rw [← Nat.add_mul]; congr 1; omega
          have hst := run_storeCells_at P g (o + lo * sz) E (Builtin.zeroCells z.cells (l.length - lo)).toList 0 cur w h4 (by omega) (zeroCells_one hone _)
          simp only [Nat.add_zero] at hst
          refine ⟨w.setRow g (cur.toList.take (o + lo * sz) ++ (Builtin.zeroCells z.cells (l.length - lo)).toList ++ cur.toList.drop (o + lo * sz + (Builtin.zeroCells z.cells (l.length - lo)).toList.length)).toArray, ?_, .inr ⟨g, o, (cur.toList.take (o + lo * sz) ++ (Builtin.zeroCells z.cells (l.length - lo)).toList ++ cur.toList.drop (o + lo * sz + (Builtin.zeroCells z.cells (l.length - lo)).toList.length)).toArray, rfl, setRow_heap w g cur _ E _ h4, by simp only [List.length_take]; omega, h6, ?_, fun j hj => ?_, hgs⟩, rfl, rfl, rfl, by simp, fun i _ hi => setRow_other w g i _ (fun e => hi ((hgs i).2 e))⟩
          · obtain ⟨k, hk⟩ : ∃ k, l.length - lo = k + 1 := ⟨l.length - lo - 1, by omega⟩
            have hzv : ∀ w, (zeroValue E).run P w = .ok z w := fun w => by simp [zeroValue, typeInfo, hi, hz]
            rw [hk] at hst ⊢
            simp [Builtin.clear_, run_underlying ht, hzv, hst]
          · simp only [List.size_toArray, List.length_append, List.length_take, List.length_drop, Array.length_toList, size_zeroCells, hzs]
            omega
          · have hj2 : j < lo * sz := by rw [List.length_take] at hj; exact Nat.lt_of_lt_of_le hj (Nat.mul_le_mul_right _ (Nat.min_le_left _ _))
            have hll : lo * sz ≤ l.length * sz := Nat.mul_le_mul_right _ hlo
            rw [List.getElem?_toArray, List.append_assoc, List.getElem?_append_left (by simp only [List.length_take, Array.length_toList]; omega), List.getElem?_take, if_pos (by omega), Array.getElem?_toList, h8 j (by omega)]
            have e : l.flatMap f = (l.take lo).flatMap f ++ (l.drop lo).flatMap f := by rw [← List.flatMap_append, List.take_append_drop]
            rw [e, List.getElem?_append_left (by rw [flatMap_length hf.len]; exact hj)]
    obtain ⟨s0, hown⟩ := hw.get hp
    obtain ⟨w', hr', _⟩ := hrow s0 hown
    have hrun' : (execOp a.eval ⟨none, .call ⟨.builtin .clear, #[x], #[t]⟩, ty, pos, aft, none⟩).run P w = .ok (.value (.tuple #[])) w' := by
      rw [BigFrame.execOp_builtin]
      simp [BigFrame.builtin_clear, ha.ev hx, hr']
    unfold Oper.wp
    rw [hrun']
    refine hK _ _ (h _ _ ha (hw.turn hp fun s hs => ?_))
    obtain ⟨w2, hr2, h2, g1, g2, g3, g4, g5⟩ := hrow s hs
    rw [hr'] at hr2
    injection hr2 with _ e2
    subst e2
    exact ⟨s, h2, g1, g2, g3, g4, g5, fun k hk => .inl hk⟩
end
end Go.J
/- Lists of whole numbers, of texts, of bools, as cells; whether two are one. -/
set_option linter.unusedSimpArgs false
set_option linter.unusedVariables false
set_option linter.unusedSectionVars false
set_option maxRecDepth 20000
set_option maxHeartbeats 4000000
namespace Go.Proofs.YtmnlmmbfjfgfeaaDoor
open Go Go.J
attribute [local irreducible] At AtQ AtM AtM1 PR Ct Pu Rd Res.blk Res.own Res.ex RVs RV
namespace Ls
abbrev fI : Int → List Value := fun x => [.int .i64 x]
instance : Fl fI 1 := ⟨fun _ => rfl, fun _ v h => by simp at h; subst h; rfl, by decide⟩
abbrev fS : List UInt8 → List Value := fun x => [.string (str x)]
instance : Fl fS 1 := ⟨fun _ => rfl, fun _ v h => by simp at h; subst h; rfl, by decide⟩
abbrev fO : Bool → List Value := fun x => [.bool x]
instance : Fl fO 1 := ⟨fun _ => rfl, fun _ v h => by simp at h; subst h; rfl, by decide⟩
abbrev fH : Nat → List Value := fun x => [.int .u16 (x : Int)]
instance : Fl fH 1 := ⟨fun _ => rfl, fun _ v h => by simp at h; subst h; rfl, by decide⟩
/-- a slice that stands in a slice -/
structure SX (α : Type) where
  (l : List α) (p : Option Addr) (c : Nat)
instance {α : Type} : Inhabited (SX α) := ⟨⟨[], none, 0⟩⟩
abbrev fX {α : Type} : SX α → List Value := fun x => [.slice x.p x.l.length x.c]
instance {α : Type} : Fl (fX (α := α)) 1 := ⟨fun _ => rfl, fun _ v h => by simp at h; subst h; rfl, by decide⟩
theorem ext! {α : Type} [Inhabited α] {a b : List α} (hl : a.length = b.length) (h : ∀ i, i < a.length → a[i]! = b[i]!) : a = b :=
  List.ext_getElem hl fun i h1 h2 => by have := h i h1; rwa [getElem!_pos a i h1, getElem!_pos b i h2] at this
theorem take_snoc {α : Type} [Inhabited α] {l : List α} {i : Nat} (h : i < l.length) : l.take (i + 1) = l.take i ++ [l[i]!] := by
  rw [getElem!_pos l i h, List.take_succ_eq_append_getElem h]
theorem drop_cons {α : Type} [Inhabited α] {l : List α} {i : Nat} (h : i < l.length) : l.drop i = l[i]! :: l.drop (i + 1) := by
  rw [getElem!_pos l i h, List.drop_eq_getElem_cons h]
theorem mem! {α : Type} [Inhabited α] {l : List α} {i : Nat} (h : i < l.length) : l[i]! ∈ l := by
  rw [getElem!_pos l i h]; exact List.getElem_mem h
theorem clipSl {m : Mem} {α : Type} [Inhabited α] {f : α → List Value} {sz : Nat} {p : Option Addr} {c : Nat} {l : List α} (h : Sl m f sz p c l) : Sl m f sz p l.length l := by
  have hle := h.le
  refine ⟨h.fl, Nat.le_refl _, Nat.le_trans hle h.big, fun e => by have := h.nil e; omega, fun a ha h0 => ?_⟩
  obtain ⟨h1, E, cs, fz, h2, h3, h4⟩ := h.some a ha (by omega)
  exact ⟨h1, E, cs, fz, h2, Nat.le_trans (Nat.add_le_add_left (Nat.mul_le_mul_right _ hle) _) h3, h4⟩
end Ls
end Go.Proofs.YtmnlmmbfjfgfeaaDoor

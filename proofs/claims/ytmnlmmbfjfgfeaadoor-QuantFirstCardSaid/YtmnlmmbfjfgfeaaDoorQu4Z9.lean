/- Part 9 of what the law's proof needs: rules of the walk, contracts of functions, plain laws. No condition. -/
import Derived.Test.YtmnlmmbfjfgfeaaDoorQu4Z8
/- Ratios, the document's: the product of two numbers, in 32 bytes. -/
set_option linter.unusedSimpArgs false
set_option linter.unusedVariables false
set_option linter.unusedSectionVars false
set_option maxRecDepth 20000
set_option maxHeartbeats 4000000
namespace Go.J
open Go
section
variable {P : Program} {n : Nat} {F : Fr} {m : Mem} {w0 : World} {Rs Rs' : List Res} {E : TypeId}
/-- an array that is a block, as a slice from lo on -/
theorem pr_slice_arrl {C : World → Prop} {x y : Operand} {t e : TypeId} {len b sz lo : Nat} {k : IntKind} (hx : ev F x = some (.pointer (some ⟨b, 0, none⟩))) (hy : ev F y = some (.int k (lo : Int))) (ht : P.underlying t = some (.array len e)) (hs : sizeB P e = some sz) (hl : lo < len) :
    PR P n F C (.slice t x (some y) none none) (.slice (some ⟨b, lo * sz, none⟩) (len - lo) (len - lo)) := fun _ _ _ _ _ a w ha hC => by
  have hr : ∀ w, (underlying t).run P w = .ok (.array len e) w := fun w => by simp only [underlying, program, bind, Sem.bind, Sem.run, ht]; rfl
  have hb : (Instr.sliceBounds false len len (some (.int k (lo : Int))) none none).run P w = .ok (lo, len, len) w := by
    unfold Instr.sliceBounds Instr.sliceBound
    have a1 : (0 : Int) ≤ (lo : Int) ∧ (lo : Int) ≤ (len : Int) := ⟨by omega, by omega⟩
    simp [asIntOf, pure, Sem.run, bind, Sem.bind, Nat.le_of_lt hl]
  have e0 : (Pure.pure (⟨b, 0, none⟩ : Addr) : Sem Addr).run P w = .ok ⟨b, 0, none⟩ w := rfl
  have hz : (if len = lo then (⟨b, 0, none⟩ : Addr) else (⟨b, 0, none⟩ : Addr).add (lo * sz)) = ⟨b, lo * sz, none⟩ := by
    rw [if_neg (Nat.ne_of_gt hl), Addr.add_eq, Nat.zero_add]
  simp only [execOp, ha.ev hx, ha.ev hy, Option.map_none, Option.map_some, Sem.run_bind]
  unfold Instr.sliceAt
  simp only [Sem.run_bind, hr, Result.andThen, Instr.sureAddr, e0, hb, run_sizeOf hs, pure, Sem.run, hz]
/-- such a slice can be read -/
theorem blk_rdbl {α : Type} [Inhabited α] {g : α → Value} [hf : Fl (fun x => [g x]) 1] {b o c : Nat} {L : List α} (hp : Pick Rs (.blk b E (L.map g)) Rs') (hc : (L.drop o).length = c) : Rdb (HW w0 m Rs) (fun x => [g x]) 1 (some ⟨b, o, none⟩) c (L.drop o) := by
  refine ⟨hf, fun w hw hl => ⟨b, o, rfl⟩, fun w hw => by omega, fun w hw i j hi hj => ?_⟩
  have hj0 : j = 0 := by omega
  subst hj0
  have hb := hw.blk hp
  have hi' : o + i < L.length := by rw [List.length_drop] at hi; omega
  show w.cell? ⟨b, o + (i * 1 + 0), none⟩ = _
  rw [World.cell_of hb, show o + (i * 1 + 0) = o + i by omega]
  simp [hi']
/-- what a block has, said in other words -/
theorem At.reblk {K : Act → World → Prop} {b : Nat} {cs cs' : List Value} (hp : Pick Rs (.blk b E cs) Rs') (e : cs = cs') (h : At n w0 F m (.blk b E cs' :: Rs') K) : At n w0 F m Rs K := At.ent (Ent.of_pick hp) (e ▸ h)
end
end Go.J
namespace Go.Proofs.YtmnlmmbfjfgfeaaDoor
open Go Go.J
attribute [local irreducible] At AtQ AtM AtM1 PR Ct Pu Rd Res.blk Res.own Res.ex RVs RV
namespace Ra
open Wide
def tb (n : Nat) (f : Nat → Nat) : List Int := (List.range n).map (fun i => ((f i : Nat) : Int))
theorem tb_len (n : Nat) (f : Nat → Nat) : (tb n f).length = n := by simp [tb]
theorem tbm_len (n : Nat) (f : Nat → Nat) : ((tb n f).map gi).length = n := by simp [tb]
theorem tb_get {n : Nat} (f : Nat → Nat) {i : Nat} (h : i < n) : (tb n f)[i]! = (f i : Int) := by
  rw [getElem!_pos _ i (by rw [tb_len]; exact h)]; simp [tb]
theorem tb_congr {n : Nat} {f g : Nat → Nat} (h : ∀ j, j < n → f j = g j) : tb n f = tb n g := by
  unfold tb
  apply List.map_congr_left
  intro j hj
  rw [h j (List.mem_range.1 hj)]
theorem tb_set {n : Nat} (f : Nat → Nat) {k : Nat} (v : Nat) : (tb n f).set k (v : Int) = tb n (fun j => if j = k then v else f j) := by
  apply List.ext_getElem (by simp [tb])
  intro j h1 h2
  rw [List.getElem_set]
  simp only [tb, List.getElem_map, List.getElem_range]
  by_cases e : k = j
  · subst e; simp
  · rw [if_neg e, if_neg (Ne.symm e)]
theorem pr_load_tb {n : Nat} {w0 : World} {F : Fr} {m : Mem} {Rs : List Res} {N : Nat} {f : Nat → Nat} {x : Operand} {t : TypeId} {b k v : Nat} {E : TypeId} {Rs' : List Res} (hx : ev F x = some (.pointer (some ⟨b, k, none⟩))) (hp : Pick Rs (.blk b E ((tb N f).map gi)) Rs') (ht : isAggB Tryd.prog t = some false) (hk : k < N) (hv : f k = v) :
    PR Tryd.prog n F (HW w0 m Rs) (.load t x) (.int .i64 ((v : Nat) : Int)) := by
  have := pr_load_arr (n := n) (w0 := w0) (m := m) (P := Tryd.prog) (g := gi) hx hp ht (by rw [tb_len]; exact hk)
  rw [tb_get f hk, hv] at this
  exact this
/-! ### digits of a product -/
theorem p256 (i : Nat) : 0 < 256 ^ i := Nat.pow_pos (by decide)
theorem dg_big {X j : Nat} (h : X < 256 ^ j) : dg X j = 0 := by unfold dg; rw [Nat.div_eq_of_lt h]
theorem dg_hi (P s k : Nat) : dg P (s + k) = dg (P / 256 ^ s) k := by
  unfold dg; rw [Nat.pow_add, Nat.div_div_eq_div_mul]
theorem dg_sh (P s k M : Nat) : dg (P + 256 ^ s * M) (s + k) = dg (P / 256 ^ s + M) k := by
  rw [dg_hi, Nat.add_mul_div_left _ _ (p256 s)]
theorem dg_lo {P s j M : Nat} (h : j < s) : dg (P + 256 ^ s * M) j = dg P j := by
  unfold dg
  have e : 256 ^ s * M = 256 ^ j * (256 * (256 ^ (s - j - 1) * M)) := by
    rw [← Nat.mul_assoc 256, ← Nat.mul_assoc, ← Nat.pow_succ', ← Nat.pow_add, show j + (s - j - 1).succ = s by omega]
  rw [e, Nat.add_mul_div_left _ _ (p256 j)]
  omega
def ck (A d y k : Nat) : Nat := (A % 256 ^ k + d * (y % 256 ^ k)) / 256 ^ k
theorem ck_zero (A d y : Nat) : ck A d y 0 = 0 := by simp [ck, Nat.mod_one]
theorem ck_lt {A d y k : Nat} (hd : d < 256) : ck A d y k < 256 := by
  unfold ck
  have h1 := Nat.mod_lt A (p256 k)
  have h2 := Nat.mod_lt y (p256 k)
  generalize A % 256 ^ k = a at *
  generalize y % 256 ^ k = b at *
  generalize 256 ^ k = p at *
  rw [Nat.div_lt_iff_lt_mul (by omega)]
  have h3 : d * b ≤ 255 * b := Nat.mul_le_mul_right b (by omega)
  omega
theorem ck_succ (A d y k : Nat) : (dg A k + d * dg y k + ck A d y k) / 256 = ck A d y (k + 1) := by
  unfold ck
  rw [dig_succ, dig_succ, Nat.pow_succ, ← Nat.div_div_eq_div_mul]
  congr 1
  rw [show A % 256 ^ k + 256 ^ k * dg A k + d * (y % 256 ^ k + 256 ^ k * dg y k) = (A % 256 ^ k + d * (y % 256 ^ k)) + 256 ^ k * (dg A k + d * dg y k) by
    rw [Nat.mul_add, Nat.mul_add, Nat.mul_left_comm]; omega, Nat.add_mul_div_left _ _ (p256 k)]
  omega
theorem ck_dig (A d y k : Nat) : (dg A k + d * dg y k + ck A d y k) % 256 = dg (A + d * y) k := by
  have e : (A + d * y) / 256 ^ k = A / 256 ^ k + d * (y / 256 ^ k) + ck A d y k := by
    unfold ck
    conv => lhs; rw [← Nat.mod_add_div A (256 ^ k), ← Nat.mod_add_div y (256 ^ k)]
    rw [show A % 256 ^ k + 256 ^ k * (A / 256 ^ k) + d * (y % 256 ^ k + 256 ^ k * (y / 256 ^ k)) = (A % 256 ^ k + d * (y % 256 ^ k)) + 256 ^ k * (A / 256 ^ k + d * (y / 256 ^ k)) by
      rw [Nat.mul_add, Nat.mul_add, Nat.mul_left_comm d (256 ^ k)]; omega, Nat.add_mul_div_left _ _ (p256 k)]
    omega
  unfold dg
  rw [e]
  have e2 : d * (y / 256 ^ k) = d * (y / 256 ^ k % 256) + 256 * (d * (y / 256 ^ k / 256)) := by
    rw [Nat.mul_left_comm, ← Nat.mul_add, Nat.mod_add_div]
  rw [e2]
  generalize d * (y / 256 ^ k % 256) = u
  generalize d * (y / 256 ^ k / 256) = v
  omega
structure PS where
  (k : Nat) (c : Nat)
theorem pr_lt (x y s : Nat) (hy : y < 256 ^ 16) : x % 256 ^ s * y < 256 ^ (s + 16) := by
  rw [Nat.pow_add]
  exact Nat.mul_lt_mul'' (Nat.mod_lt _ (p256 s)) hy
theorem pr_step (x y s : Nat) : x % 256 ^ (s + 1) * y = x % 256 ^ s * y + 256 ^ s * (dg x s * y) := by
  rw [dig_succ, Nat.add_mul, Nat.mul_assoc]
def cc (x y s k : Nat) : Nat := ck (x % 256 ^ s * y / 256 ^ s) (dg x s) y k
def row (x y s k : Nat) : Nat → Nat := fun j => if j < s + k then dg (x % 256 ^ (s + 1) * y) j else dg (x % 256 ^ s * y) j
theorem cc_zero (x y s : Nat) : cc x y s 0 = 0 := ck_zero _ _ _
theorem cc_lt (x y s k : Nat) : cc x y s k < 256 := ck_lt (dg_lt x s)
theorem row_zero (x y s : Nat) : tb 32 (dg (x % 256 ^ s * y)) = tb 32 (row x y s 0) := tb_congr fun j _ => by
  unfold row
  by_cases hj : j < s + 0
  · rw [if_pos hj, pr_step, dg_lo (show j < s by omega)]
  · rw [if_neg hj]
theorem row_at (x y s k : Nat) : row x y s k (s + k) = dg (x % 256 ^ s * y) (s + k) := if_neg (Nat.lt_irrefl _)
theorem cc_succ (x y s k : Nat) : (dg (x % 256 ^ s * y) (s + k) + dg x s * dg y k + cc x y s k) / 256 = cc x y s (k + 1) := by
  rw [dg_hi]; exact ck_succ _ _ _ _
theorem cc_dig (x y s k : Nat) : (dg (x % 256 ^ s * y) (s + k) + dg x s * dg y k + cc x y s k) % 256 = dg (x % 256 ^ (s + 1) * y) (s + k) := by
  rw [dg_hi, pr_step, dg_sh]; exact ck_dig _ _ _ _
theorem row_succ (x y s k : Nat) {v : Nat} (hv : v = dg (x % 256 ^ (s + 1) * y) (s + k)) : (tb 32 (row x y s k)).set (s + k) (v : Int) = tb 32 (row x y s (k + 1)) := by
  rw [tb_set]
  refine tb_congr fun j _ => ?_
  unfold row
  by_cases e3 : j = s + k
  · subst e3; rw [if_pos rfl, if_pos (by omega), hv]
  · rw [if_neg e3]
    by_cases e4 : j < s + k
    · rw [if_pos e4, if_pos (by omega)]
    · rw [if_neg e4, if_neg (by omega)]
theorem row_top (x y s : Nat) (hy : y < 256 ^ 16) : dg (x % 256 ^ s * y) (s + 16) = 0 := dg_big (pr_lt x y s hy)
theorem row_end (x y s : Nat) (hy : y < 256 ^ 16) : (tb 32 (row x y s 16)).set (s + 16) ((cc x y s 16 : Nat) : Int) = tb 32 (dg (x % 256 ^ (s + 1) * y)) := by
  have e2 := cc_dig x y s 16
  rw [row_top x y s hy, show dg y 16 = 0 from dg_big hy, Nat.mul_zero, Nat.zero_add, Nat.mod_eq_of_lt (by have := cc_lt x y s 16; omega)] at e2
  rw [tb_set]
  refine tb_congr fun j _ => ?_
  unfold row
  by_cases e3 : j = s + 16
  · subst e3; rw [if_pos rfl, ← e2]
  · rw [if_neg e3]
    by_cases e4 : j < s + 16
    · rw [if_pos e4]
    · rw [if_neg e4, dg_big (Nat.lt_of_lt_of_le (pr_lt x y s hy) (Nat.pow_le_pow_right (by decide) (by omega))), dg_big (Nat.lt_of_lt_of_le (pr_lt x y (s + 1) hy) (Nat.pow_le_pow_right (by decide) (by omega)))]
theorem product (x y : Nat) (hx : x < 340282366920938463463374607431768211456) (hy : y < 340282366920938463463374607431768211456) : Pu Tryd.prog 70 #[wv x, wv y] (.agg ((tb 32 (dg (x * y))).map gi).toArray) := Pu.intro fun m => by
  have hlx := tab_len (dg x)
  have hly := tab_len (dg y)
  have hmx := tabm_len (dg x)
  have hmy := tabm_len (dg y)
  have hl0 := tbm_len 32 (fun _ => 0)
  have kx := Wide.bytes x hx
  have ky := Wide.bytes y hy
  have exx : x % 256 ^ 16 = x := Nat.mod_eq_of_lt hx
  have ht := fun s => row_top x y s hy
  have hte := fun s => row_end x y s hy
  clear hx hy
  refine Ct.enterV (by rfl) Tryd.func70 rfl Tryd.ntmps70 rfl (fun w0 Rest => ?_)
  (repeat' (first | ((with_reducible apply At.mixed (id := 2) 8 (.q 0 (.q 1 (.q 2 (.q 3 (.b 4 5 (.l 5 (.x 6 (.x 7 .done))) (.l 4 (.x 6 (.x 7 .done))))))))); exact rfl; kernel_rfl; kernel_rfl; kernel_rfl) | refine zsx ?_ | refine zss ?_ | ((with_reducible apply AtM.bo); exact rfl; exact rfl; exact rfl) | ((first | (with_reducible first | apply At.val | apply AtQ.val) | ((with_reducible first | apply AtM1.valz | apply AtM1.val); exact rfl) | ((with_reducible apply AtM1.val); exact rfl)); (exact zprA); exact rfl) | refine zs0 ?_ | refine zx0 ?_ | ((with_reducible first | apply AtM1.callp | apply AtQ.callp | apply At.callp); kernel_rfl; exact rfl; exact rfl; exact kx) | ((with_reducible first | apply AtM1.callp | apply AtQ.callp | apply At.callp); kernel_rfl; exact rfl; exact rfl; exact ky) | ((with_reducible apply At.storeA); exact rfl; exact rfl; exact rfl; exact all_gi _; exact (by repeat constructor); (first | exact rfl | (first | omega | (simp only [lns] <;> omega))); (first | exact rfl | (first | omega | (simp only [lns] <;> omega)))) | ((with_reducible apply At.box (d := 2)); exact rfl; exact rfl; exact rfl; intro b2) | ((with_reducible apply At.box (d := 3)); exact rfl; exact rfl; exact rfl; intro b3) | ((with_reducible apply At.alloc (d := 4)); exact rfl; exact rfl; intro b4) | ((with_reducible apply At.alloc (d := 5)); exact rfl; exact rfl; intro b5) | ((with_reducible apply At.alloc (d := 6)); exact rfl; exact rfl; intro b6) | ((with_reducible apply At.alloc (d := 7)); exact rfl; exact rfl; intro b7) | (refine zsp ?_ ?_ <;> (intro hc; (try simp only [zhcs, reduceCtorEq] at hc); (try (exfalso; first | contradiction | omega | exact absurd rfl hc | exact absurd (by decide) hc))))))
  all_goals refine At.reblk (b := b5) (cs' := (tb 32 (dg (x % 256 ^ 0 * y))).map gi) (by repeat constructor) ?_ ?_
  all_goals try (rw [Nat.pow_zero, Nat.mod_one, Nat.zero_mul, show tb 32 (dg 0) = tb 32 (fun _ => 0) from tb_congr fun j _ => dg_big (p256 j)]; rfl)
  all_goals (refine At.loopk (σ := Nat) [4, 5, 6, 7] (fun s F0 => (16, .int .i64 (s : Int)) :: F0) (fun s => m) (fun s => .blk b7 77 ((tab (dg y)).map gi) :: .blk b6 77 ((tab (dg x)).map gi) :: .blk b5 93 ((tb 32 (dg (x % 256 ^ s * y))).map gi) :: .blk b4 93 ((tb 32 (fun _ => 0)).map gi) :: Rest) (fun s => s ≤ 16) (fun s => 16 - s) 0 (by rfl) ?_ zsubs zml zente ?_)
  all_goals try exact Nat.zero_le _
  all_goals
    intro s hs
    by_cases h : s < 16
    · (repeat' (first | refine zss ?_ | ((first | (with_reducible first | apply At.val | apply AtQ.val)); (exact zprA); exact rfl) | refine zs0 ?_ | ((with_reducible apply At.box (d := 2)); exact rfl; exact rfl; exact rfl; intro b2) | ((with_reducible apply At.box (d := 3)); exact rfl; exact rfl; exact rfl; intro b3) | ((with_reducible apply At.alloc (d := 4)); exact rfl; exact rfl; intro b4) | ((with_reducible apply At.alloc (d := 5)); exact rfl; exact rfl; intro b5) | ((with_reducible apply At.alloc (d := 6)); exact rfl; exact rfl; intro b6) | ((with_reducible apply At.alloc (d := 7)); exact rfl; exact rfl; intro b7) | (refine zsp ?_ ?_ <;> (intro hc; (try simp only [zhcs, reduceCtorEq] at hc); (try (exfalso; first | omega | contradiction | omega | exact absurd rfl hc | exact absurd (by decide) hc))))))
      refine At.reblk (b := b5) (cs' := (tb 32 (row x y s 0)).map gi) (by repeat constructor) (by rw [row_zero]) ?_
      (refine At.loopk (σ := PS) [4, 5, 6, 7, 8, 16] (fun q F0 => (19, .int .i64 (q.k : Int)) :: (9, .int .i64 (q.c : Int)) :: F0) (fun q => m) (fun q => .blk b7 77 ((tab (dg y)).map gi) :: .blk b6 77 ((tab (dg x)).map gi) :: .blk b5 93 ((tb 32 (row x y s q.k)).map gi) :: .blk b4 93 ((tb 32 (fun _ => 0)).map gi) :: Rest) (fun q => q.k ≤ 16 ∧ q.c = cc x y s q.k) (fun q => 16 - q.k) ⟨0, 0⟩ (by rfl) ?_ zsubs zml zente ?_)
      · exact ⟨Nat.zero_le _, (cc_zero x y s).symm⟩
      rintro ⟨k, c⟩ ⟨hk, hck⟩
      dsimp only at hk hck ⊢
      have hc256 : c < 256 := hck ▸ cc_lt x y s k
      have hlk := tb_len 32 (row x y s k)
      by_cases hk16 : k < 16
      · have h1 := dg_lt (x % 256 ^ s * y) (s + k)
        have h2 := dg_lt y k
        have h3 := dg_lt x s
        have e1 := cc_succ x y s k
        have e2 := cc_dig x y s k
        have ep := row_at x y s k
        rw [← hck] at e1 e2
        have hu : dg x s * dg y k ≤ 255 * 255 := Nat.mul_le_mul (by omega) (by omega)
        have m1 : IntKind.wrap .i64 (((dg x s : Nat) : Int) * ((dg y k : Nat) : Int)) = ((dg x s * dg y k : Nat) : Int) := by rw [← Int.natCast_mul, IntKind.wrap_i64]; omega
        generalize dg x s * dg y k = u at hu e1 e2 m1
        generalize dg (x % 256 ^ s * y) (s + k) = p at h1 e1 e2 ep
        have e3 := row_succ x y s k e2
        rw [show (((p + u + c) % 256 : Nat) : Int) = ((p : Int) + (u : Int) + (c : Int)) % 256 by omega] at e3
        clear e2 hck
        (repeat' (first | refine zss ?_ | ((first | (with_reducible first | apply At.val | apply AtQ.val)); (first | exact pr_load_tb (k := s + k) (v := p) (by rfl) (by first | exact pk0 | exact pk1 | exact pk2 | exact pk3 | exact pk4) (by rfl) (by omega) ep | exact pr_indexArr1 (k := s + k) (by rfl) (by rfl) (by rfl) (by rfl) (by omega) | exact pr_load_tab (k := s) (by rfl) (by first | exact pk0 | exact pk1 | exact pk2 | exact pk3 | exact pk4) (by rfl) (by omega) | exact pr_load_tab (k := k) (by rfl) (by first | exact pk0 | exact pk1 | exact pk2 | exact pk3 | exact pk4) (by rfl) (by omega) | exact pr_mul (by rfl) (by rfl) m1 | exact zprA); exact rfl) | refine zs0 ?_ | ((with_reducible apply At.storeArr (g := gi) ((((p : Int) + (u : Int) + (c : Int)) % 256))); exact rfl; exact rfl; exact rfl; exact rfl; exact rfl; exact rfl; exact (by repeat constructor); (first | omega | (simp only [lns] <;> omega))) | ((with_reducible apply At.box (d := 2)); exact rfl; exact rfl; exact rfl; intro b2) | ((with_reducible apply At.box (d := 3)); exact rfl; exact rfl; exact rfl; intro b3) | ((with_reducible apply At.alloc (d := 4)); exact rfl; exact rfl; intro b4) | ((with_reducible apply At.alloc (d := 5)); exact rfl; exact rfl; intro b5) | ((with_reducible apply At.alloc (d := 6)); exact rfl; exact rfl; intro b6) | ((with_reducible apply At.alloc (d := 7)); exact rfl; exact rfl; intro b7) | (refine zsp ?_ ?_ <;> (intro hc; (try simp only [zhcs, reduceCtorEq] at hc); (try (exfalso; first | omega | contradiction | omega | exact absurd rfl hc | exact absurd (by decide) hc))))))
        rw [e3]
        ((with_reducible refine At.reachk (⟨k + 1, (p + u + c) / 256⟩) ?_ ?_ ?_ ?_); exact zsubs; exact zml; exact zente; exact ⟨⟨Nat.succ_le_of_lt hk16, e1⟩, by show 16 - (k + 1) < 16 - k; omega⟩)
      · have ek : k = 16 := by omega
        subst ek
        have ep := (row_at x y s 16).trans (ht s)
        have e3 := hte s
        rw [← hck] at e3
        clear hck
        (repeat' (first | refine zss ?_ | ((first | (with_reducible first | apply At.val | apply AtQ.val)); (first | exact pr_load_tb (k := s + 16) (v := 0) (by rfl) (by first | exact pk0 | exact pk1 | exact pk2 | exact pk3 | exact pk4) (by rfl) (by omega) ep | exact pr_indexArr1 (k := s + 16) (by rfl) (by rfl) (by rfl) (by rfl) (by omega) | exact zprA); exact rfl) | refine zs0 ?_ | ((with_reducible apply At.storeArr (g := gi) ((((0 : Nat) : Int) + (c : Int)))); exact rfl; exact rfl; exact rfl; exact rfl; exact rfl; exact rfl; exact (by repeat constructor); (first | omega | (simp only [lns] <;> omega))) | ((with_reducible apply At.box (d := 2)); exact rfl; exact rfl; exact rfl; intro b2) | ((with_reducible apply At.box (d := 3)); exact rfl; exact rfl; exact rfl; intro b3) | ((with_reducible apply At.alloc (d := 4)); exact rfl; exact rfl; intro b4) | ((with_reducible apply At.alloc (d := 5)); exact rfl; exact rfl; intro b5) | ((with_reducible apply At.alloc (d := 6)); exact rfl; exact rfl; intro b6) | ((with_reducible apply At.alloc (d := 7)); exact rfl; exact rfl; intro b7) | (refine zsp ?_ ?_ <;> (intro hc; (try simp only [zhcs, reduceCtorEq] at hc); (try (exfalso; first | omega | contradiction | omega | exact absurd rfl hc | exact absurd (by decide) hc))))))
        rw [show ((0 : Nat) : Int) + (c : Int) = (c : Int) by omega, e3]
        ((with_reducible refine At.reachk ((s + 1)) ?_ ?_ ?_ ?_); exact zsubs; exact zml; exact zente; exact ⟨by omega, by omega⟩)
    · have e16 : s = 16 := by omega
      subst e16
      rw [exx]
      have hl1 := tbm_len 32 (dg (x * y))
      (repeat' (first | refine zss ?_ | ((first | (with_reducible first | apply At.val | apply AtQ.val)); (exact zprA); exact rfl) | refine zs0 ?_ | ((with_reducible apply At.storeA); exact rfl; exact rfl; exact rfl; exact all_gi _; exact (by repeat constructor); (first | exact rfl | (first | omega | (simp only [lns] <;> omega))); (first | exact rfl | (first | omega | (simp only [lns] <;> omega)))) | ((with_reducible apply At.box (d := 2)); exact rfl; exact rfl; exact rfl; intro b2) | ((with_reducible apply At.box (d := 3)); exact rfl; exact rfl; exact rfl; intro b3) | ((with_reducible apply At.alloc (d := 4)); exact rfl; exact rfl; intro b4) | ((with_reducible apply At.alloc (d := 5)); exact rfl; exact rfl; intro b5) | ((with_reducible apply At.alloc (d := 6)); exact rfl; exact rfl; intro b6) | ((with_reducible apply At.alloc (d := 7)); exact rfl; exact rfl; intro b7) | (refine zsp ?_ ?_ <;> (intro hc; (try simp only [zhcs, reduceCtorEq] at hc); (try (exfalso; first | omega | contradiction | omega | exact absurd rfl hc | exact absurd (by decide) hc))))))
      all_goals ((with_reducible apply At.retV (B := [])); exact rfl; (repeat' (first | exact RVs.nil | (with_reducible apply RVs.cons) | exact rv_tmp (by rfl) | exact rv_cellN (by rfl) (by repeat constructor) (by rfl) (by rfl) (by rfl) | exact rv_cell1 (by rfl) (by repeat constructor) (by rfl) (by rfl) | exact rv_cellA (by rfl) (by repeat constructor) (by rfl) (by rfl) zlq)); exact zml; exact zkp; exact ⟨rfl, rfl, rfl⟩)
end Ra
end Go.Proofs.YtmnlmmbfjfgfeaaDoor
/- Ratios, the document's: Check, and which is less. -/
set_option linter.unusedSimpArgs false
set_option linter.unusedVariables false
set_option linter.unusedSectionVars false
set_option maxRecDepth 20000
set_option maxHeartbeats 4000000
namespace Go.Proofs.YtmnlmmbfjfgfeaaDoor
open Go Go.J
attribute [local irreducible] At AtQ AtM AtM1 PR Ct Pu Rd Res.blk Res.own Res.ex RVs RV
namespace Ra
open Wide
/-- the document's 1 as it was laid -/
def One (m : Mem) : Prop := ∀ w : World, (∀ k o, m k = some o → w.heap[k]? = some o) → ∀ j, j < 2 → w.cell? ⟨2, j, none⟩ = (wd 1)[j]?
theorem One.mono {m m' : Mem} (h : One m) (hm : m.le m') : One m' := fun w hw => h w fun k o hk => hw k o (hm k o hk)
theorem pr_load_one {n : Nat} {w0 : World} {F : Fr} {m : Mem} {Rs : List Res} {x : Operand} {t : TypeId} (h : One m) (hx : ev F x = some (.pointer (some ⟨2, 0, none⟩))) (ht : isAggB Tryd.prog t = some true) (hs : sizeB Tryd.prog t = some 2) :
    PR Tryd.prog n F (HW w0 m Rs) (.load t x) (wv 1) := pr_loadN (vs := wd 1) ht hx hs fun w hw j hj => by
  have := h w hw.mem j hj
  rw [Nat.zero_add]
  exact this
theorem check_r {m : Mem} (h1' : One m) (n d : Nat) (hn : n < 340282366920938463463374607431768211456) (hd : d < 340282366920938463463374607431768211456) : Rd Tryd.prog 36 #[rv n d] m [] (.int .i64 (chk n d)) := by
  unfold Rd
  have k2 := gcd_r whole_r n d hn hd
  unfold chk
  by_cases h0 : d = 0
  · rw [if_pos (.inl h0)]
    subst h0
    refine Ct.enterV (by rfl) Tryd.func36 rfl Tryd.ntmps36 rfl (fun w0 Rest => ?_)
    (repeat' (first | refine zss ?_ | ((first | (with_reducible first | apply At.val | apply AtQ.val)); (first | exact pr_weq (a := 0) (b := 0) (by rfl) (by rfl) | exact zprA); exact rfl) | refine zs0 ?_ | ((with_reducible apply At.box (d := 1)); exact rfl; exact rfl; exact rfl; intro b1) | (refine zsp ?_ ?_ <;> (intro hc; (try simp only [zhcs, reduceCtorEq] at hc); (try (exfalso; first | contradiction | omega | exact absurd rfl hc | exact absurd (by decide) hc))))))
    all_goals ((with_reducible apply At.retB1 (B := [])); exact rfl; exact rfl; exact zml; exact zkp; exact ⟨rfl, rfl, rfl⟩)
  · have e0 : decide (d = 0) = false := decide_eq_false h0
    have pw : ∀ {n' : Nat} {F : Fr} {C : World → Prop} {x y : Operand} {u : TypeId}, ev F x = some (wv d) → ev F y = some (wv 0) → PR Tryd.prog n' F C (.binOp .eql 25 x y u) (.bool false) := fun hx hy => by rw [← e0]; exact pr_weq hx hy
    obtain ⟨g, hg⟩ : ∃ g, Nat.gcd n d = g := ⟨_, rfl⟩
    rw [hg] at k2
    by_cases h1 : g = 1
    · rw [if_neg (by rw [hg]; rintro (h | h); exact h0 h; exact h h1)]
      clear hg
      subst h1
      refine Ct.enterV (by rfl) Tryd.func36 rfl Tryd.ntmps36 rfl (fun w0 Rest => ?_)
      (repeat' (first | refine zss ?_ | ((first | (with_reducible first | apply At.val | apply AtQ.val)); (first | exact pw (by rfl) (by rfl) | exact pr_load_one h1' (by rfl) (by rfl) (by rfl) | exact pr_wne (a := 1) (b := 1) (by rfl) (by rfl) | exact zprA); exact rfl) | refine zs0 ?_ | ((with_reducible first | apply AtM1.callp | apply AtQ.callp | apply At.callp); kernel_rfl; exact rfl; exact rfl; exact k2) | ((with_reducible apply At.box (d := 1)); exact rfl; exact rfl; exact rfl; intro b1) | (refine zsp ?_ ?_ <;> (intro hc; (try simp only [zhcs, reduceCtorEq] at hc); (try (exfalso; first | contradiction | omega | exact absurd rfl hc | exact absurd (by decide) hc))))))
      all_goals ((with_reducible apply At.retB1 (B := [])); exact rfl; exact rfl; exact zml; exact zkp; exact ⟨rfl, rfl, rfl⟩)
    · rw [if_pos (by rw [hg]; exact .inr h1)]
      have e : (!decide (g = 1)) = true := by rw [decide_eq_false h1]; rfl
      have pw2 : ∀ {n' : Nat} {F : Fr} {C : World → Prop} {x y : Operand} {u : TypeId}, ev F x = some (wv g) → ev F y = some (wv 1) → PR Tryd.prog n' F C (.binOp .neq 25 x y u) (.bool true) := fun hx hy => by rw [← e]; exact pr_wne hx hy
      refine Ct.enterV (by rfl) Tryd.func36 rfl Tryd.ntmps36 rfl (fun w0 Rest => ?_)
      (repeat' (first | refine zss ?_ | ((first | (with_reducible first | apply At.val | apply AtQ.val)); (first | exact pw (by rfl) (by rfl) | exact pr_load_one h1' (by rfl) (by rfl) (by rfl) | exact pw2 (by rfl) (by rfl) | exact zprA); exact rfl) | refine zs0 ?_ | ((with_reducible first | apply AtM1.callp | apply AtQ.callp | apply At.callp); kernel_rfl; exact rfl; exact rfl; exact k2) | ((with_reducible apply At.box (d := 1)); exact rfl; exact rfl; exact rfl; intro b1) | (refine zsp ?_ ?_ <;> (intro hc; (try simp only [zhcs, reduceCtorEq] at hc); (try (exfalso; first | contradiction | omega | exact absurd rfl hc | exact absurd (by decide) hc))))))
      all_goals ((with_reducible apply At.retB1 (B := [])); exact rfl; exact rfl; exact zml; exact zkp; exact ⟨rfl, rfl, rfl⟩)
instance : Fl (fun x => [gi x]) 1 := ⟨fun _ => rfl, fun x v h => by simp at h; subst h; rfl, by decide⟩
theorem over (X : Nat) (hX : X < 256 ^ 32) : Pu Tryd.prog 71 #[.agg ((tb 32 (dg X)).map gi).toArray] (.bool (decide (340282366920938463463374607431768211456 ≤ X))) := Pu.intro fun m => by
  have hl := tbm_len 32 (dg X)
  have hl1 := tb_len 32 (dg X)
  have hl2 : ((tb 32 (dg X)).drop 16).length = 16 := by rw [List.length_drop, hl1]
  have hb : X / 256 ^ 16 < 256 ^ 16 := by rw [Nat.div_lt_iff_lt_mul (p256 16)]; exact hX
  refine Ct.enterV (by rfl) Tryd.func71 rfl Tryd.ntmps71 rfl (fun w0 Rest => ?_)
  (repeat' (first | refine zss ?_ | ((first | (with_reducible first | apply At.val | apply AtQ.val)); (first | exact pr_slice_arrl (lo := 16) (by rfl) (by rfl) (by rfl) (by rfl) (by decide) | exact zprA); exact rfl) | refine zs0 ?_ | ((with_reducible apply At.boxA (d := 1)); exact rfl; exact rfl; intro b1) | ((with_reducible apply At.box (d := 1)); exact rfl; exact rfl; exact rfl; intro b1) | (refine zsp ?_ ?_ <;> (intro hc; (try simp only [zhcs, reduceCtorEq] at hc); (try (exfalso; first | contradiction | omega | exact absurd rfl hc | exact absurd (by decide) hc))))))
  (refine At.loopk (σ := Nat) [5, 6] (fun s F0 => (7, .int .i64 (s : Int)) :: F0) (fun s => m) (fun s => .blk b1 93 ((tb 32 (dg X)).map gi) :: Rest) (fun s => s ≤ 16 ∧ X / 256 ^ 16 % 256 ^ s = 0) (fun s => 16 - s) 0 (by rfl) ?_ zsubs zml zente ?_)
  · exact ⟨Nat.zero_le _, by rw [Nat.pow_zero, Nat.mod_one]⟩
  rintro s ⟨hs, hz⟩
  by_cases h : s < 16
  · have hd := dg_hi X 16 s
    have hsu := dig_succ (X / 256 ^ 16) s
    rw [hz, Nat.zero_add] at hsu
    rw [← hd] at hsu
    have hdv : dg X (16 + s * 1) = dg X (16 + s) := by rw [Nat.mul_one]
    by_cases h0 : dg X (16 + s) = 0
    · rw [h0, Nat.mul_zero] at hsu
      rw [h0] at hdv
      clear hb hX hz hd
      (repeat' (first | refine zss ?_ | ((first | (with_reducible first | apply At.val | apply AtQ.val)); (first | exact pr_indexAddr (blk_rdbl (g := gi) (o := 16) (by repeat constructor) hl2) (by rfl) (by rfl) (by rfl) (by rfl) hl2.symm (by omega) | exact pr_load_tb (k := 16 + s * 1) (v := 0) (by rfl) (by repeat constructor) (by rfl) (by omega) hdv | exact zprA); exact rfl) | refine zs0 ?_ | ((with_reducible apply At.box (d := 1)); exact rfl; exact rfl; exact rfl; intro b1) | (refine zsp ?_ ?_ <;> (intro hc; (try simp only [zhcs, reduceCtorEq] at hc); (try (exfalso; first | omega | contradiction | omega | exact absurd rfl hc | exact absurd (by decide) hc))))))
      all_goals ((with_reducible refine At.reachk ((s + 1)) ?_ ?_ ?_ ?_); exact zsubs; exact zml; exact zente; exact ⟨⟨by omega, hsu⟩, by omega⟩)
    · rw [show decide (340282366920938463463374607431768211456 ≤ X) = true from decide_eq_true (by
        apply Nat.le_of_not_lt
        intro hlt
        apply h0
        rw [hd]
        rw [show X / 256 ^ 16 = 0 from Nat.div_eq_of_lt hlt]
        exact dg_big (p256 s))]
      generalize dg X (16 + s) = v at h0 hdv
      have h0' : ¬ (v : Int) = 0 := by omega
      clear hb hX hz hd hsu
      (repeat' (first | refine zss ?_ | ((first | (with_reducible first | apply At.val | apply AtQ.val)); (first | exact pr_indexAddr (blk_rdbl (g := gi) (o := 16) (by repeat constructor) hl2) (by rfl) (by rfl) (by rfl) (by rfl) hl2.symm (by omega) | exact pr_load_tb (k := 16 + s * 1) (v := v) (by rfl) (by repeat constructor) (by rfl) (by omega) hdv | exact zprA); exact rfl) | refine zs0 ?_ | ((with_reducible apply At.box (d := 1)); exact rfl; exact rfl; exact rfl; intro b1) | (refine zsp ?_ ?_ <;> (intro hc; (try simp only [zhcs, reduceCtorEq] at hc); (try (exfalso; first | (first | omega | exact absurd hc h0') | contradiction | omega | exact absurd rfl hc | exact absurd (by decide) hc))))))
      all_goals ((with_reducible apply At.retB1 (B := [])); exact rfl; exact rfl; exact zml; exact zkp; exact ⟨rfl, rfl, rfl⟩)
  · have e16 : s = 16 := by omega
    subst e16
    rw [Nat.mod_eq_of_lt hb] at hz
    rw [show decide (340282366920938463463374607431768211456 ≤ X) = false from decide_eq_false (by
      intro hle
      have := Nat.div_le_div_right (c := 256 ^ 16) hle
      rw [hz] at this
      exact absurd this (by decide))]
    clear hb hX hz
    (repeat' (first | refine zss ?_ | ((first | (with_reducible first | apply At.val | apply AtQ.val)); (exact zprA); exact rfl) | refine zs0 ?_ | ((with_reducible apply At.box (d := 1)); exact rfl; exact rfl; exact rfl; intro b1) | (refine zsp ?_ ?_ <;> (intro hc; (try simp only [zhcs, reduceCtorEq] at hc); (try (exfalso; first | omega | contradiction | omega | exact absurd rfl hc | exact absurd (by decide) hc))))))
    all_goals ((with_reducible apply At.retB1 (B := [])); exact rfl; exact rfl; exact zml; exact zkp; exact ⟨rfl, rfl, rfl⟩)
end Ra
end Go.Proofs.YtmnlmmbfjfgfeaaDoor
/- Ratios, the document's: which is less. -/
set_option linter.unusedSimpArgs false
set_option linter.unusedVariables false
set_option linter.unusedSectionVars false
set_option maxRecDepth 20000
set_option maxHeartbeats 4000000
namespace Go.Proofs.YtmnlmmbfjfgfeaaDoor
open Go Go.J
attribute [local irreducible] At AtQ AtM AtM1 PR Ct Pu Rd Res.blk Res.own Res.ex RVs RV
namespace Ra
open Wide
theorem sE_big (x : Nat) : decide (340282366920938463463374607431768211456 ≤ x) = decide (sE x ≠ 0) := by
  unfold sE
  by_cases h : x < 340282366920938463463374607431768211456
  · rw [if_pos h, decide_eq_false (by omega), decide_eq_false (by decide)]
  · rw [if_neg h, decide_eq_true (by omega), decide_eq_true (by decide)]
theorem mul_lt32 {x y : Nat} (hx : x < 340282366920938463463374607431768211456) (hy : y < 340282366920938463463374607431768211456) : x * y < 256 ^ 32 := by
  have e : (256 : Nat) ^ 32 = 340282366920938463463374607431768211456 * 340282366920938463463374607431768211456 := by decide
  rw [e]
  exact Nat.mul_lt_mul'' hx hy
theorem less_rr {m : Mem} (h1' : One m) (a b c d : Nat) (ha : a < 340282366920938463463374607431768211456) (hb : b < 340282366920938463463374607431768211456) (hc' : c < 340282366920938463463374607431768211456) (hd : d < 340282366920938463463374607431768211456) :
    Rd Tryd.prog 46 #[rv a b, rv c d] m [] (.tuple #[.bool (les a b c d).1, .int .i64 (les a b c d).2]) := by
  unfold Rd
  have k1 := fun (m' : Mem) (hm' : m.le m') => check_r (m := m') (h1'.mono hm') a b ha hb
  have k2 := fun (m' : Mem) (hm' : m.le m') => check_r (m := m') (h1'.mono hm') c d hc' hd
  have k3 := product a d ha hd
  have k4 := product c b hc' hb
  have k5 := over (a * d) (mul_lt32 ha hd)
  have k6 := over (c * b) (mul_lt32 hc' hb)
  have hX := mul_lt32 ha hd
  have hY := mul_lt32 hc' hb
  rw [sE_big] at k5 k6
  unfold les
  clear ha hb hc' hd
  by_cases h1 : chk a b = 0
  rotate_left
  · rw [if_pos (.inl h1)]
    generalize chk a b = e1 at k1 h1
    clear hX hY
    refine Ct.enterV (by rfl) Tryd.func46 rfl Tryd.ntmps46 rfl (fun w0 Rest => ?_)
    (repeat' (first | refine zss ?_ | ((first | (with_reducible first | apply At.val | apply AtQ.val)); (exact zprA); exact rfl) | refine zs0 ?_ | ((with_reducible first | apply AtM1.cr | apply AtQ.cr | apply At.cr); exact rfl; exact rfl; exact fun _ hmm => k1 _ hmm; exact ztk; kernel_rfl) | ((with_reducible apply At.box (d := 2)); exact rfl; exact rfl; exact rfl; intro b2) | ((with_reducible apply At.box (d := 3)); exact rfl; exact rfl; exact rfl; intro b3) | ((with_reducible apply At.alloc (d := 6)); exact rfl; exact rfl; intro b6) | ((with_reducible apply At.alloc (d := 7)); exact rfl; exact rfl; intro b7) | (refine zsp ?_ ?_ <;> (intro hc; (try simp only [zhcs, reduceCtorEq] at hc); (try (exfalso; first | (first | omega | exact absurd hc h1) | contradiction | omega | exact absurd rfl hc | exact absurd (by decide) hc))))))
    all_goals ((with_reducible apply At.retV (B := [])); exact rfl; (repeat' (first | exact RVs.nil | (with_reducible apply RVs.cons) | exact rv_tmp (by rfl) | exact rv_cellN (by rfl) (by repeat constructor) (by rfl) (by rfl) (by rfl) | exact rv_cell1 (by rfl) (by repeat constructor) (by rfl) (by rfl) | exact rv_cellA (by rfl) (by repeat constructor) (by rfl) (by rfl) zlq)); exact zml; exact zkp; exact ⟨rfl, rfl, rfl⟩)
  by_cases h2 : chk c d = 0
  rotate_left
  · rw [if_pos (.inr h2)]
    rw [h1] at k1
    generalize chk c d = e2 at k2 h2
    clear hX hY
    refine Ct.enterV (by rfl) Tryd.func46 rfl Tryd.ntmps46 rfl (fun w0 Rest => ?_)
    (repeat' (first | refine zss ?_ | ((first | (with_reducible first | apply At.val | apply AtQ.val)); (exact zprA); exact rfl) | refine zs0 ?_ | ((with_reducible first | apply AtM1.cr | apply AtQ.cr | apply At.cr); exact rfl; exact rfl; exact fun _ hmm => k1 _ hmm; exact ztk; kernel_rfl) | ((with_reducible first | apply AtM1.cr | apply AtQ.cr | apply At.cr); exact rfl; exact rfl; exact fun _ hmm => k2 _ hmm; exact ztk; kernel_rfl) | ((with_reducible apply At.box (d := 2)); exact rfl; exact rfl; exact rfl; intro b2) | ((with_reducible apply At.box (d := 3)); exact rfl; exact rfl; exact rfl; intro b3) | ((with_reducible apply At.alloc (d := 6)); exact rfl; exact rfl; intro b6) | ((with_reducible apply At.alloc (d := 7)); exact rfl; exact rfl; intro b7) | (refine zsp ?_ ?_ <;> (intro hc; (try simp only [zhcs, reduceCtorEq] at hc); (try (exfalso; first | (first | omega | exact absurd hc h2) | contradiction | omega | exact absurd rfl hc | exact absurd (by decide) hc))))))
    all_goals ((with_reducible apply At.retV (B := [])); exact rfl; (repeat' (first | exact RVs.nil | (with_reducible apply RVs.cons) | exact rv_tmp (by rfl) | exact rv_cellN (by rfl) (by repeat constructor) (by rfl) (by rfl) (by rfl) | exact rv_cell1 (by rfl) (by repeat constructor) (by rfl) (by rfl) | exact rv_cellA (by rfl) (by repeat constructor) (by rfl) (by rfl) zlq)); exact zml; exact zkp; exact ⟨rfl, rfl, rfl⟩)
  rw [if_neg (by rintro (h | h); exact h h1; exact h h2)]
  rw [h1] at k1
  rw [h2] at k2
  have hl1 := tbm_len 32 (dg (a * d))
  have hl2 := tbm_len 32 (dg (c * b))
  by_cases h3 : sE (a * d) = 0
  rotate_left
  · rw [if_pos (.inl h3)]
    rw [decide_eq_true h3] at k5
    clear hX hY h3 k6
    refine Ct.enterV (by rfl) Tryd.func46 rfl Tryd.ntmps46 rfl (fun w0 Rest => ?_)
    (repeat' (first | ((with_reducible apply At.mixed (id := 3) 14 (.q 0 (.q 1 (.q 2 (.q 3 (.q 4 (.q 5 (.q 6 (.q 7 (.q 8 (.q 9 (.b 10 11 (.l 11 (.x 12 (.x 13 .done))) (.l 10 (.x 12 (.x 13 .done))))))))))))))); exact rfl; kernel_rfl; kernel_rfl; kernel_rfl) | refine zsx ?_ | refine zss ?_ | ((with_reducible apply AtM.bo); exact rfl; exact rfl; exact rfl) | ((first | (with_reducible first | apply At.val | apply AtQ.val) | ((with_reducible first | apply AtM1.valz | apply AtM1.val); exact rfl) | ((with_reducible apply AtM1.val); exact rfl)); (exact zprA); exact rfl) | refine zs0 ?_ | refine zx0 ?_ | ((with_reducible first | apply AtM1.cr | apply AtQ.cr | apply At.cr); exact rfl; exact rfl; exact fun _ hmm => k1 _ hmm; exact ztk; kernel_rfl) | ((with_reducible first | apply AtM1.cr | apply AtQ.cr | apply At.cr); exact rfl; exact rfl; exact fun _ hmm => k2 _ hmm; exact ztk; kernel_rfl) | ((with_reducible first | apply AtM1.callp | apply AtQ.callp | apply At.callp); kernel_rfl; exact rfl; exact rfl; exact k3) | ((with_reducible first | apply AtM1.callp | apply AtQ.callp | apply At.callp); kernel_rfl; exact rfl; exact rfl; exact k4) | ((with_reducible first | apply AtM1.callp | apply AtQ.callp | apply At.callp); kernel_rfl; exact rfl; exact rfl; exact k5) | ((with_reducible apply At.storeA); exact rfl; exact rfl; exact rfl; exact all_gi _; exact (by repeat constructor); (first | exact rfl | (first | omega | (simp only [lns] <;> omega))); (first | exact rfl | (first | omega | (simp only [lns] <;> omega)))) | ((with_reducible apply At.box (d := 2)); exact rfl; exact rfl; exact rfl; intro b2) | ((with_reducible apply At.box (d := 3)); exact rfl; exact rfl; exact rfl; intro b3) | ((with_reducible apply At.alloc (d := 6)); exact rfl; exact rfl; intro b6) | ((with_reducible apply At.alloc (d := 7)); exact rfl; exact rfl; intro b7) | (refine zsp ?_ ?_ <;> (intro hc; (try simp only [zhcs, reduceCtorEq] at hc); (try (exfalso; first | contradiction | omega | exact absurd rfl hc | exact absurd (by decide) hc))))))
    all_goals ((with_reducible apply At.retV (B := [])); exact rfl; (repeat' (first | exact RVs.nil | (with_reducible apply RVs.cons) | exact rv_tmp (by rfl) | exact rv_cellN (by rfl) (by repeat constructor) (by rfl) (by rfl) (by rfl) | exact rv_cell1 (by rfl) (by repeat constructor) (by rfl) (by rfl) | exact rv_cellA (by rfl) (by repeat constructor) (by rfl) (by rfl) zlq)); exact zml; exact zkp; exact ⟨rfl, rfl, rfl⟩)
  rw [decide_eq_false (not_not_intro h3)] at k5
  by_cases h4 : sE (c * b) = 0
  rotate_left
  · rw [if_pos (.inr h4)]
    rw [decide_eq_true h4] at k6
    clear hX hY h3 h4
    refine Ct.enterV (by rfl) Tryd.func46 rfl Tryd.ntmps46 rfl (fun w0 Rest => ?_)
    (repeat' (first | ((with_reducible apply At.mixed (id := 3) 14 (.q 0 (.q 1 (.q 2 (.q 3 (.q 4 (.q 5 (.q 6 (.q 7 (.q 8 (.q 9 (.b 10 11 (.l 11 (.x 12 (.x 13 .done))) (.l 10 (.x 12 (.x 13 .done))))))))))))))); exact rfl; kernel_rfl; kernel_rfl; kernel_rfl) | refine zsx ?_ | refine zss ?_ | ((with_reducible apply AtM.bo); exact rfl; exact rfl; exact rfl) | ((first | (with_reducible first | apply At.val | apply AtQ.val) | ((with_reducible first | apply AtM1.valz | apply AtM1.val); exact rfl) | ((with_reducible apply AtM1.val); exact rfl)); (exact zprA); exact rfl) | refine zs0 ?_ | refine zx0 ?_ | ((with_reducible first | apply AtM1.cr | apply AtQ.cr | apply At.cr); exact rfl; exact rfl; exact fun _ hmm => k1 _ hmm; exact ztk; kernel_rfl) | ((with_reducible first | apply AtM1.cr | apply AtQ.cr | apply At.cr); exact rfl; exact rfl; exact fun _ hmm => k2 _ hmm; exact ztk; kernel_rfl) | ((with_reducible first | apply AtM1.callp | apply AtQ.callp | apply At.callp); kernel_rfl; exact rfl; exact rfl; exact k3) | ((with_reducible first | apply AtM1.callp | apply AtQ.callp | apply At.callp); kernel_rfl; exact rfl; exact rfl; exact k4) | ((with_reducible first | apply AtM1.callp | apply AtQ.callp | apply At.callp); kernel_rfl; exact rfl; exact rfl; exact k5) | ((with_reducible first | apply AtM1.callp | apply AtQ.callp | apply At.callp); kernel_rfl; exact rfl; exact rfl; exact k6) | ((with_reducible apply At.storeA); exact rfl; exact rfl; exact rfl; exact all_gi _; exact (by repeat constructor); (first | exact rfl | (first | omega | (simp only [lns] <;> omega))); (first | exact rfl | (first | omega | (simp only [lns] <;> omega)))) | ((with_reducible apply At.box (d := 2)); exact rfl; exact rfl; exact rfl; intro b2) | ((with_reducible apply At.box (d := 3)); exact rfl; exact rfl; exact rfl; intro b3) | ((with_reducible apply At.alloc (d := 6)); exact rfl; exact rfl; intro b6) | ((with_reducible apply At.alloc (d := 7)); exact rfl; exact rfl; intro b7) | (refine zsp ?_ ?_ <;> (intro hc; (try simp only [zhcs, reduceCtorEq] at hc); (try (exfalso; first | contradiction | omega | exact absurd rfl hc | exact absurd (by decide) hc))))))
    all_goals ((with_reducible apply At.retV (B := [])); exact rfl; (repeat' (first | exact RVs.nil | (with_reducible apply RVs.cons) | exact rv_tmp (by rfl) | exact rv_cellN (by rfl) (by repeat constructor) (by rfl) (by rfl) (by rfl) | exact rv_cell1 (by rfl) (by repeat constructor) (by rfl) (by rfl) | exact rv_cellA (by rfl) (by repeat constructor) (by rfl) (by rfl) zlq)); exact zml; exact zkp; exact ⟨rfl, rfl, rfl⟩)
  rw [decide_eq_false (not_not_intro h4)] at k6
  rw [if_neg (by rintro (h | h); exact h h3; exact h h4)]
  clear h1 h2 h3 h4
  generalize a * d = x at k3 k5 hX hl1 ⊢
  generalize c * b = y at k4 k6 hY hl2 ⊢
  have hp1 := tb_len 32 (dg x)
  have hp2 := tb_len 32 (dg y)
  have hz : x / 256 ^ 32 = y / 256 ^ 32 := by rw [Nat.div_eq_of_lt hX, Nat.div_eq_of_lt hY]
  clear hX hY
  refine Ct.enterV (by rfl) Tryd.func46 rfl Tryd.ntmps46 rfl (fun w0 Rest => ?_)
  (repeat' (first | ((with_reducible apply At.mixed (id := 3) 14 (.q 0 (.q 1 (.q 2 (.q 3 (.q 4 (.q 5 (.q 6 (.q 7 (.q 8 (.q 9 (.b 10 11 (.l 11 (.x 12 (.x 13 .done))) (.l 10 (.x 12 (.x 13 .done))))))))))))))); exact rfl; kernel_rfl; kernel_rfl; kernel_rfl) | refine zsx ?_ | refine zss ?_ | ((with_reducible apply AtM.bo); exact rfl; exact rfl; exact rfl) | ((first | (with_reducible first | apply At.val | apply AtQ.val) | ((with_reducible first | apply AtM1.valz | apply AtM1.val); exact rfl) | ((with_reducible apply AtM1.val); exact rfl)); (exact zprA); exact rfl) | refine zs0 ?_ | refine zx0 ?_ | ((with_reducible first | apply AtM1.cr | apply AtQ.cr | apply At.cr); exact rfl; exact rfl; exact fun _ hmm => k1 _ hmm; exact ztk; kernel_rfl) | ((with_reducible first | apply AtM1.cr | apply AtQ.cr | apply At.cr); exact rfl; exact rfl; exact fun _ hmm => k2 _ hmm; exact ztk; kernel_rfl) | ((with_reducible first | apply AtM1.callp | apply AtQ.callp | apply At.callp); kernel_rfl; exact rfl; exact rfl; exact k3) | ((with_reducible first | apply AtM1.callp | apply AtQ.callp | apply At.callp); kernel_rfl; exact rfl; exact rfl; exact k4) | ((with_reducible first | apply AtM1.callp | apply AtQ.callp | apply At.callp); kernel_rfl; exact rfl; exact rfl; exact k5) | ((with_reducible first | apply AtM1.callp | apply AtQ.callp | apply At.callp); kernel_rfl; exact rfl; exact rfl; exact k6) | ((with_reducible apply At.storeA); exact rfl; exact rfl; exact rfl; exact all_gi _; exact (by repeat constructor); (first | exact rfl | (first | omega | (simp only [lns] <;> omega))); (first | exact rfl | (first | omega | (simp only [lns] <;> omega)))) | ((with_reducible apply At.box (d := 2)); exact rfl; exact rfl; exact rfl; intro b2) | ((with_reducible apply At.box (d := 3)); exact rfl; exact rfl; exact rfl; intro b3) | ((with_reducible apply At.alloc (d := 6)); exact rfl; exact rfl; intro b6) | ((with_reducible apply At.alloc (d := 7)); exact rfl; exact rfl; intro b7) | (refine zsp ?_ ?_ <;> (intro hc; (try simp only [zhcs, reduceCtorEq] at hc); (try (exfalso; first | contradiction | omega | exact absurd rfl hc | exact absurd (by decide) hc))))))
  all_goals (refine At.loopk (σ := Nat) [6, 7] (fun s F0 => (8, .int .i64 ((s : Int) - 1)) :: F0) (fun s => m) (fun s => .blk b7 93 ((tb 32 (dg y)).map gi) :: .blk b6 93 ((tb 32 (dg x)).map gi) :: Rest) (fun s => s ≤ 32 ∧ x / 256 ^ s = y / 256 ^ s) (fun s => s) 32 (by rfl) ?_ zsubs zml zente ?_)
  all_goals try exact ⟨Nat.le_refl _, hz⟩
  all_goals
    rintro s ⟨hs, he⟩
    rcases s with _ | s
    · rw [Nat.pow_zero, Nat.div_one, Nat.div_one] at he
      rw [show decide (x < y) = false from decide_eq_false (by omega)]
      clear hz he
      (repeat' (first | refine zss ?_ | ((first | (with_reducible first | apply At.val | apply AtQ.val)); (exact zprA); exact rfl) | refine zs0 ?_ | ((with_reducible apply At.box (d := 2)); exact rfl; exact rfl; exact rfl; intro b2) | ((with_reducible apply At.box (d := 3)); exact rfl; exact rfl; exact rfl; intro b3) | ((with_reducible apply At.alloc (d := 6)); exact rfl; exact rfl; intro b6) | ((with_reducible apply At.alloc (d := 7)); exact rfl; exact rfl; intro b7) | (refine zsp ?_ ?_ <;> (intro hc; (try simp only [zhcs, reduceCtorEq] at hc); (try (exfalso; first | omega | contradiction | omega | exact absurd rfl hc | exact absurd (by decide) hc))))))
      all_goals ((with_reducible apply At.retV (B := [])); exact rfl; (repeat' (first | exact RVs.nil | (with_reducible apply RVs.cons) | exact rv_tmp (by rfl) | exact rv_cellN (by rfl) (by repeat constructor) (by rfl) (by rfl) (by rfl) | exact rv_cell1 (by rfl) (by repeat constructor) (by rfl) (by rfl) | exact rv_cellA (by rfl) (by repeat constructor) (by rfl) (by rfl) zlq)); exact zml; exact zkp; exact ⟨rfl, rfl, rfl⟩)
    · rw [show (((s + 1 : Nat) : Int) - 1) = (s : Int) by omega]
      by_cases hd : dg x s = dg y s
      · have ht : x / 256 ^ s = y / 256 ^ s := by rw [top_dg x s, top_dg y s, he, hd]
        clear hz he
        (repeat' (first | ((with_reducible apply At.mixed (id := 3) 14 (.q 0 (.q 1 (.q 2 (.q 3 (.q 4 (.q 5 (.q 6 (.q 7 (.q 8 (.q 9 (.b 10 11 (.l 11 (.x 12 (.x 13 .done))) (.l 10 (.x 12 (.x 13 .done))))))))))))))); exact rfl; kernel_rfl; kernel_rfl; kernel_rfl) | refine zsx ?_ | refine zss ?_ | ((with_reducible apply AtM.bo); exact rfl; exact rfl; exact rfl) | ((first | (with_reducible first | apply At.val | apply AtQ.val) | ((with_reducible first | apply AtM1.valz | apply AtM1.val); exact rfl) | ((with_reducible apply AtM1.val); exact rfl)); (first | exact pr_load_tb (N := 32) (k := s) (by rfl) (by repeat constructor) (by rfl) (by omega) rfl | exact zprA); exact rfl) | refine zs0 ?_ | refine zx0 ?_ | ((with_reducible apply At.box (d := 2)); exact rfl; exact rfl; exact rfl; intro b2) | ((with_reducible apply At.box (d := 3)); exact rfl; exact rfl; exact rfl; intro b3) | ((with_reducible apply At.alloc (d := 6)); exact rfl; exact rfl; intro b6) | ((with_reducible apply At.alloc (d := 7)); exact rfl; exact rfl; intro b7) | (refine zsp ?_ ?_ <;> (intro hc; (try simp only [zhcs, reduceCtorEq] at hc); (try (exfalso; first | omega | contradiction | omega | exact absurd rfl hc | exact absurd (by decide) hc))))))
        all_goals ((with_reducible refine At.reachk (s) ?_ ?_ ?_ ?_); exact zsubs; exact zml; exact zente; exact ⟨⟨by omega, ht⟩, Nat.lt_succ_self s⟩)
      · have hxy : decide (x < y) = decide (((dg x s : Nat) : Int) < ((dg y s : Nat) : Int)) := by
          by_cases hl : dg x s < dg y s
          · rw [decide_eq_true (lt_dg he hl), decide_eq_true (by omega)]
          · have := lt_dg he.symm (show dg y s < dg x s by omega)
            rw [decide_eq_false (by omega), decide_eq_false (by omega)]
        rw [hxy]
        clear hxy hz he
        (repeat' (first | ((with_reducible apply At.mixed (id := 3) 14 (.q 0 (.q 1 (.q 2 (.q 3 (.q 4 (.q 5 (.q 6 (.q 7 (.q 8 (.q 9 (.b 10 11 (.l 11 (.x 12 (.x 13 .done))) (.l 10 (.x 12 (.x 13 .done))))))))))))))); exact rfl; kernel_rfl; kernel_rfl; kernel_rfl) | refine zsx ?_ | refine zss ?_ | ((with_reducible apply AtM.bo); exact rfl; exact rfl; exact rfl) | ((first | (with_reducible first | apply At.val | apply AtQ.val) | ((with_reducible first | apply AtM1.valz | apply AtM1.val); exact rfl) | ((with_reducible apply AtM1.val); exact rfl)); (first | exact pr_load_tb (N := 32) (k := s) (by rfl) (by repeat constructor) (by rfl) (by omega) rfl | exact zprA); exact rfl) | refine zs0 ?_ | refine zx0 ?_ | ((with_reducible apply At.box (d := 2)); exact rfl; exact rfl; exact rfl; intro b2) | ((with_reducible apply At.box (d := 3)); exact rfl; exact rfl; exact rfl; intro b3) | ((with_reducible apply At.alloc (d := 6)); exact rfl; exact rfl; intro b6) | ((with_reducible apply At.alloc (d := 7)); exact rfl; exact rfl; intro b7) | (refine zsp ?_ ?_ <;> (intro hc; (try simp only [zhcs, reduceCtorEq] at hc); (try (exfalso; first | omega | contradiction | omega | exact absurd rfl hc | exact absurd (by decide) hc))))))
        all_goals ((with_reducible apply At.retV (B := [])); exact rfl; (repeat' (first | exact RVs.nil | (with_reducible apply RVs.cons) | exact rv_tmp (by rfl) | exact rv_cellN (by rfl) (by repeat constructor) (by rfl) (by rfl) (by rfl) | exact rv_cell1 (by rfl) (by repeat constructor) (by rfl) (by rfl) | exact rv_cellA (by rfl) (by repeat constructor) (by rfl) (by rfl) zlq)); exact zml; exact zkp; exact ⟨rfl, rfl, rfl⟩)
end Ra
end Go.Proofs.YtmnlmmbfjfgfeaaDoor
/- Quantiles, the document's: Check, less, Sort, Same. -/
set_option linter.unusedSimpArgs false
set_option linter.unusedVariables false
set_option linter.unusedSectionVars false
set_option maxRecDepth 20000
set_option maxHeartbeats 4000000
namespace Go.Proofs.YtmnlmmbfjfgfeaaDoor
open Go Go.J
attribute [local irreducible] At AtQ AtM AtM1 PR Ct Pu Rd Res.blk Res.own Res.ex RVs RV
namespace Qu
open Wide
theorem check_r {m : Mem} (h1' : Ra.One m) (p : Option Addr) (c : Nat) (l : List (Nat × Nat)) (hl : l.length ≤ 1000000) (hb : ∀ x ∈ l, In2 x) (sl0 : Sl m fd 4 p c l) :
    Rd Tryd.prog 17 #[.slice p l.length c] m [] (.int .i64 (chkL l)) := by
  unfold Rd
  refine Ct.enterV (by rfl) Tryd.func17 rfl Tryd.ntmps17 rfl (fun w0 Rest => ?_)
  (repeat' (first | refine zss ?_ | refine zsM ?_ | ((with_reducible apply At.alloc (d := 4)); exact rfl; exact rfl; intro b4) | ((with_reducible apply At.alloc (d := 6)); exact rfl; exact rfl; intro b6) | (refine zsp ?_ ?_ <;> (intro hc; (try simp only [zhcs, reduceCtorEq] at hc); (try (exfalso; first | omega | contradiction | omega | exact absurd rfl hc | exact absurd (by decide) hc))))))
  (refine At.loopk (σ := Nat) [0, 7, 8] (fun s F0 => (9, .int .i64 (s : Int)) :: F0) (fun s => m) (fun s => Rest) (fun s => s ≤ l.length ∧ (l.take s).any bad = false) (fun s => l.length - s) 0 (by rfl) ?_ zsubs zml zente ?_)
  · exact ⟨Nat.zero_le _, rfl⟩
  rintro i ⟨hi, h1⟩
  by_cases h : i < l.length
  · have hx : In2 l[i]! := hb _ (Ls.mem! h)
    have k1 := fun (m' : Mem) (hm' : m.le m') => Ra.check_r (m := m') (h1'.mono hm') l[i]!.1 l[i]!.2 hx.1 hx.2
    have e1 := any_snoc (f := bad) h
    by_cases hk : Ra.chk l[i]!.1 l[i]!.2 = 0
    · rw [hk] at k1
      rw [h1, show bad l[i]! = false from decide_eq_false (fun e => e hk), Bool.or_false] at e1
      (repeat' (first | refine zss ?_ | refine zsM ?_ | ((with_reducible first | apply AtM1.cr | apply AtQ.cr | apply At.cr); exact rfl; exact rfl; exact fun _ hmm => k1 _ hmm; exact ztk; kernel_rfl) | ((with_reducible apply At.alloc (d := 4)); exact rfl; exact rfl; intro b4) | ((with_reducible apply At.alloc (d := 6)); exact rfl; exact rfl; intro b6) | (refine zsp ?_ ?_ <;> (intro hc; (try simp only [zhcs, reduceCtorEq] at hc); (try (exfalso; first | omega | contradiction | omega | exact absurd rfl hc | exact absurd (by decide) hc))))))
      all_goals ((with_reducible refine At.reachk (i + 1) ?_ ?_ ?_ ?_); exact zsubs; exact zml; exact zente; exact ⟨⟨h, e1⟩, by omega⟩)
    · rw [chk_two hk] at k1
      have e3 : chkL l = 2 := if_pos (List.any_eq_true.2 ⟨_, Ls.mem! h, decide_eq_true hk⟩)
      rw [e3]
      (repeat' (first | refine zss ?_ | refine zsM ?_ | ((with_reducible first | apply AtM1.cr | apply AtQ.cr | apply At.cr); exact rfl; exact rfl; exact fun _ hmm => k1 _ hmm; exact ztk; kernel_rfl) | ((with_reducible apply At.alloc (d := 4)); exact rfl; exact rfl; intro b4) | ((with_reducible apply At.alloc (d := 6)); exact rfl; exact rfl; intro b6) | (refine zsp ?_ ?_ <;> (intro hc; (try simp only [zhcs, reduceCtorEq] at hc); (try (exfalso; first | omega | contradiction | omega | exact absurd rfl hc | exact absurd (by decide) hc))))))
      all_goals ((with_reducible apply At.retB1 (B := [])); exact rfl; exact rfl; exact zml; exact zkp; exact ⟨rfl, rfl, rfl⟩)
  rw [List.take_of_length_le (by omega)] at h1
  have e0 : chkL l = if l.any big = true then 1 else 0 := by unfold chkL; rw [if_neg (by rw [h1]; decide)]
  rw [e0]
  clear e0 h1 h1'
  (repeat' (first | refine zss ?_ | refine zsM ?_ | ((with_reducible apply At.alloc (d := 4)); exact rfl; exact rfl; intro b4) | ((with_reducible apply At.alloc (d := 6)); exact rfl; exact rfl; intro b6) | (refine zsp ?_ ?_ <;> (intro hc; (try simp only [zhcs, reduceCtorEq] at hc); (try (exfalso; first | omega | contradiction | omega | exact absurd rfl hc | exact absurd (by decide) hc))))))
  (refine At.loopk (σ := Nat) [17, 18] (fun s F0 => (19, .int .i64 (s : Int)) :: F0) (fun s => m) (fun s => Rest) (fun s => s ≤ l.length ∧ (l.take s).any big = false) (fun s => l.length - s) 0 (by rfl) ?_ zsubs zml zente ?_)
  · exact ⟨Nat.zero_le _, rfl⟩
  rintro j ⟨hj, h2⟩
  by_cases h' : j < l.length
  · have hx : In2 l[j]! := hb _ (Ls.mem! h')
    have e2 := any_snoc (f := big) h'
    have hx1 := hx.1
    have hx2 := hx.2
    unfold In at hx1 hx2
    by_cases hg : big l[j]! = true
    · have hg' : 18446744073709551616 ≤ l[j]!.1 ∨ 18446744073709551616 ≤ l[j]!.2 := of_decide_eq_true hg
      rw [if_pos (List.any_eq_true.2 ⟨_, Ls.mem! h', hg⟩)]
      clear e2 hg hb
      (repeat' (first | refine zss ?_ | refine zsM ?_ | ((with_reducible apply At.alloc (d := 4)); exact rfl; exact rfl; intro b4) | ((with_reducible apply At.alloc (d := 6)); exact rfl; exact rfl; intro b6) | (refine zsp ?_ ?_ <;> (intro hc; (try simp only [zhcs, reduceCtorEq] at hc); (try (exfalso; first | omega | contradiction | omega | exact absurd rfl hc | exact absurd (by decide) hc))))))
      all_goals ((with_reducible apply At.retB1 (B := [])); exact rfl; exact rfl; exact zml; exact zkp; exact ⟨rfl, rfl, rfl⟩)
    · have hg' : ¬ (18446744073709551616 ≤ l[j]!.1 ∨ 18446744073709551616 ≤ l[j]!.2) := fun e => hg (decide_eq_true e)
      rw [h2, Bool.eq_false_iff.2 hg, Bool.or_false] at e2
      clear hg hb
      (repeat' (first | refine zss ?_ | refine zsM ?_ | ((with_reducible apply At.alloc (d := 4)); exact rfl; exact rfl; intro b4) | ((with_reducible apply At.alloc (d := 6)); exact rfl; exact rfl; intro b6) | (refine zsp ?_ ?_ <;> (intro hc; (try simp only [zhcs, reduceCtorEq] at hc); (try (exfalso; first | omega | contradiction | omega | exact absurd rfl hc | exact absurd (by decide) hc))))))
      all_goals ((with_reducible refine At.reachk (j + 1) ?_ ?_ ?_ ?_); exact zsubs; exact zml; exact zente; exact ⟨⟨h', e2⟩, by omega⟩)
  · rw [List.take_of_length_le (by omega)] at h2
    rw [if_neg (by rw [h2]; decide)]
    (repeat' (first | refine zss ?_ | refine zsM ?_ | ((with_reducible apply At.alloc (d := 4)); exact rfl; exact rfl; intro b4) | ((with_reducible apply At.alloc (d := 6)); exact rfl; exact rfl; intro b6) | (refine zsp ?_ ?_ <;> (intro hc; (try simp only [zhcs, reduceCtorEq] at hc); (try (exfalso; first | omega | contradiction | omega | exact absurd rfl hc | exact absurd (by decide) hc))))))
    all_goals ((with_reducible apply At.retB1 (B := [])); exact rfl; exact rfl; exact zml; exact zkp; exact ⟨rfl, rfl, rfl⟩)
theorem les_sm {a b : Nat × Nat} (ha : Sm a) (hb : Sm b) : Ra.les a.1 a.2 b.1 b.2 = (decide (a.1 * b.2 < b.1 * a.2), 0) := by
  have h1 : Ra.chk a.1 a.2 = 0 := Classical.byContradiction fun e => absurd (sm_chk ha).1 (by unfold bad; rw [decide_eq_true e]; decide)
  have h2 : Ra.chk b.1 b.2 = 0 := Classical.byContradiction fun e => absurd (sm_chk hb).1 (by unfold bad; rw [decide_eq_true e]; decide)
  have h3 : a.1 * b.2 < 340282366920938463463374607431768211456 := Nat.lt_of_lt_of_le (Nat.mul_lt_mul'' ha.1 hb.2.1) (by decide)
  have h4 : b.1 * a.2 < 340282366920938463463374607431768211456 := Nat.lt_of_lt_of_le (Nat.mul_lt_mul'' hb.1 ha.2.1) (by decide)
  have h5 : sE (a.1 * b.2) = 0 := if_pos h3
  have h6 : sE (b.1 * a.2) = 0 := if_pos h4
  unfold Ra.les
  rw [if_neg (by rintro (k | k); exact k h1; exact k h2), if_neg (by rintro (k | k); exact k h5; exact k h6)]
theorem sm_in {a : Nat × Nat} (h : Sm a) : In2 a := by
  have h1 := h.1
  have h2 := h.2.1
  exact ⟨by unfold In; omega, by unfold In; omega⟩
theorem less_q {m : Mem} (h1' : Ra.One m) (a b : Nat × Nat) (ha : Sm a) (hb : Sm b) : Rd Tryd.prog 29 #[fv a, fv b] m [] (.bool (decide (a.1 * b.2 < b.1 * a.2))) := by
  unfold Rd
  have k1 := fun (m' : Mem) (hm' : m.le m') => Ra.less_rr (m := m') (h1'.mono hm') a.1 a.2 b.1 b.2 (sm_in ha).1 (sm_in ha).2 (sm_in hb).1 (sm_in hb).2
  rw [les_sm ha hb] at k1
  generalize decide (a.1 * b.2 < b.1 * a.2) = r at *
  clear ha hb
  refine Ct.enterV (by rfl) Tryd.func29 rfl Tryd.ntmps29 rfl (fun w0 Rest => ?_)
  (repeat' (first | refine zss ?_ | refine zs0 ?_ | ((with_reducible first | apply AtM1.cr | apply AtQ.cr | apply At.cr); exact rfl; exact rfl; exact fun _ hmm => k1 _ hmm; exact ztk; kernel_rfl) | ((with_reducible apply At.box (d := 2)); exact rfl; exact rfl; exact rfl; intro b2) | ((with_reducible apply At.box (d := 3)); exact rfl; exact rfl; exact rfl; intro b3) | (refine zsp ?_ ?_ <;> (intro hc; (try simp only [zhcs, reduceCtorEq] at hc); (try (exfalso; first | contradiction | omega | exact absurd rfl hc | exact absurd (by decide) hc))))))
  all_goals ((with_reducible apply At.retB1 (B := [])); exact rfl; exact rfl; exact zml; exact zkp; exact ⟨rfl, rfl, rfl⟩)
theorem tw_at {P : Nat × Nat → Bool} : ∀ (O : List (Nat × Nat)) (i : Nat), i ≤ O.length → (∀ j, j < i → P O[j]! = true) → (i < O.length → P O[i]! = false) → O.takeWhile P = O.take i ∧ O.dropWhile P = O.drop i
  | [], i, hi, _, _ => by
    have : i = 0 := Nat.le_zero.1 hi
    subst this; exact ⟨rfl, rfl⟩
  | y :: O, 0, _, _, h => by
    have h0 : P y = false := h (by simp)
    exact ⟨List.takeWhile_cons_of_neg (by rw [h0]; decide), List.dropWhile_cons_of_neg (by rw [h0]; decide)⟩
  | y :: O, i + 1, hi, h, h2 => by
    have h0 : P y = true := h 0 (Nat.succ_pos _)
    have ih := tw_at O i (Nat.le_of_succ_le_succ hi) (fun j hj => h (j + 1) (Nat.succ_lt_succ hj)) (fun hj => h2 (Nat.succ_lt_succ hj))
    rw [List.takeWhile_cons_of_pos h0, List.dropWhile_cons_of_pos h0, ih.1, ih.2]
    exact ⟨rfl, rfl⟩
theorem ins_at {f : Nat × Nat} {O : List (Nat × Nat)} {i : Nat} (hi : i ≤ O.length) (h1 : ∀ j, j < i → lq O[j]! f = true) (h2 : i < O.length → lq O[i]! f = false) : ins f O = O.take i ++ ([f] ++ O.drop i) := by
  unfold ins
  obtain ⟨e1, e2⟩ := tw_at (P := fun y => lq y f) O i hi h1 h2
  rw [e1, e2]
  rfl
theorem ins_len (f : Nat × Nat) (O : List (Nat × Nat)) : (ins f O).length = O.length + 1 := (ins_perm f O).length_eq
theorem isrt_snoc {l : List (Nat × Nat)} {k : Nat} (h : k < l.length) : isrt (l.take (k + 1)) = ins l[k]! (isrt (l.take k)) := by
  unfold isrt
  rw [Ls.take_snoc h, List.foldl_append]
  rfl
structure SO where
  (k : Nat) (O : List (Nat × Nat)) (p : Option Addr) (c : Nat)
theorem lq_lt (y f : Nat × Nat) : lq y f = !decide (f.1 * y.2 < y.1 * f.2) := by
  unfold lq
  by_cases h : f.1 * y.2 < y.1 * f.2
  · rw [decide_eq_true h, decide_eq_false (by omega)]; rfl
  · rw [decide_eq_false h, decide_eq_true (by omega)]; rfl
theorem sort_r {m : Mem} (h1' : Ra.One m) (p : Option Addr) (c : Nat) (l : List (Nat × Nat)) (hl : l.length ≤ 1000000) (hb : ∀ x ∈ l, In2 x) (sl0 : Sl m fd 4 p c l) :
    Ct Tryd.prog 9 #[.slice p l.length c] m [] (fun v m' B => m = m' ∧ ∃ p' c', v = .tuple #[.slice p' (outS l).length c', .int .i64 (chkL l)] ∧ B = [.own fd 4 27 p' c' (outS l)]) := by
  have k1 := fun (m' : Mem) (hm' : m.le m') => check_r (m := m') (h1'.mono hm') p c l hl hb (sl0.mono hm')
  unfold outS
  by_cases hk : chkL l = 0
  rotate_left
  · rw [if_neg hk]
    generalize chkL l = w at *
    refine Ct.enterV (by rfl) Tryd.func9 rfl Tryd.ntmps9 rfl (fun w0 Rest => ?_)
    (repeat' (first | refine zss ?_ | refine zsM ?_ | ((with_reducible first | apply AtM1.cr | apply AtQ.cr | apply At.cr); exact rfl; exact rfl; exact fun _ hmm => k1 _ hmm; exact ztk; kernel_rfl) | ((with_reducible apply At.alloc (d := 7)); exact rfl; exact rfl; intro b7) | (refine zsp ?_ ?_ <;> (intro hc; (try simp only [zhcs, reduceCtorEq] at hc); (try (exfalso; first | (first | omega | exact absurd hc hk) | contradiction | omega | exact absurd rfl hc | exact absurd (by decide) hc))))))
    refine At.own_nil fd 4 27 ?_
    all_goals ((with_reducible apply At.retV (B := [.own fd 4 27 _ _ _])); exact rfl; (repeat' (first | exact RVs.nil | (with_reducible apply RVs.cons) | exact rv_tmp (by rfl) | exact rv_cellN (by rfl) (by repeat constructor) (by rfl) (by rfl) (by rfl) | exact rv_cell1 (by rfl) (by repeat constructor) (by rfl) (by rfl))); exact zml; exact zkp; exact ⟨rfl, _, _, rfl, rfl⟩)
  have hsm := chkL_ok hk
  rw [hk] at k1 ⊢
  rw [if_pos rfl, ← isrt_eq hsm]
  clear hb hk
  refine Ct.enterV (by rfl) Tryd.func9 rfl Tryd.ntmps9 rfl (fun w0 Rest => ?_)
  (repeat' (first | refine zss ?_ | refine zsM ?_ | ((with_reducible first | apply AtM1.cr | apply AtQ.cr | apply At.cr); exact rfl; exact rfl; exact fun _ hmm => k1 _ hmm; exact ztk; kernel_rfl) | ((with_reducible apply At.alloc (d := 7)); exact rfl; exact rfl; intro b7) | (refine zsp ?_ ?_ <;> (intro hc; (try simp only [zhcs, reduceCtorEq] at hc); (try (exfalso; first | omega | contradiction | omega | exact absurd rfl hc | exact absurd (by decide) hc))))))
  refine At.own_nil fd 4 27 ?_
  (refine At.loopk (σ := SO) [14, 15] (fun s F0 => (16, .int .i64 (s.k : Int)) :: (5, .slice s.p s.O.length s.c) :: F0) (fun s => m) (fun s => .own fd 4 27 s.p s.c s.O :: Rest) (fun s => s.k ≤ l.length ∧ s.O = isrt (l.take s.k) ∧ s.O.length = s.k ∧ (∀ x ∈ s.O, Sm x)) (fun s => l.length - s.k) ⟨0, [], none, 0⟩ (by rfl) ?_ zsubs zml zente ?_)
  · exact ⟨Nat.zero_le _, rfl, rfl, fun _ h => absurd h List.not_mem_nil⟩
  rintro ⟨k, O, pp, cc⟩ ⟨hk, hO, hlen, hOs⟩
  dsimp only at hk hO hlen hOs ⊢
  by_cases hkb : k < l.length
  · have hst := isrt_snoc hkb
    rw [← hO] at hst
    have hil := ins_len l[k]! O
    have hxk := hsm _ (Ls.mem! hkb)
    have hmem : ∀ x ∈ ins l[k]! O, Sm x := fun x hx => by
      rcases List.mem_cons.1 ((ins_perm _ _).mem_iff.1 hx) with rfl | hx
      · exact hxk
      · exact hOs x hx
    (repeat' (first | refine zss ?_ | refine zsM ?_ | ((with_reducible apply At.alloc (d := 7)); exact rfl; exact rfl; intro b7) | (refine zsp ?_ ?_ <;> (intro hc; (try simp only [zhcs, reduceCtorEq] at hc); (try (exfalso; first | omega | contradiction | omega | exact absurd rfl hc | exact absurd (by decide) hc))))))
    (refine At.loopk (σ := Nat) [5, 7, 14, 15, 16] (fun s F0 => (8, .int .i64 (s : Int)) :: F0) (fun s => m) (fun s => .own fd 4 27 pp cc O :: .blk b7 27 (fd (l[k]!)) :: Rest) (fun s => s ≤ O.length ∧ ∀ j, j < s → lq O[j]! l[k]! = true) (fun s => O.length - s) 0 (by rfl) ?_ zsubs zml zente ?_)
    · exact ⟨Nat.zero_le _, fun j hj => absurd hj (Nat.not_lt_zero j)⟩
    rintro i ⟨hi, hp⟩
    by_cases hio : i < O.length
    · have k2 := fun (m' : Mem) (hm' : m.le m') => less_q (m := m') (h1'.mono hm') l[k]! O[i]! hxk (hOs _ (Ls.mem! hio))
      have hlq := lq_lt O[i]! l[k]!
      cases hd : decide (l[k]!.1 * O[i]!.2 < O[i]!.1 * l[k]!.2) with
      | false =>
        rw [hd] at k2 hlq
        clear hst hil hmem hd hOs hsm
        (repeat' (first | refine zss ?_ | refine zsOM ?_ | ((with_reducible first | apply AtM1.cr | apply AtQ.cr | apply At.cr); exact rfl; exact rfl; exact fun _ hmm => k2 _ hmm; exact ztk; kernel_rfl) | ((with_reducible apply At.alloc (d := 7)); exact rfl; exact rfl; intro b7) | (refine zsp ?_ ?_ <;> (intro hc; (try simp only [zhcs, reduceCtorEq] at hc); (try (exfalso; first | omega | contradiction | omega | exact absurd rfl hc | exact absurd (by decide) hc))))))
        all_goals ((with_reducible refine At.reachk ((i + 1)) ?_ ?_ ?_ ?_); exact zsubs; exact zml; exact zente; exact ⟨⟨hio, fun j hj => by rcases Nat.lt_succ_iff_lt_or_eq.1 hj with hj | rfl; exact hp j hj; exact hlq⟩, by omega⟩)
      | true =>
        rw [hd] at k2 hlq
        have he := ins_at hi hp fun _ => hlq
        rw [he] at hst hil hmem
        clear hd hOs hsm hp he
        (repeat' (first | ((with_reducible apply At.mixed (id := 11) 12 (.q 0 (.q 1 (.q 2 (.q 3 (.q 4 (.q 6 (.q 7 (.q 8 (.l 5 (.l 9 (.x 10 (.q 11 .done))))))))))))); exact rfl; kernel_rfl; kernel_rfl; kernel_rfl) | refine zsx ?_ | refine zss ?_ | ((with_reducible apply AtM.bo); exact rfl; exact rfl; exact rfl) | ((first | (with_reducible first | apply At.val | apply AtQ.val) | ((with_reducible first | apply AtM1.valz | apply AtM1.val); exact rfl) | ((with_reducible apply AtM1.val); exact rfl)); (exact pr_slice3 (by rfl) (by rfl) (by rfl) (by rfl) (by rfl) (own_le (by first | exact pk0 | exact pk1 | exact pk2 | exact pk3)) (by omega)); exact rfl) | refine zsOM ?_ | refine zxOM ?_ | ((with_reducible first | apply AtM1.cr | apply AtQ.cr | apply At.cr); exact rfl; exact rfl; exact fun _ hmm => k2 _ hmm; exact ztk; kernel_rfl) | ((with_reducible apply At.lit fd [_]); exact inferInstance; (iterate 7 exact rfl); intro _) | ((with_reducible apply At.appendF (f := fd)); exact rfl; exact rfl; (first | exact own_rdb inferInstance (by repeat constructor) | exact Sl.rdb (by assumption) | exact Rdb.cut (own_rdb inferInstance (by repeat constructor)) _ (by first | omega | (simp only [lns] <;> omega)) | exact Rdb.cut (Sl.rdb (by assumption)) _ (by first | omega | (simp only [lns] <;> omega))); (first | exact rfl | (first | omega | (simp only [lns] <;> omega))); exact own_rdb inferInstance (by repeat constructor); (first | exact rfl | (first | omega | (simp only [lns] <;> omega))); exact rfl; exact rfl; exact rfl; (first | omega | (simp only [lns] <;> omega)); (first | omega | (simp only [lns] <;> omega)); exact rfl; intro p3 c3) | ((with_reducible apply At.apW (f := fd)); exact rfl; exact rfl; exact (by repeat constructor); exact inferInstance; exact zrdl; (iterate 4 exact rfl); exact zom; exact rfl; intro p2 c2) | ((with_reducible apply At.alloc (d := 7)); exact rfl; exact rfl; intro b7) | (refine zsp ?_ ?_ <;> (intro hc; (try simp only [zhcs, reduceCtorEq] at hc); (try (exfalso; first | omega | contradiction | omega | exact absurd rfl hc | exact absurd (by decide) hc))))))
        all_goals (rw [List.take_length])
        all_goals ((with_reducible refine At.reachk (⟨k + 1, O.take i ++ ([l[k]!] ++ O.drop i), p3, c3⟩) ?_ ?_ ?_ ?_); exact zsubs; exact zml; exact zente; exact ⟨⟨hkb, hst.symm, by dsimp only; omega, hmem⟩, by dsimp only; omega⟩)
    · have he := ins_at hi hp fun h => absurd h hio
      rw [he] at hst hil hmem
      clear hOs hsm hp he
      (repeat' (first | ((with_reducible apply At.mixed (id := 11) 12 (.q 0 (.q 1 (.q 2 (.q 3 (.q 4 (.q 6 (.q 7 (.q 8 (.l 5 (.l 9 (.x 10 (.q 11 .done))))))))))))); exact rfl; kernel_rfl; kernel_rfl; kernel_rfl) | refine zsx ?_ | refine zss ?_ | ((with_reducible apply AtM.bo); exact rfl; exact rfl; exact rfl) | ((first | (with_reducible first | apply At.val | apply AtQ.val) | ((with_reducible first | apply AtM1.valz | apply AtM1.val); exact rfl) | ((with_reducible apply AtM1.val); exact rfl)); (exact pr_slice3 (by rfl) (by rfl) (by rfl) (by rfl) (by rfl) (own_le (by first | exact pk0 | exact pk1 | exact pk2 | exact pk3)) (by omega)); exact rfl) | refine zsOM ?_ | refine zxOM ?_ | ((with_reducible apply At.lit fd [_]); exact inferInstance; (iterate 7 exact rfl); intro _) | ((with_reducible apply At.appendF (f := fd)); exact rfl; exact rfl; (first | exact own_rdb inferInstance (by repeat constructor) | exact Sl.rdb (by assumption) | exact Rdb.cut (own_rdb inferInstance (by repeat constructor)) _ (by first | omega | (simp only [lns] <;> omega)) | exact Rdb.cut (Sl.rdb (by assumption)) _ (by first | omega | (simp only [lns] <;> omega))); (first | exact rfl | (first | omega | (simp only [lns] <;> omega))); exact own_rdb inferInstance (by repeat constructor); (first | exact rfl | (first | omega | (simp only [lns] <;> omega))); exact rfl; exact rfl; exact rfl; (first | omega | (simp only [lns] <;> omega)); (first | omega | (simp only [lns] <;> omega)); exact rfl; intro p3 c3) | ((with_reducible apply At.apW (f := fd)); exact rfl; exact rfl; exact (by repeat constructor); exact inferInstance; exact zrdl; (iterate 4 exact rfl); exact zom; exact rfl; intro p2 c2) | ((with_reducible apply At.alloc (d := 7)); exact rfl; exact rfl; intro b7) | (refine zsp ?_ ?_ <;> (intro hc; (try simp only [zhcs, reduceCtorEq] at hc); (try (exfalso; first | omega | contradiction | omega | exact absurd rfl hc | exact absurd (by decide) hc))))))
      all_goals (rw [List.take_length])
      all_goals ((with_reducible refine At.reachk (⟨k + 1, O.take i ++ ([l[k]!] ++ O.drop i), p3, c3⟩) ?_ ?_ ?_ ?_); exact zsubs; exact zml; exact zente; exact ⟨⟨hkb, hst.symm, by dsimp only; omega, hmem⟩, by dsimp only; omega⟩)
  · have e0 : O = isrt l := by rw [hO, List.take_of_length_le (by omega)]
    subst e0
    (repeat' (first | refine zss ?_ | refine zsOM ?_ | ((with_reducible apply At.alloc (d := 7)); exact rfl; exact rfl; intro b7) | (refine zsp ?_ ?_ <;> (intro hc; (try simp only [zhcs, reduceCtorEq] at hc); (try (exfalso; first | omega | contradiction | omega | exact absurd rfl hc | exact absurd (by decide) hc))))))
    all_goals ((with_reducible apply At.retV (B := [.own fd 4 27 _ _ _])); exact rfl; (repeat' (first | exact RVs.nil | (with_reducible apply RVs.cons) | exact rv_tmp (by rfl) | exact rv_cellN (by rfl) (by repeat constructor) (by rfl) (by rfl) (by rfl) | exact rv_cell1 (by rfl) (by repeat constructor) (by rfl) (by rfl))); exact zml; exact zkp; exact ⟨rfl, _, _, rfl, rfl⟩)
end Qu
end Go.Proofs.YtmnlmmbfjfgfeaaDoor

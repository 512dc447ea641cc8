/- RatioOrder: of two fractions one is less, or they are one; the floor is not above. Conditions: the library's tables read as the row's cells say (the card ties them to the program's text). -/
import Derived.Test.YtpdleggpmhlagaaDoorRa4Z9
/- RatioOrder: of two fractions one is less, or they are one; the floor is not above. Conditions: the library's tables read as the row's cells say (the card ties them to the program's text). -/
set_option linter.unusedSimpArgs false
set_option linter.unusedVariables false
set_option linter.unusedSectionVars false
set_option maxRecDepth 20000
set_option maxHeartbeats 4000000
namespace Go.Proofs.YtpdleggpmhlagaaDoor
open Go Go.J
attribute [local irreducible] At AtQ AtM AtM1 PR Ct Pu Rd Res.blk Res.own Res.ex RVs RV
namespace Ra
open Wide
theorem chk_ok {n d : Nat} (h : chk n d = 0) : d ≠ 0 ∧ Nat.gcd n d = 1 := by
  unfold chk at h
  by_cases k : d = 0 ∨ Nat.gcd n d ≠ 1
  · rw [if_pos k] at h; exact absurd h (by decide)
  · exact ⟨fun e => k (.inl e), Classical.byContradiction fun e => k (.inr e)⟩
theorem frac_one {a b c d : Nat} (h1 : chk a b = 0) (h2 : chk c d = 0) (e : a * d = c * b) : a = c ∧ b = d := by
  obtain ⟨hb, g1⟩ := chk_ok h1
  obtain ⟨hd, g2⟩ := chk_ok h2
  have d1 : b ∣ d := (Nat.Coprime.dvd_of_dvd_mul_left (show Nat.gcd b a = 1 from (Nat.gcd_comm b a).trans g1) ⟨c, by rw [e, Nat.mul_comm]⟩)
  have d2 : d ∣ b := (Nat.Coprime.dvd_of_dvd_mul_left (show Nat.gcd d c = 1 from (Nat.gcd_comm d c).trans g2) ⟨a, by rw [← e, Nat.mul_comm]⟩)
  have eb : b = d := Nat.dvd_antisymm d1 d2
  subst eb
  exact ⟨Nat.eq_of_mul_eq_mul_right (Nat.pos_of_ne_zero hb) e, rfl⟩
theorem les_sym (a b c d : Nat) : (les a b c d).2 = (les c d a b).2 := by
  unfold les
  by_cases h : chk a b ≠ 0 ∨ chk c d ≠ 0
  · rw [if_pos h, if_pos (Or.symm h)]
  · rw [if_neg h, if_neg (fun k => h (Or.symm k))]
    by_cases h3 : sE (a * d) ≠ 0 ∨ sE (c * b) ≠ 0
    · rw [if_pos h3, if_pos (Or.symm h3)]
    · rw [if_neg h3, if_neg (fun k => h3 (Or.symm k))]
theorem les_no {a b c d : Nat} (h : (les a b c d).2 ≠ 0) : (les a b c d).1 = false := by
  unfold les at h ⊢
  split
  · rfl
  · rename_i h1
    rw [if_neg h1] at h
    split
    · rfl
    · rename_i h2
      rw [if_neg h2] at h
      exact absurd rfl h
theorem les_yes {a b c d : Nat} (h : (les a b c d).2 = 0) : chk a b = 0 ∧ chk c d = 0 ∧ (les a b c d).1 = decide (a * d < c * b) := by
  unfold les at h ⊢
  by_cases h1 : chk a b ≠ 0 ∨ chk c d ≠ 0
  · rw [if_pos h1] at h; exact absurd h (by decide)
  · rw [if_neg h1] at h
    by_cases h2 : sE (a * d) ≠ 0 ∨ sE (c * b) ≠ 0
    · rw [if_pos h2] at h; exact absurd h (by decide)
    · rw [if_neg h1, if_neg h2]
      exact ⟨Classical.byContradiction fun e => h1 (.inl e), Classical.byContradiction fun e => h1 (.inr e), rfl⟩
theorem les_floor {a b : Nat} (ha : a < 340282366920938463463374607431768211456) (h : chk a b = 0) : les a b (a / b) 1 = (false, 0) := by
  have h2 : chk (a / b) 1 = 0 := by
    unfold chk
    rw [if_neg]
    rintro (h | h)
    · exact absurd h (by decide)
    · exact h (Nat.gcd_one_right _)
  have hle := Nat.div_mul_le_self a b
  unfold les
  rw [if_neg (fun k => k.elim (fun k => k h) (fun k => k h2)), Nat.mul_one, if_neg (fun k => k.elim (fun k => k (if_pos ha)) (fun k => k (if_pos (Nat.lt_of_le_of_lt hle ha)))), decide_eq_false (Nat.not_lt.2 hle)]
theorem andL_app : ∀ a b : List Bool, andL (a ++ b) = (andL a && andL b)
  | [], b => by simp [andL]
  | x :: a, b => by
    rw [List.cons_append, andL_cons, andL_app a b, andL_cons, Bool.and_assoc]
theorem pr_req {n : Nat} {F : Fr} {C : World → Prop} {x y : Operand} {u : TypeId} {a b c d : Nat} (hx : ev F x = some (rv a b)) (hy : ev F y = some (rv c d)) : PR Tryd.prog n F C (.binOp .eql 26 x y u) (.bool (decide (a = c ∧ b = d))) := by
  have e : decide (a = c ∧ b = d) = andL [decide (((a / 18446744073709551616 : Nat) : Int) = ((c / 18446744073709551616 : Nat) : Int)), decide (((a % 18446744073709551616 : Nat) : Int) = ((c % 18446744073709551616 : Nat) : Int)), decide (((b / 18446744073709551616 : Nat) : Int) = ((d / 18446744073709551616 : Nat) : Int)), decide (((b % 18446744073709551616 : Nat) : Int) = ((d % 18446744073709551616 : Nat) : Int))] := by
    rw [Bool.decide_and, wd_dec a c, wd_dec b d, ← andL_app]
    rfl
  rw [e]
  exact pr_aggeq2 hx hy (by rfl) (by kernel_rfl) (by kernel_rfl) (by rfl)
structure KS where
  (i : Nat) (c : Nat)
theorem orderL {m : Mem} (hz : TZ m) (hT : Tab m) (x y : Nat × Nat) (hx : In2 x) (hy : In2 y) :
    Ct Tryd.prog 6 #[rv x.1 x.2, rv y.1 y.2] m [] (fun v m' B => v = .bool true ∧ B = []) := by
  obtain ⟨a, b⟩ := x
  obtain ⟨c, d⟩ := y
  obtain ⟨ha, hb⟩ := hx
  obtain ⟨hc0, hd⟩ := hy
  dsimp only at ha hb hc0 hd ⊢
  unfold In at ha hb hc0 hd
  have hl := fun (m' : Mem) (h : m.le m') => ratio_lives (hz.mono h) (hT.mono h)
  have k1 := fun (m' : Mem) (h : m.le m') => lessT (m := m') (hz.mono h) a b c d ha hb hc0 hd
  have k2 := fun (m' : Mem) (h : m.le m') => lessT (m := m') (hz.mono h) c d a b hc0 hd ha hb
  by_cases hw : (les a b c d).2 = 0
  rotate_left
  · have hw2 : (les c d a b).2 ≠ 0 := by rw [← les_sym]; exact hw
    rw [les_no hw] at k1
    rw [les_no hw2, ← les_sym] at k2
    generalize (les a b c d).2 = w at hw k1 k2
    clear ha hb hc0 hd hw2
    refine Ct.enterV (by rfl) Tryd.func6 rfl Tryd.ntmps6 rfl (fun w0 Rest => ?_)
    (repeat' (first | refine zss ?_ | refine zs0 ?_ | ((with_reducible first | apply AtM1.cr | apply AtQ.cr | apply At.cr); exact rfl; exact rfl; exact fun _ hmm => hl _ hmm; exact ztk; kernel_rfl) | ((with_reducible first | apply AtM1.cr | apply AtQ.cr | apply At.cr); exact rfl; exact rfl; exact fun _ hmm => k1 _ hmm; exact ztk; kernel_rfl) | ((with_reducible first | apply AtM1.cr | apply AtQ.cr | apply At.cr); exact rfl; exact rfl; exact fun _ hmm => k2 _ hmm; exact ztk; kernel_rfl) | ((with_reducible apply At.box (d := 2)); exact rfl; exact rfl; exact rfl; intro b2) | ((with_reducible apply At.box (d := 3)); exact rfl; exact rfl; exact rfl; intro b3) | ((with_reducible apply At.alloc (d := 12)); exact rfl; exact rfl; intro b12) | ((with_reducible apply At.alloc (d := 14)); exact rfl; exact rfl; intro b14) | (refine zsp ?_ ?_ <;> (intro hc; (try simp only [zhcs, reduceCtorEq] at hc); (try (exfalso; first | (first | omega | exact absurd hc hw) | contradiction | omega | exact absurd rfl hc | exact absurd (by decide) hc))))))
    all_goals ((with_reducible apply At.retB1 (B := [])); exact rfl; exact rfl; exact zml; exact zkp; exact ⟨rfl, rfl⟩)
  have hw2 : (les c d a b).2 = 0 := by rw [← les_sym]; exact hw
  obtain ⟨c1, c2, v1⟩ := les_yes hw
  obtain ⟨-, -, v2⟩ := les_yes hw2
  rw [v1, hw] at k1
  rw [v2, hw2] at k2
  have hb0 : b ≠ 0 := (chk_ok c1).1
  have k3 := floor a b ha hb
  rw [show flo a b = (a / b, 0) from if_neg hb0] at k3
  have k4 := fun (m' : Mem) (h : m.le m') => lessT (m := m') (hz.mono h) a b (a / b) 1 ha hb (Nat.lt_of_le_of_lt (Nat.div_le_self _ _) ha) (by decide)
  rw [les_floor ha c1] at k4
  have k5 := of_ 1 (by decide)
  obtain ⟨L, hL⟩ : ∃ L : List Bool, L = [decide (a * d < c * b), decide (c * b < a * d), decide (a = c ∧ b = d)] := ⟨_, rfl⟩
  have hLn : L.length = 3 := by rw [hL]; rfl
  have hLc : L.count true = 1 := by
    rw [hL]
    rcases Nat.lt_trichotomy (a * d) (c * b) with h | h | h
    · rw [decide_eq_true h, decide_eq_false (show ¬ c * b < a * d by omega), decide_eq_false (show ¬ (a = c ∧ b = d) by rintro ⟨rfl, rfl⟩; omega)]; rfl
    · rw [decide_eq_false (show ¬ a * d < c * b by omega), decide_eq_false (show ¬ c * b < a * d by omega), decide_eq_true (frac_one c1 c2 h)]; rfl
    · rw [decide_eq_false (show ¬ a * d < c * b by omega), decide_eq_true h, decide_eq_false (show ¬ (a = c ∧ b = d) by rintro ⟨rfl, rfl⟩; omega)]; rfl
  clear hw hw2 c1 c2 v1 v2 ha hb hc0 hd hb0
  generalize a / b = q at k3 k4
  refine Ct.enterV (by rfl) Tryd.func6 rfl Tryd.ntmps6 rfl (fun w0 Rest => ?_)
  (repeat' (first | refine zss ?_ | ((first | (with_reducible first | apply At.val | apply AtQ.val)); (exact pr_req (a := a) (b := b) (c := c) (d := d) (by rfl) (by rfl)); exact rfl) | refine zs0 ?_ | ((with_reducible first | apply AtM1.cr | apply AtQ.cr | apply At.cr); exact rfl; exact rfl; exact fun _ hmm => hl _ hmm; exact ztk; kernel_rfl) | ((with_reducible first | apply AtM1.cr | apply AtQ.cr | apply At.cr); exact rfl; exact rfl; exact fun _ hmm => k1 _ hmm; exact ztk; kernel_rfl) | ((with_reducible first | apply AtM1.cr | apply AtQ.cr | apply At.cr); exact rfl; exact rfl; exact fun _ hmm => k2 _ hmm; exact ztk; kernel_rfl) | ((with_reducible apply At.litF Ls.fO [decide (a * d < c * b), decide (c * b < a * d), decide (a = c ∧ b = d)]); exact inferInstance; (iterate 7 exact rfl); intro b' m' hm' sl5; skip) | ((with_reducible apply At.box (d := 2)); exact rfl; exact rfl; exact rfl; intro b2) | ((with_reducible apply At.box (d := 3)); exact rfl; exact rfl; exact rfl; intro b3) | ((with_reducible apply At.alloc (d := 12)); exact rfl; exact rfl; intro b12) | ((with_reducible apply At.alloc (d := 14)); exact rfl; exact rfl; intro b14) | (refine zsp ?_ ?_ <;> (intro hc; (try simp only [zhcs, reduceCtorEq] at hc); (try (exfalso; first | (first | omega | exact absurd rfl hc) | contradiction | omega | exact absurd rfl hc | exact absurd (by decide) hc))))))
  rw [← hL] at sl5
  have hz' := hz.mono hm'
  have k4' := fun (m'' : Mem) (h : m'.le m'') => k4 m'' (Mem.le_trans hm' h)
  clear hL k1 k2 hl hz hT k4
  (refine At.loopk (σ := KS) [2, 47, 48] (fun s F0 => (49, .int .i64 (s.i : Int)) :: (9, .int .i64 (s.c : Int)) :: F0) (fun s => m') (fun s => .blk b3 26 (wd c ++ wd d) :: .blk b2 26 (wd a ++ wd b) :: Rest) (fun s => s.i ≤ 3 ∧ s.c = (L.take s.i).count true) (fun s => 3 - s.i) ⟨0, 0⟩ (by rfl) ?_ zsubs zml zente ?_)
  · exact ⟨Nat.zero_le _, rfl⟩
  rintro ⟨i, k⟩ ⟨hi, hk0⟩
  dsimp only at hi hk0 ⊢
  have hcb : k ≤ 3 := by
    have h1 := List.count_le_length (a := true) (l := L.take i)
    rw [List.length_take] at h1
    omega
  by_cases h : i < 3
  · have hst : (L.take (i + 1)).count true = (L.take i).count true + [L[i]!].count true := by rw [Ls.take_snoc (by omega), List.count_append]
    cases hb : L[i]!
    · rw [hb] at hst
      (repeat' (first | refine zss ?_ | refine zsM ?_ | ((with_reducible apply At.box (d := 2)); exact rfl; exact rfl; exact rfl; intro b2) | ((with_reducible apply At.box (d := 3)); exact rfl; exact rfl; exact rfl; intro b3) | ((with_reducible apply At.alloc (d := 12)); exact rfl; exact rfl; intro b12) | ((with_reducible apply At.alloc (d := 14)); exact rfl; exact rfl; intro b14) | (refine zsp ?_ ?_ <;> (intro hc; (try simp only [zhcs, reduceCtorEq] at hc); (try (exfalso; first | (first | omega | exact absurd (hb.symm.trans hc) (by decide) | exact absurd (hc.symm.trans hb) (by decide)) | contradiction | omega | exact absurd rfl hc | exact absurd (by decide) hc))))))
      all_goals ((with_reducible refine At.reachk (⟨i + 1, k⟩) ?_ ?_ ?_ ?_); exact zsubs; exact zml; exact zente; exact ⟨⟨h, by dsimp only; rw [hst, ← hk0]; rfl⟩, by dsimp only; omega⟩)
    · rw [hb] at hst
      (repeat' (first | refine zss ?_ | refine zsM ?_ | ((with_reducible apply At.box (d := 2)); exact rfl; exact rfl; exact rfl; intro b2) | ((with_reducible apply At.box (d := 3)); exact rfl; exact rfl; exact rfl; intro b3) | ((with_reducible apply At.alloc (d := 12)); exact rfl; exact rfl; intro b12) | ((with_reducible apply At.alloc (d := 14)); exact rfl; exact rfl; intro b14) | (refine zsp ?_ ?_ <;> (intro hc; (try simp only [zhcs, reduceCtorEq] at hc); (try (exfalso; first | (first | omega | exact absurd (hb.symm.trans hc) (by decide) | exact absurd (hc.symm.trans hb) (by decide)) | contradiction | omega | exact absurd rfl hc | exact absurd (by decide) hc))))))
      all_goals ((with_reducible refine At.reachk (⟨i + 1, k + 1⟩) ?_ ?_ ?_ ?_); exact zsubs; exact zml; exact zente; exact ⟨⟨h, by dsimp only; rw [hst, ← hk0]; rfl⟩, by dsimp only; omega⟩)
  · have hcl : k = 1 := by rw [hk0, List.take_of_length_le (by omega), hLc]
    subst hcl
    (repeat' (first | ((with_reducible apply At.mixed (id := 17) 5 (.q 0 (.q 1 (.q 2 (.l 3 (.x 4 .done)))))); exact rfl; kernel_rfl; kernel_rfl; kernel_rfl) | refine zsx ?_ | refine zss ?_ | ((with_reducible apply AtM.bo); exact rfl; exact rfl; exact rfl) | refine zsM ?_ | refine zxM ?_ | ((with_reducible first | apply AtM1.callp | apply AtQ.callp | apply At.callp); kernel_rfl; exact rfl; exact rfl; exact k3) | ((with_reducible first | apply AtM1.callp | apply AtQ.callp | apply At.callp); kernel_rfl; exact rfl; exact rfl; exact k5) | ((with_reducible first | apply AtM1.cr | apply AtQ.cr | apply At.cr); exact rfl; exact rfl; exact fun _ hmm => k4' _ zml; exact ztk; kernel_rfl) | ((with_reducible apply At.box (d := 2)); exact rfl; exact rfl; exact rfl; intro b2) | ((with_reducible apply At.box (d := 3)); exact rfl; exact rfl; exact rfl; intro b3) | ((with_reducible apply At.alloc (d := 12)); exact rfl; exact rfl; intro b12) | ((with_reducible apply At.alloc (d := 14)); exact rfl; exact rfl; intro b14) | (refine zsp ?_ ?_ <;> (intro hc; (try simp only [zhcs, reduceCtorEq] at hc); (try (exfalso; first | (first | omega | exact absurd rfl hc | exact hc rfl) | contradiction | omega | exact absurd rfl hc | exact absurd (by decide) hc))))))
    all_goals ((with_reducible apply At.retB1 (B := [])); exact rfl; exact rfl; exact zml; exact zkp; exact ⟨by first | rfl | simp [andL], rfl⟩)
end Ra
namespace RatioOrderCardL
open Go.ChangeShapes Go.WideShapes Go.ChangeAt Go.RowKit
open Go.ChangeMaps (open_string shut_string)
theorem own : ownKnob Tryd.prog.godebug = none := by kernel_rfl
theorem laidOut : laidOutB Tryd.prog = true := by kernel_rfl
set_option maxRecDepth 100000 in
theorem door_met (os : Os) (args : Array Value) : laidMetH Tryd.prog Rows.ratioOrderRow.laid ((World.doorLaid Tryd.prog 400 os).forCall (fun _ _ => 0) ⟨#[], args, []⟩).memory :=
  laidMetH_of_parts3 (fuel := 8) (laidMet_of_run' 8 (by kernel_rfl) (by kernel_rfl)) (by kernel_rfl) (by kernel_rfl)
set_option maxRecDepth 100000 in
theorem lifted (os : Os) (started : os.Started) (H : Type) (enc : TypeId × Value → H) :
    ReturnsInHanded {} Tryd.checked os 6 .any (fun w args => (Rows.ratioOrderSpec.pre enc Tryd.prog Tryd.f6 [] false w args ∧ laidMetH Tryd.prog Rows.ratioOrderRow.laid w) ∧ sizedMet enc Tryd.prog Tryd.f6 (OpenSpec.ofChange Rows.ratioOrderSpec) false w args)
      (Rows.ratioOrderSpec.post enc Tryd.prog Tryd.f6 false true false false) := by
  refine returnsInHanded_of_change_and (C := Tryd.checked) (X := fun w _ => laidMetH Tryd.prog Rows.ratioOrderRow.laid w) (fun _ _ _ hh h => h.of_heap hh) own started (by kernel_rfl) Tryd.func6
    (ChangeSpec.witness_shaped (enc := enc) (C := Tryd.checked) (os := os) (X := fun w _ => laidMetH Tryd.prog Rows.ratioOrderRow.laid w) false (World.doorLaid Tryd.prog 400 os) #[.agg #[.int .u64 0, .int .u64 0, .int .u64 0, .int .u64 0], .agg #[.int .u64 0, .int .u64 0, .int .u64 0, .int .u64 0]] 8 rfl (World.shaped_of_RefB (by kernel_rfl) (by kernel_rfl)) (by kernel_rfl) (by kernel_rfl) (by kernel_rfl) (door_met os _)) ?_
  intro W base args ds gs before hval0 hW hcnd _ hL _
  have hval : ∀ (j : Nat) t v, Tryd.f6.params[j]? = some t → args[j]? = some v → Value.okWide Tryd.prog W .any base t v := hval0
  have hW' := hW
  obtain ⟨p, q, hA0, hV, rfl, hfz, hnd⟩ := hW
  have hA : DataW.TrodAll enc Tryd.prog W 0 (fun _ => true) true Tryd.f6.params.toList args.toList ds p := hA0
  rw [Tryd.params6] at hA hval
  obtain ⟨rfl, rfl⟩ := trodVars_none hV
  have hlt : ∀ x ∈ p, x.block < W.heap.size := fun x hx => hW'.lt x (by simpa using hx)
  have hback := fun (W' : World) (bel : Below W.heap.size W W') => trodAll_below laidOut bel _ _ _ _ (by kernel_rfl) hA hlt
  obtain ⟨v0, vs0, d0, ds0, p0, q0, hargs, rfl, rfl, h0, r0⟩ := trodAll_cons hA
  obtain ⟨v1, vs1, d1, ds1, p1, q1, rfl, rfl, rfl, h1, r1⟩ := trodAll_cons r0
  obtain ⟨rfl, rfl, rfl⟩ := trodAll_nil r1
  obtain rfl : args = #[v0, v1] := by cases args; simp_all
  obtain ⟨a0, rfl, w0⟩ := open_flat_arg (f := Ra.fd) (φ := Ra.In2) [.int .u64, .int .u64, .int .u64, .int .u64] Tryd.underlying26 (by kernel_rfl) Ra.dec_frac (hval 0 26 v0 rfl rfl) h0
  obtain ⟨a1, rfl, w1⟩ := open_flat_arg (f := Ra.fd) (φ := Ra.In2) [.int .u64, .int .u64, .int .u64, .int .u64] Tryd.underlying26 (by kernel_rfl) Ra.dec_frac (hval 1 26 v1 rfl rfl) h1
  refine (law_calls (Ct.mono (Ra.orderL (m := memOf W) (Ra.tz_of hL (by kernel_rfl)) (Ra.tab_of hL (by kernel_rfl)) a0 a1 w0 w1) fun v m' B _ h => h.1)).mono fun e W' ⟨he, bel⟩ => ?_
  subst he
  exact ⟨_, rfl, _, _, _, [], _, [], hW', trodAll_mk1 (shut_bool Tryd.underlying4 _), hback W' bel, rfl, bel.frame _, fun h => by cases h⟩
theorem over : Rows.ratioOrderRow.holds Tryd.pinned (OpenSpec.ofChange Rows.ratioOrderSpec) :=
  OpenClaim.holds_of_wide 6 Tryd.f6 rfl rfl rfl rfl rfl rfl rfl ⟨rfl, rfl, rfl, rfl, rfl⟩ rfl rfl rfl rfl rfl (by kernel_rfl) Tryd.func6 (by kernel_rfl)
    (of_decide_eq_true (by kernel_rfl)) (by unfold Func.isWrapper; first | (rw [if_pos (by decide +kernel)]; kernel_rfl) | (rw [if_neg (by decide +kernel)]; exact ⟨rfl, rfl⟩))
    (fun os started H enc _ => lifted os started H enc)
theorem proved : Rows.RatioOrderCardSaid :=
  Claim7.holds_tied_plain_at .later [] Rows.ratioOrderCard.laidKinds true Rows.ratioOrderCard.stood.harness Rows.ratioOrderCard.stood.looks
    over (fun _ h => by cases h) (by kernel_rfl) (fun _ h => by cases h) ratioOrder_row_tie rfl ⟨rfl, rfl⟩ (by kernel_rfl) rfl
    (fun f fn hf hfn => by
      obtain rfl : f = 6 := Option.some.inj ((show Tryd.prog.funcNamed Tryd.f6.name = some 6 by kernel_rfl).symm.trans hf) |>.symm
      obtain rfl : fn = Tryd.f6 := (Option.some.inj (Tryd.func6.symm.trans hfn)).symm
      exact ⟨by kernel_rfl, fun j t ht => by
        rw [Tryd.params6] at ht
        have hm := Array.mem_of_getElem? ht
        have hall : ((Tryd.f6.params).all fun u => !Tryd.prog.wantsStandIn u) = true := by kernel_rfl
        rw [Tryd.params6] at hall
        exact (show Tryd.prog.wantsStandIn t = false by simpa using Array.all_eq_true'.1 hall t hm)⟩)
    (by kernel_rfl)
end RatioOrderCardL
end Go.Proofs.YtpdleggpmhlagaaDoor

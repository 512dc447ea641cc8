/- WindowOwn, WindowWithin. -/
import Derived.Test.YtfapnogjemfcaaaWinL
set_option linter.unusedSimpArgs false
set_option linter.unusedVariables false
namespace Go.Proofs.Ytfapnogjemfcaaa
open Go Go.J
attribute [local irreducible] At AtQ PR Ct Pu
open Win

theorem own_begin {t w : Int} (h : ofE t w = 0) : beginE (ofV t w) w = 0 ∧ beginV (ofV t w) w ≤ t ∧ t - beginV (ofV t w) w < w ∧ 0 ≤ beginV (ofV t w) w := by
  rcases ofE_cases t w with ⟨⟨h1, h2, h3, h4⟩, _, e⟩ | ⟨_, h', _⟩
  · have hd := div_bd h1 h3
    have hm := @mod_bd t w h3
    have hs := Int.emod_add_mul_ediv t w
    have hc : t / w * w = w * (t / w) := Int.mul_comm _ _
    have hle : t / w ≤ 35184372088832 / w := Int.ediv_le_ediv (by omega) (by omega)
    have hok : beginOk (t / w) w := ⟨h3, h4, hd.1, hle⟩
    rw [e]
    unfold beginE beginV
    rw [if_pos hok, if_pos hok]
    have := Int.mul_nonneg hd.1 (by omega : 0 ≤ w)
    omega
  · omega
theorem own_err {t w n : Int} (h : oldE t w n ≠ 0 ∨ ofE t w ≠ 0) : oldE t w n = 1 := by
  unfold oldE; split
  · rename_i ho
    exfalso
    rcases h with h | h
    · exact h (if_pos ho)
    · exact h (if_pos ho.1)
  · rfl
theorem own_old {t w n : Int} (h : oldE t w n = 0) : ofE t w = 0 ∧ 1 ≤ n ∧ n ≤ 4096 ∧ ofV t w = t / w ∧ oldV t w n ≤ ofV t w ∧ ofV t w - oldV t w n < n ∧ 0 ≤ oldV t w n ∧ (oldV t w n = 0 ∨ oldV t w n = t / w + 1 - n) := by
  have ho : oldOk t w n := by
    unfold oldE at h; split at h
    · assumption
    · omega
  have := ofV_bd t w
  have e : ofV t w = t / w := if_pos ho.1
  have e2 : ofE t w = 0 := if_pos ho.1
  have hn := ho.2
  refine ⟨e2, hn.1, hn.2, e, ?_⟩
  unfold oldV
  rw [if_pos ho]
  split <;> omega
theorem mod_one {i k n o c : Int} (hn : 1 ≤ n) (h0 : 0 ≤ o) (h1 : o ≤ i) (h2 : i ≤ c) (h3 : o ≤ k) (h4 : k ≤ c) (h5 : c - o < n) : (slotV i n = slotV k n) ↔ i = k := by
  constructor
  · intro h
    unfold slotV at h
    rw [if_neg (by omega), if_neg (by omega)] at h
    have e1 := Int.emod_add_mul_ediv i n
    have e2 := Int.emod_add_mul_ediv k n
    have e3 : i - k = n * (i / n - k / n) := by rw [Int.mul_sub]; omega
    have hz : i / n - k / n = 0 := by
      rcases Int.lt_trichotomy (i / n - k / n) 0 with hlt | h0 | hgt
      · exfalso
        have : n * (i / n - k / n) ≤ n * (-1) := Int.mul_le_mul_of_nonneg_left (by omega) (by omega)
        omega
      · exact h0
      · exfalso
        have : n * 1 ≤ n * (i / n - k / n) := Int.mul_le_mul_of_nonneg_left (by omega) (by omega)
        omega
    rw [hz] at e3
    omega
  · rintro rfl; rfl
theorem slot_same {i k n o c : Int} (hn : 1 ≤ n) (h0 : 0 ≤ o) (h1 : o ≤ i) (h2 : i ≤ c) (h3 : o ≤ k) (h4 : k ≤ c) (h5 : c - o < n) : (decide (slotV i n = slotV k n) == decide (i = k)) = true := by
  have := mod_one hn h0 h1 h2 h3 h4 h5
  simp [this]
theorem gone_later {t now th w n : Int} (h : goneV t now w n = true) (hle : now ≤ th) (hth : th < 35184372088832) : goneV t th w n = true := by
  unfold goneV at *
  simp only [decide_eq_true_eq] at *
  obtain ⟨h1, h2, h3⟩ := h
  obtain ⟨g1, g2, g3, g4, g5, g6, g7, g8⟩ := own_old h2
  have hok : ofOk now w := by
    rcases ofE_cases now w with ⟨a, _⟩ | ⟨_, b, _⟩
    · exact a
    · omega
  obtain ⟨k1, k2, k3, k4⟩ := hok
  have hok2 : ofOk th w := ⟨by omega, by omega, k3, k4⟩
  have ho2 : oldOk th w n := ⟨hok2, g2, g3⟩
  have hmono : now / w ≤ th / w := Int.ediv_le_ediv (by omega) hle
  refine ⟨h1, by unfold oldE; rw [if_pos ho2], ?_⟩
  have : oldV th w n = if 0 < th / w + 1 - n then th / w + 1 - n else 0 := if_pos ho2
  have h0 := ofV_bd t w
  rw [this]
  split <;> omega

set_option maxHeartbeats 4000000 in
theorem win_own (t now w n i k later : Int) (ht : -9223372036854775808 ≤ t ∧ t ≤ 9223372036854775807) (hnow : -9223372036854775808 ≤ now ∧ now ≤ 9223372036854775807) (hw : -9223372036854775808 ≤ w ∧ w ≤ 9223372036854775807) (hn : -9223372036854775808 ≤ n ∧ n ≤ 9223372036854775807)
    (hi : -9223372036854775808 ≤ i ∧ i ≤ 9223372036854775807) (hk : -9223372036854775808 ≤ k ∧ k ≤ 9223372036854775807) (hl : 0 ≤ later ∧ later ≤ 4294967295) :
    Pu Try.prog 5 #[.int .i64 t, .int .i64 now, .int .i64 w, .int .i64 n, .int .i64 i, .int .i64 k, .int .u32 later] (.bool true) := Pu.intro fun m => by
  have f1 := @own_begin t w
  have f2 := @own_err now w n
  have f3 := @own_old now w n
  have f4 := ofV_bd now w
  have f6 := ofE_cases now w
  have hnow2 : ofE now w = 0 → 0 ≤ now ∧ now ≤ 35184372088831 := fun h => by
    rcases ofE_cases now w with ⟨⟨a, b, _⟩, _⟩ | ⟨_, c, _⟩
    · exact ⟨a, b⟩
    · omega
  clear f6
  refine Ct.enterV (by rfl) Try.func5 rfl Try.ntmps5 rfl (fun w0 Rest => ?_)
  (repeat' (first | ((with_reducible apply At.seq)) | ((with_reducible apply At.nil)) | ((with_reducible apply At.then_n)) | ((with_reducible apply At.then_e)) | ((with_reducible apply At.then_r)) | ((with_reducible apply At.inb_n)) | ((with_reducible apply At.inb_r)) | ((with_reducible apply At.inb_here)) | ((with_reducible apply At.block)) | ((with_reducible apply At.skip)) | ((with_reducible apply At.exit)) | ((with_reducible apply At.ret)) | ((with_reducible apply At.inb_past); exact rfl) | ((with_reducible apply At.regionf); exact rfl) | ((with_reducible apply At.quiet); exact rfl; kernel_rfl; kernel_rfl) | ((with_reducible apply AtQ.nil)) | ((with_reducible apply At.val); (first | exact pr_move (by rfl) | exact pr_assign (by rfl) | exact pr_extract (by rfl) (by rfl) | exact pr_nilCheck (by rfl) | exact pr_lss (by rfl) (by rfl) | exact pr_leq (by rfl) (by rfl) | exact pr_gtr (by rfl) (by rfl) | exact pr_geq (by rfl) (by rfl) | exact pr_eql (by rfl) (by rfl) | exact pr_neq (by rfl) (by rfl) | exact pr_not (by rfl) | exact pr_pick_t (by rfl) (by rfl) | exact pr_pick_f (by rfl) (by rfl) | exact pr_add (by rfl) (by rfl) (IntWalk.i64_in _ (by omega)) | exact pr_add (by rfl) (by rfl) (IntWalk.u64_in _ (by omega)) | exact pr_add (by rfl) (by rfl) (IntWalk.u8_in _ (by omega)) | exact pr_add (by rfl) (by rfl) (IntWalk.u32_in _ (by omega)) | exact pr_sub (by rfl) (by rfl) (IntWalk.i64_in _ (by omega)) | exact pr_sub (by rfl) (by rfl) (IntWalk.u64_in _ (by omega)) | exact pr_sub (by rfl) (by rfl) (IntWalk.u8_in _ (by omega)) | exact pr_sub (by rfl) (by rfl) (IntWalk.u32_in _ (by omega)) | exact pr_mul (by rfl) (by rfl) (IntWalk.i64_in _ (by omega)) | exact pr_mul (by rfl) (by rfl) (IntWalk.u64_in _ (by omega)) | exact pr_quo (by rfl) (by rfl) (by omega) (IntWalk.i64_quo _ _ (by omega)) | exact pr_quo (by rfl) (by rfl) (by omega) (IntWalk.u64_quo _ _ (by omega)) | exact pr_rem (by rfl) (by rfl) (by omega) (IntWalk.rem_in _ _ (by omega)) | exact pr_min (by rfl) (by rfl) | exact pr_max (by rfl) (by rfl) | exact pr_len_sl (by rfl) (by rfl) | exact pr_len_st (by rfl) (by rfl) | exact pr_conv ⟨_, by rfl⟩ (by rfl) (by rfl) (IntWalk.i64_in _ (by omega)) | exact pr_conv ⟨_, by rfl⟩ (by rfl) (by rfl) (IntWalk.u64_in _ (by omega)) | exact pr_conv ⟨_, by rfl⟩ (by rfl) (by rfl) (IntWalk.u8_in _ (by omega)) | exact pr_conv ⟨_, by rfl⟩ (by rfl) (by rfl) (IntWalk.u32_in _ (by omega)) | exact pr_beql (by rfl) (by rfl) (by rfl) | exact pr_bneq (by rfl) (by rfl) (by rfl) | exact pr_peql (by rfl) (by rfl) (by rfl) | exact pr_pneq (by rfl) (by rfl) (by rfl) | exact pr_fieldAddr0 (by rfl) (by rfl) | exact pr_fieldAddr (by rfl) (by rfl) | exact pr_load_blk1 (by rfl) (by rfl) (by first | exact .here | exact .there .here | exact .there (.there .here) | exact .there (.there (.there .here)) | exact .there (.there (.there (.there .here))) | exact .there (.there (.there (.there (.there .here))))) (by rfl) | exact pr_load_blkN (by rfl) (by rfl) (by rfl) (by first | exact .here | exact .there .here | exact .there (.there .here) | exact .there (.there (.there .here)) | exact .there (.there (.there (.there .here))) | exact .there (.there (.there (.there (.there .here))))) (by rfl)); exact rfl) | ((with_reducible apply AtQ.val); (first | exact pr_move (by rfl) | exact pr_assign (by rfl) | exact pr_extract (by rfl) (by rfl) | exact pr_nilCheck (by rfl) | exact pr_lss (by rfl) (by rfl) | exact pr_leq (by rfl) (by rfl) | exact pr_gtr (by rfl) (by rfl) | exact pr_geq (by rfl) (by rfl) | exact pr_eql (by rfl) (by rfl) | exact pr_neq (by rfl) (by rfl) | exact pr_not (by rfl) | exact pr_pick_t (by rfl) (by rfl) | exact pr_pick_f (by rfl) (by rfl) | exact pr_add (by rfl) (by rfl) (IntWalk.i64_in _ (by omega)) | exact pr_add (by rfl) (by rfl) (IntWalk.u64_in _ (by omega)) | exact pr_add (by rfl) (by rfl) (IntWalk.u8_in _ (by omega)) | exact pr_add (by rfl) (by rfl) (IntWalk.u32_in _ (by omega)) | exact pr_sub (by rfl) (by rfl) (IntWalk.i64_in _ (by omega)) | exact pr_sub (by rfl) (by rfl) (IntWalk.u64_in _ (by omega)) | exact pr_sub (by rfl) (by rfl) (IntWalk.u8_in _ (by omega)) | exact pr_sub (by rfl) (by rfl) (IntWalk.u32_in _ (by omega)) | exact pr_mul (by rfl) (by rfl) (IntWalk.i64_in _ (by omega)) | exact pr_mul (by rfl) (by rfl) (IntWalk.u64_in _ (by omega)) | exact pr_quo (by rfl) (by rfl) (by omega) (IntWalk.i64_quo _ _ (by omega)) | exact pr_quo (by rfl) (by rfl) (by omega) (IntWalk.u64_quo _ _ (by omega)) | exact pr_rem (by rfl) (by rfl) (by omega) (IntWalk.rem_in _ _ (by omega)) | exact pr_min (by rfl) (by rfl) | exact pr_max (by rfl) (by rfl) | exact pr_len_sl (by rfl) (by rfl) | exact pr_len_st (by rfl) (by rfl) | exact pr_conv ⟨_, by rfl⟩ (by rfl) (by rfl) (IntWalk.i64_in _ (by omega)) | exact pr_conv ⟨_, by rfl⟩ (by rfl) (by rfl) (IntWalk.u64_in _ (by omega)) | exact pr_conv ⟨_, by rfl⟩ (by rfl) (by rfl) (IntWalk.u8_in _ (by omega)) | exact pr_conv ⟨_, by rfl⟩ (by rfl) (by rfl) (IntWalk.u32_in _ (by omega)) | exact pr_beql (by rfl) (by rfl) (by rfl) | exact pr_bneq (by rfl) (by rfl) (by rfl) | exact pr_peql (by rfl) (by rfl) (by rfl) | exact pr_pneq (by rfl) (by rfl) (by rfl) | exact pr_fieldAddr0 (by rfl) (by rfl) | exact pr_fieldAddr (by rfl) (by rfl) | exact pr_load_blk1 (by rfl) (by rfl) (by first | exact .here | exact .there .here | exact .there (.there .here) | exact .there (.there (.there .here)) | exact .there (.there (.there (.there .here))) | exact .there (.there (.there (.there (.there .here))))) (by rfl) | exact pr_load_blkN (by rfl) (by rfl) (by rfl) (by first | exact .here | exact .there .here | exact .there (.there .here) | exact .there (.there (.there .here)) | exact .there (.there (.there (.there .here))) | exact .there (.there (.there (.there (.there .here))))) (by rfl)); exact rfl) | ((with_reducible apply AtQ.callp); kernel_rfl; exact rfl; exact rfl; exact win_of _ _) | ((with_reducible apply At.callp); kernel_rfl; exact rfl; exact rfl; exact win_of _ _) | ((with_reducible apply AtQ.callp); kernel_rfl; exact rfl; exact rfl; exact win_begin _ _) | ((with_reducible apply At.callp); kernel_rfl; exact rfl; exact rfl; exact win_begin _ _) | ((with_reducible apply AtQ.callp); kernel_rfl; exact rfl; exact rfl; exact win_oldest _ _ _) | ((with_reducible apply At.callp); kernel_rfl; exact rfl; exact rfl; exact win_oldest _ _ _) | ((with_reducible apply AtQ.callp); kernel_rfl; exact rfl; exact rfl; exact win_slot _ _ (by omega) (by omega)) | ((with_reducible apply At.callp); kernel_rfl; exact rfl; exact rfl; exact win_slot _ _ (by omega) (by omega)) | ((with_reducible apply AtQ.callp); kernel_rfl; exact rfl; exact rfl; exact win_gone _ _ _ _) | ((with_reducible apply At.callp); kernel_rfl; exact rfl; exact rfl; exact win_gone _ _ _ _) | ((with_reducible apply AtQ.callp); kernel_rfl; exact rfl; exact rfl; exact win_lives) | ((with_reducible apply At.callp); kernel_rfl; exact rfl; exact rfl; exact win_lives) | ((with_reducible apply At.store); exact rfl; exact rfl; exact rfl; exact rfl; exact rfl; exact rfl; exact ⟨_, rfl, rfl⟩; exact (by first | exact .here | exact .there .here | exact .there (.there .here) | exact .there (.there (.there .here)) | exact .there (.there (.there (.there .here))) | exact .there (.there (.there (.there (.there .here)))))) | ((with_reducible apply At.alloc); exact rfl; exact rfl; intro _) | ((with_reducible apply At.box); exact rfl; exact rfl; exact rfl; intro _) | ((with_reducible apply AtQ.guard_y); exact rfl; exact rfl; exact rfl) | ((with_reducible apply AtQ.guard_nt); exact rfl; exact rfl; exact rfl) | ((with_reducible apply AtQ.guard_nf); exact rfl; exact rfl; exact rfl) | ((with_reducible apply AtQ.guard_nu); exact rfl; exact rfl; exact rfl) | ((with_reducible apply At.guard_y); exact rfl; exact rfl; exact rfl) | ((with_reducible apply At.guard_nt); exact rfl; exact rfl; exact rfl) | ((with_reducible apply At.guard_nf); exact rfl; exact rfl; exact rfl) | ((with_reducible apply At.guard_nu); exact rfl; exact rfl; exact rfl) | ((with_reducible apply At.cond_t); exact rfl) | ((with_reducible apply At.cond_f); exact rfl) | ((with_reducible apply At.cond); exact rfl; all_goals (intro hc; (try simp only [decide_eq_true_eq, decide_eq_false_iff_not, Bool.not_eq_true', Bool.not_eq_false', Bool.and_eq_true, Bool.or_eq_true, Bool.and_eq_false_iff, Bool.or_eq_false_iff, Bool.not_eq_eq_eq_not, Bool.not_true, Bool.not_false, beq_iff_eq, beq_eq_false_iff_ne, ne_eq, not_true_eq_false, not_false_eq_true, Bool.false_eq_true, Bool.true_eq_false, Option.isNone_none, Option.isNone_some, reduceCtorEq] at hc); (try (exfalso; first | exact absurd (by simp only [(mod_one (o := oldV now w n) (c := ofV now w) (by omega) (by omega) (by omega) (by omega) (by omega) (by omega) (by omega) : slotV i n = slotV k n ↔ i = k)] : decide (slotV i n = slotV k n) = decide (i = k)) hc | contradiction | omega | exact absurd rfl hc | exact absurd (by decide) hc)))) | ((with_reducible apply At.guard_s); exact rfl; exact rfl; all_goals (intro hc; (try simp only [decide_eq_true_eq, decide_eq_false_iff_not, Bool.not_eq_true', Bool.not_eq_false', Bool.and_eq_true, Bool.or_eq_true, Bool.and_eq_false_iff, Bool.or_eq_false_iff, Bool.not_eq_eq_eq_not, Bool.not_true, Bool.not_false, beq_iff_eq, beq_eq_false_iff_ne, ne_eq, not_true_eq_false, not_false_eq_true, Bool.false_eq_true, Bool.true_eq_false, Option.isNone_none, Option.isNone_some, reduceCtorEq] at hc); (try (exfalso; first | exact absurd (by simp only [(mod_one (o := oldV now w n) (c := ofV now w) (by omega) (by omega) (by omega) (by omega) (by omega) (by omega) (by omega) : slotV i n = slotV k n ↔ i = k)] : decide (slotV i n = slotV k n) = decide (i = k)) hc | contradiction | omega | exact absurd rfl hc | exact absurd (by decide) hc)))) | ((with_reducible apply AtQ.guard_s); exact rfl; exact rfl; all_goals (intro hc; (try simp only [decide_eq_true_eq, decide_eq_false_iff_not, Bool.not_eq_true', Bool.not_eq_false', Bool.and_eq_true, Bool.or_eq_true, Bool.and_eq_false_iff, Bool.or_eq_false_iff, Bool.not_eq_eq_eq_not, Bool.not_true, Bool.not_false, beq_iff_eq, beq_eq_false_iff_ne, ne_eq, not_true_eq_false, not_false_eq_true, Bool.false_eq_true, Bool.true_eq_false, Option.isNone_none, Option.isNone_some, reduceCtorEq] at hc); (try (exfalso; first | exact absurd (by simp only [(mod_one (o := oldV now w n) (c := ofV now w) (by omega) (by omega) (by omega) (by omega) (by omega) (by omega) (by omega) : slotV i n = slotV k n ↔ i = k)] : decide (slotV i n = slotV k n) = decide (i = k)) hc | contradiction | omega | exact absurd rfl hc | exact absurd (by decide) hc))))))
  all_goals (refine At.ret1 rfl (by rfl) (Mem.le_refl _) ⟨?_, rfl, rfl⟩ (Ent.refl _))
  all_goals first | rfl | exact congrArg Value.bool (decide_eq_true (by omega)) | exact congrArg Value.bool (gone_later (by assumption) (by omega) (by omega)) | trace_state
namespace WindowOwnL
open Go.ChangeShapes Go.WideShapes Go.ChangeAt Go.RowKit
open Go.ChangeMaps (open_string shut_string)
theorem own : ownKnob Try.prog.godebug = none := by kernel_rfl
theorem laidOut : laidOutB Try.prog = true := by kernel_rfl
set_option maxRecDepth 100000 in
theorem lifted (os : Os) (started : os.Started) (H : Type) (enc : TypeId × Value → H) :
    ReturnsInHanded {} Try.checked os 5 .any (Rows.windowOwnSpec.pre6 enc Try.prog Try.f5 Rows.windowOwnRow.domain false) (Rows.windowOwnSpec.post enc Try.prog Try.f5 false true false false) := by
  refine returnsInHanded_of_change (C := Try.checked) own started (by kernel_rfl) Try.func5
    (ChangeSpec.witness6 (enc := enc) (C := Try.checked) false ⟨#[], #[.int .i64 0, .int .i64 0, .int .i64 0, .int .i64 0, .int .i64 0, .int .i64 0, .int .u32 0], []⟩ 8 (by kernel_rfl) (by kernel_rfl) (by kernel_rfl) (by kernel_rfl)) ?_
  intro W base args ds gs before hval0 hW hcnd _
  have hval : ∀ (j : Nat) t v, Try.f5.params[j]? = some t → args[j]? = some v → Value.okWide Try.prog W .any base t v := hval0
  have hW' := hW
  obtain ⟨p, q, hA0, hV, rfl, hfz, hnd⟩ := hW
  have hA : DataW.TrodAll enc Try.prog W 0 (fun _ => true) true Try.f5.params.toList args.toList ds p := hA0
  rw [Try.params5] at hA hval
  obtain ⟨rfl, rfl⟩ := trodVars_none hV
  have hlt : ∀ x ∈ p, x.block < W.heap.size := fun x hx => hW'.lt x (by simpa using hx)
  have hback := fun (W' : World) (bel : Below W.heap.size W W') => trodAll_below laidOut bel _ _ _ _ (by kernel_rfl) hA hlt
  obtain ⟨v0, vs0, d0, ds0, p0, q0, hargs, rfl, rfl, h0, r0⟩ := trodAll_cons hA
  obtain ⟨v1, vs1, d1, ds1, p1, q1, rfl, rfl, rfl, h1, r1⟩ := trodAll_cons r0
  obtain ⟨v2, vs2, d2, ds2, p2, q2, rfl, rfl, rfl, h2, r2⟩ := trodAll_cons r1
  obtain ⟨v3, vs3, d3, ds3, p3, q3, rfl, rfl, rfl, h3, r3⟩ := trodAll_cons r2
  obtain ⟨v4, vs4, d4, ds4, p4, q4, rfl, rfl, rfl, h4, r4⟩ := trodAll_cons r3
  obtain ⟨v5, vs5, d5, ds5, p5, q5, rfl, rfl, rfl, h5, r5⟩ := trodAll_cons r4
  obtain ⟨v6, vs6, d6, ds6, p6, q6, rfl, rfl, rfl, h6, r6⟩ := trodAll_cons r5
  obtain ⟨rfl, rfl, rfl⟩ := trodAll_nil r6
  obtain rfl : args = #[v0, v1, v2, v3, v4, v5, v6] := by cases args; simp_all
  obtain ⟨a0, rfl, rfl, rfl, w0⟩ := open_int Try.underlying2 (hval 0 2 v0 rfl rfl) h0
  obtain ⟨a1, rfl, rfl, rfl, w1⟩ := open_int Try.underlying2 (hval 1 2 v1 rfl rfl) h1
  obtain ⟨a2, rfl, rfl, rfl, w2⟩ := open_int Try.underlying2 (hval 2 2 v2 rfl rfl) h2
  obtain ⟨a3, rfl, rfl, rfl, w3⟩ := open_int Try.underlying3 (hval 3 3 v3 rfl rfl) h3
  obtain ⟨a4, rfl, rfl, rfl, w4⟩ := open_int Try.underlying2 (hval 4 2 v4 rfl rfl) h4
  obtain ⟨a5, rfl, rfl, rfl, w5⟩ := open_int Try.underlying2 (hval 5 2 v5 rfl rfl) h5
  obtain ⟨a6, rfl, rfl, rfl, w6⟩ := open_int Try.underlying43 (hval 6 43 v6 rfl rfl) h6
  refine (law_calls_pu (win_own a0 a1 a2 a3 a4 a5 a6 (bounds_i64 w0) (bounds_i64 w1) (bounds_i64 w2) (bounds_i64 w3) (bounds_i64 w4) (bounds_i64 w5) (bounds_u32 w6))).mono fun e W' ⟨he, bel⟩ => ?_
  subst he
  exact ⟨_, rfl, _, _, _, [], _, [], hW', trodAll_mk1 (shut_bool Try.underlying4 _), hback W' bel, rfl, bel.frame _, fun h => by cases h⟩
theorem over : Rows.windowOwnRow.holds Try.pinned (OpenSpec.ofChange Rows.windowOwnSpec) :=
  OpenClaim.holds_of_wide 5 Try.f5 rfl rfl rfl rfl rfl rfl rfl ⟨rfl, rfl, rfl, rfl, rfl⟩ rfl rfl rfl rfl rfl (by kernel_rfl) Try.func5 (by kernel_rfl)
    (of_decide_eq_true (by kernel_rfl)) (by unfold Func.isWrapper; first | (rw [if_pos (by decide +kernel)]; kernel_rfl) | (rw [if_neg (by decide +kernel)]; exact ⟨rfl, rfl⟩))
    (fun os started H enc _ => lifted os started H enc)
theorem proved : Rows.WindowOwnSaid := over
end WindowOwnL

theorem within_e {t w k : Int} (hw : 1 ≤ w) (hw2 : w ≤ 16777216) (hk : 1 ≤ k) (hk2 : k ≤ 65535) : 1 ≤ w * k ∧ w * k ≤ 1099511627776 ∧ ofE t w = ofE t (w * k) := by
  have h1 : 1 * 1 ≤ w * k := Int.mul_le_mul hw hk (by omega) (by omega)
  have h2 : w * k ≤ 16777216 * 65535 := Int.mul_le_mul hw2 hk2 (by omega) (by omega)
  refine ⟨by omega, by omega, ?_⟩
  unfold ofE
  by_cases h : ofOk t w
  · rw [if_pos h, if_pos ⟨h.1, h.2.1, by omega, by omega⟩]
  · rw [if_neg h, if_neg (fun g => h ⟨g.1, g.2.1, by omega, by omega⟩)]
theorem within_q {t w k : Int} (hw : 1 ≤ w) (hk : 1 ≤ k) (h : ofE t w = 0) (h' : ofE t (w * k) = 0) : ofV t w / k = ofV t (w * k) := by
  rcases ofE_cases t w with ⟨_, _, e⟩ | ⟨_, c, _⟩
  · rcases ofE_cases t (w * k) with ⟨_, _, e'⟩ | ⟨_, c, _⟩
    · rw [e, e', Int.ediv_ediv, if_neg (by omega), Int.sub_zero]
    · omega
  · omega
theorem within_s {t w k : Int} (hw : 1 ≤ w) (hw2 : w ≤ 16777216) (hk : 1 ≤ k) (hk2 : k ≤ 65535) (h : ofE t w = 0) (h' : ofE t (w * k) = 0) (hle : beginV (ofV t (w * k)) (w * k) + w * k ≤ 35184372088832) :
    spanE (beginV (ofV t (w * k)) (w * k)) (beginV (ofV t (w * k)) (w * k) + w * k) w = 0 ∧ spanA (beginV (ofV t (w * k)) (w * k)) (beginV (ofV t (w * k)) (w * k) + w * k) w ≤ ofV t w ∧
    ofV t w < spanB (beginV (ofV t (w * k)) (w * k)) (beginV (ofV t (w * k)) (w * k) + w * k) w ∧
    spanB (beginV (ofV t (w * k)) (w * k)) (beginV (ofV t (w * k)) (w * k) + w * k) w - spanA (beginV (ofV t (w * k)) (w * k)) (beginV (ofV t (w * k)) (w * k) + w * k) w = k := by
  have hb := own_begin h'
  have hq := within_q hw hk h h'
  obtain ⟨g1, g2, g3⟩ := @within_e t w k hw hw2 hk hk2
  have hv := ofV_bd t w
  have hv' := ofV_bd t (w * k)
  generalize hx : ofV t w = x at *
  generalize hy : ofV t (w * k) = y at *
  have hok : beginOk y (w * k) := by
    apply Classical.byContradiction; intro hn
    have := hb.1
    unfold beginE at this
    rw [if_neg hn] at this
    omega
  have hbv : beginV y (w * k) = y * (w * k) := if_pos hok
  rw [hbv] at hle hb ⊢
  have e1 : y * (w * k) = y * k * w := by rw [Int.mul_comm w k, Int.mul_assoc]
  have e2 : y * (w * k) + w * k = (y + 1) * k * w := by rw [Int.add_mul, Int.add_mul, e1, Int.one_mul, Int.mul_comm w k]
  have hA : y * (w * k) / w = y * k := by rw [e1]; exact Int.mul_ediv_cancel _ (by omega)
  have hB : (y * (w * k) + w * k) / w = (y + 1) * k := by rw [e2]; exact Int.mul_ediv_cancel _ (by omega)
  have hU : spanU (y * (w * k)) (y * (w * k) + w * k) w = true := decide_eq_true ⟨by rw [e1]; exact Int.mul_emod_left _ _, by rw [e2]; exact Int.mul_emod_left _ _⟩
  have hR : spanR (y * (w * k)) (y * (w * k) + w * k) w = true := decide_eq_true ⟨hw, by omega, by omega, hle, by omega⟩
  simp only [spanE, spanA, spanB, hU, hR, if_true, Bool.and_self, hA, hB]
  have hd := Int.emod_add_mul_ediv x k
  have hm := @mod_bd x k hk
  rw [hq] at hd
  have e3 : (y + 1) * k = y * k + k := by rw [Int.add_mul, Int.one_mul]
  have e4 : k * y = y * k := Int.mul_comm _ _
  refine ⟨trivial, ?_, ?_, ?_⟩

  all_goals omega
set_option maxHeartbeats 4000000 in
theorem win_within (t w k : Int) (ht : -9223372036854775808 ≤ t ∧ t ≤ 9223372036854775807) (hw : -9223372036854775808 ≤ w ∧ w ≤ 9223372036854775807) (hk : 0 ≤ k ∧ k ≤ 65535) :
    Pu Try.prog 6 #[.int .i64 t, .int .i64 w, .int .u16 k] (.bool true) := Pu.intro fun m => by
  have f1 := @within_e t w k
  have f2 := @within_q t w k
  have f3 := @within_s t w k
  have f4 := @own_begin t (w * k)
  have f5 := ofV_bd t w
  have f6 : ∀ e, ofE t w = e → e ≠ 0 → ofV t w = 0 := fun e h h0 => by rcases ofE_cases t w with h' | h' <;> omega
  have f7 : ∀ e, ofE t (w * k) = e → e ≠ 0 → ofV t (w * k) = 0 := fun e h h0 => by rcases ofE_cases t (w * k) with h' | h' <;> omega
  have f8 : ofE t w = 0 → 0 ≤ t ∧ t ≤ 35184372088831 := fun h => by
    rcases ofE_cases t w with ⟨⟨a, b, _⟩, _⟩ | ⟨_, c, _⟩
    · exact ⟨a, b⟩
    · omega
  have f6' := f6 _ rfl
  have f7' := f7 _ rfl
  clear f6 f7
  refine Ct.enterV (by rfl) Try.func6 rfl Try.ntmps6 rfl (fun w0 Rest => ?_)
  (repeat' (first | ((with_reducible apply At.seq)) | ((with_reducible apply At.nil)) | ((with_reducible apply At.then_n)) | ((with_reducible apply At.then_e)) | ((with_reducible apply At.then_r)) | ((with_reducible apply At.inb_n)) | ((with_reducible apply At.inb_r)) | ((with_reducible apply At.inb_here)) | ((with_reducible apply At.block)) | ((with_reducible apply At.skip)) | ((with_reducible apply At.exit)) | ((with_reducible apply At.ret)) | ((with_reducible apply At.inb_past); exact rfl) | ((with_reducible apply At.regionf); exact rfl) | ((with_reducible apply At.quiet); exact rfl; kernel_rfl; kernel_rfl) | ((with_reducible apply AtQ.nil)) | ((with_reducible apply At.val); (first | exact pr_move (by rfl) | exact pr_assign (by rfl) | exact pr_extract (by rfl) (by rfl) | exact pr_nilCheck (by rfl) | exact pr_lss (by rfl) (by rfl) | exact pr_leq (by rfl) (by rfl) | exact pr_gtr (by rfl) (by rfl) | exact pr_geq (by rfl) (by rfl) | exact pr_eql (by rfl) (by rfl) | exact pr_neq (by rfl) (by rfl) | exact pr_not (by rfl) | exact pr_pick_t (by rfl) (by rfl) | exact pr_pick_f (by rfl) (by rfl) | exact pr_add (by rfl) (by rfl) (IntWalk.i64_in _ (by omega)) | exact pr_add (by rfl) (by rfl) (IntWalk.u64_in _ (by omega)) | exact pr_add (by rfl) (by rfl) (IntWalk.u8_in _ (by omega)) | exact pr_add (by rfl) (by rfl) (IntWalk.u32_in _ (by omega)) | exact pr_sub (by rfl) (by rfl) (IntWalk.i64_in _ (by omega)) | exact pr_sub (by rfl) (by rfl) (IntWalk.u64_in _ (by omega)) | exact pr_sub (by rfl) (by rfl) (IntWalk.u8_in _ (by omega)) | exact pr_sub (by rfl) (by rfl) (IntWalk.u32_in _ (by omega)) | exact pr_mul (by rfl) (by rfl) (IntWalk.i64_in _ (by omega)) | exact pr_mul (by rfl) (by rfl) (IntWalk.u64_in _ (by omega)) | exact pr_quo (by rfl) (by rfl) (by omega) (IntWalk.i64_quo _ _ (by omega)) | exact pr_quo (by rfl) (by rfl) (by omega) (IntWalk.u64_quo _ _ (by omega)) | exact pr_rem (by rfl) (by rfl) (by omega) (IntWalk.rem_in _ _ (by omega)) | exact pr_min (by rfl) (by rfl) | exact pr_max (by rfl) (by rfl) | exact pr_len_sl (by rfl) (by rfl) | exact pr_len_st (by rfl) (by rfl) | exact pr_conv ⟨_, by rfl⟩ (by rfl) (by rfl) (IntWalk.i64_in _ (by omega)) | exact pr_conv ⟨_, by rfl⟩ (by rfl) (by rfl) (IntWalk.u64_in _ (by omega)) | exact pr_conv ⟨_, by rfl⟩ (by rfl) (by rfl) (IntWalk.u8_in _ (by omega)) | exact pr_conv ⟨_, by rfl⟩ (by rfl) (by rfl) (IntWalk.u32_in _ (by omega)) | exact pr_beql (by rfl) (by rfl) (by rfl) | exact pr_bneq (by rfl) (by rfl) (by rfl) | exact pr_peql (by rfl) (by rfl) (by rfl) | exact pr_pneq (by rfl) (by rfl) (by rfl) | exact pr_fieldAddr0 (by rfl) (by rfl) | exact pr_fieldAddr (by rfl) (by rfl) | exact pr_load_blk1 (by rfl) (by rfl) (by first | exact .here | exact .there .here | exact .there (.there .here) | exact .there (.there (.there .here)) | exact .there (.there (.there (.there .here))) | exact .there (.there (.there (.there (.there .here))))) (by rfl) | exact pr_load_blkN (by rfl) (by rfl) (by rfl) (by first | exact .here | exact .there .here | exact .there (.there .here) | exact .there (.there (.there .here)) | exact .there (.there (.there (.there .here))) | exact .there (.there (.there (.there (.there .here))))) (by rfl)); exact rfl) | ((with_reducible apply AtQ.val); (first | exact pr_move (by rfl) | exact pr_assign (by rfl) | exact pr_extract (by rfl) (by rfl) | exact pr_nilCheck (by rfl) | exact pr_lss (by rfl) (by rfl) | exact pr_leq (by rfl) (by rfl) | exact pr_gtr (by rfl) (by rfl) | exact pr_geq (by rfl) (by rfl) | exact pr_eql (by rfl) (by rfl) | exact pr_neq (by rfl) (by rfl) | exact pr_not (by rfl) | exact pr_pick_t (by rfl) (by rfl) | exact pr_pick_f (by rfl) (by rfl) | exact pr_add (by rfl) (by rfl) (IntWalk.i64_in _ (by omega)) | exact pr_add (by rfl) (by rfl) (IntWalk.u64_in _ (by omega)) | exact pr_add (by rfl) (by rfl) (IntWalk.u8_in _ (by omega)) | exact pr_add (by rfl) (by rfl) (IntWalk.u32_in _ (by omega)) | exact pr_sub (by rfl) (by rfl) (IntWalk.i64_in _ (by omega)) | exact pr_sub (by rfl) (by rfl) (IntWalk.u64_in _ (by omega)) | exact pr_sub (by rfl) (by rfl) (IntWalk.u8_in _ (by omega)) | exact pr_sub (by rfl) (by rfl) (IntWalk.u32_in _ (by omega)) | exact pr_mul (by rfl) (by rfl) (IntWalk.i64_in _ (by omega)) | exact pr_mul (by rfl) (by rfl) (IntWalk.u64_in _ (by omega)) | exact pr_quo (by rfl) (by rfl) (by omega) (IntWalk.i64_quo _ _ (by omega)) | exact pr_quo (by rfl) (by rfl) (by omega) (IntWalk.u64_quo _ _ (by omega)) | exact pr_rem (by rfl) (by rfl) (by omega) (IntWalk.rem_in _ _ (by omega)) | exact pr_min (by rfl) (by rfl) | exact pr_max (by rfl) (by rfl) | exact pr_len_sl (by rfl) (by rfl) | exact pr_len_st (by rfl) (by rfl) | exact pr_conv ⟨_, by rfl⟩ (by rfl) (by rfl) (IntWalk.i64_in _ (by omega)) | exact pr_conv ⟨_, by rfl⟩ (by rfl) (by rfl) (IntWalk.u64_in _ (by omega)) | exact pr_conv ⟨_, by rfl⟩ (by rfl) (by rfl) (IntWalk.u8_in _ (by omega)) | exact pr_conv ⟨_, by rfl⟩ (by rfl) (by rfl) (IntWalk.u32_in _ (by omega)) | exact pr_beql (by rfl) (by rfl) (by rfl) | exact pr_bneq (by rfl) (by rfl) (by rfl) | exact pr_peql (by rfl) (by rfl) (by rfl) | exact pr_pneq (by rfl) (by rfl) (by rfl) | exact pr_fieldAddr0 (by rfl) (by rfl) | exact pr_fieldAddr (by rfl) (by rfl) | exact pr_load_blk1 (by rfl) (by rfl) (by first | exact .here | exact .there .here | exact .there (.there .here) | exact .there (.there (.there .here)) | exact .there (.there (.there (.there .here))) | exact .there (.there (.there (.there (.there .here))))) (by rfl) | exact pr_load_blkN (by rfl) (by rfl) (by rfl) (by first | exact .here | exact .there .here | exact .there (.there .here) | exact .there (.there (.there .here)) | exact .there (.there (.there (.there .here))) | exact .there (.there (.there (.there (.there .here))))) (by rfl)); exact rfl) | ((with_reducible apply AtQ.callp); kernel_rfl; exact rfl; exact rfl; exact win_of _ _) | ((with_reducible apply At.callp); kernel_rfl; exact rfl; exact rfl; exact win_of _ _) | ((with_reducible apply AtQ.callp); kernel_rfl; exact rfl; exact rfl; exact win_begin _ _) | ((with_reducible apply At.callp); kernel_rfl; exact rfl; exact rfl; exact win_begin _ _) | ((with_reducible apply AtQ.callp); kernel_rfl; exact rfl; exact rfl; exact win_span _ _ _) | ((with_reducible apply At.callp); kernel_rfl; exact rfl; exact rfl; exact win_span _ _ _) | ((with_reducible apply AtQ.callp); kernel_rfl; exact rfl; exact rfl; exact win_lives) | ((with_reducible apply At.callp); kernel_rfl; exact rfl; exact rfl; exact win_lives) | ((with_reducible apply At.store); exact rfl; exact rfl; exact rfl; exact rfl; exact rfl; exact rfl; exact ⟨_, rfl, rfl⟩; exact (by first | exact .here | exact .there .here | exact .there (.there .here) | exact .there (.there (.there .here)) | exact .there (.there (.there (.there .here))) | exact .there (.there (.there (.there (.there .here)))))) | ((with_reducible apply At.alloc); exact rfl; exact rfl; intro _) | ((with_reducible apply At.box); exact rfl; exact rfl; exact rfl; intro _) | ((with_reducible apply AtQ.guard_y); exact rfl; exact rfl; exact rfl) | ((with_reducible apply AtQ.guard_nt); exact rfl; exact rfl; exact rfl) | ((with_reducible apply AtQ.guard_nf); exact rfl; exact rfl; exact rfl) | ((with_reducible apply AtQ.guard_nu); exact rfl; exact rfl; exact rfl) | ((with_reducible apply At.guard_y); exact rfl; exact rfl; exact rfl) | ((with_reducible apply At.guard_nt); exact rfl; exact rfl; exact rfl) | ((with_reducible apply At.guard_nf); exact rfl; exact rfl; exact rfl) | ((with_reducible apply At.guard_nu); exact rfl; exact rfl; exact rfl) | ((with_reducible apply At.cond_t); exact rfl) | ((with_reducible apply At.cond_f); exact rfl) | ((with_reducible apply At.cond); exact rfl; all_goals (intro hc; (try simp only [decide_eq_true_eq, decide_eq_false_iff_not, Bool.not_eq_true', Bool.not_eq_false', Bool.and_eq_true, Bool.or_eq_true, Bool.and_eq_false_iff, Bool.or_eq_false_iff, Bool.not_eq_eq_eq_not, Bool.not_true, Bool.not_false, beq_iff_eq, beq_eq_false_iff_ne, ne_eq, not_true_eq_false, not_false_eq_true, Bool.false_eq_true, Bool.true_eq_false, Option.isNone_none, Option.isNone_some, reduceCtorEq] at hc); (try (exfalso; first | contradiction | omega | exact absurd rfl hc | exact absurd (by decide) hc)))) | ((with_reducible apply At.guard_s); exact rfl; exact rfl; all_goals (intro hc; (try simp only [decide_eq_true_eq, decide_eq_false_iff_not, Bool.not_eq_true', Bool.not_eq_false', Bool.and_eq_true, Bool.or_eq_true, Bool.and_eq_false_iff, Bool.or_eq_false_iff, Bool.not_eq_eq_eq_not, Bool.not_true, Bool.not_false, beq_iff_eq, beq_eq_false_iff_ne, ne_eq, not_true_eq_false, not_false_eq_true, Bool.false_eq_true, Bool.true_eq_false, Option.isNone_none, Option.isNone_some, reduceCtorEq] at hc); (try (exfalso; first | contradiction | omega | exact absurd rfl hc | exact absurd (by decide) hc)))) | ((with_reducible apply AtQ.guard_s); exact rfl; exact rfl; all_goals (intro hc; (try simp only [decide_eq_true_eq, decide_eq_false_iff_not, Bool.not_eq_true', Bool.not_eq_false', Bool.and_eq_true, Bool.or_eq_true, Bool.and_eq_false_iff, Bool.or_eq_false_iff, Bool.not_eq_eq_eq_not, Bool.not_true, Bool.not_false, beq_iff_eq, beq_eq_false_iff_ne, ne_eq, not_true_eq_false, not_false_eq_true, Bool.false_eq_true, Bool.true_eq_false, Option.isNone_none, Option.isNone_some, reduceCtorEq] at hc); (try (exfalso; first | contradiction | omega | exact absurd rfl hc | exact absurd (by decide) hc))))))
  all_goals (refine At.ret1 rfl (by rfl) (Mem.le_refl _) ⟨?_, rfl, rfl⟩ (Ent.refl _))
  all_goals first | rfl | exact congrArg Value.bool (decide_eq_true (by omega)) | trace_state
namespace WindowWithinL
open Go.ChangeShapes Go.WideShapes Go.ChangeAt Go.RowKit
open Go.ChangeMaps (open_string shut_string)
theorem own : ownKnob Try.prog.godebug = none := by kernel_rfl
theorem laidOut : laidOutB Try.prog = true := by kernel_rfl
set_option maxRecDepth 100000 in
theorem lifted (os : Os) (started : os.Started) (H : Type) (enc : TypeId × Value → H) :
    ReturnsInHanded {} Try.checked os 6 .any (Rows.windowWithinSpec.pre6 enc Try.prog Try.f6 Rows.windowWithinRow.domain false) (Rows.windowWithinSpec.post enc Try.prog Try.f6 false true false false) := by
  refine returnsInHanded_of_change (C := Try.checked) own started (by kernel_rfl) Try.func6
    (ChangeSpec.witness6 (enc := enc) (C := Try.checked) false ⟨#[], #[.int .i64 0, .int .i64 0, .int .u16 0], []⟩ 8 (by kernel_rfl) (by kernel_rfl) (by kernel_rfl) (by kernel_rfl)) ?_
  intro W base args ds gs before hval0 hW hcnd _
  have hval : ∀ (j : Nat) t v, Try.f6.params[j]? = some t → args[j]? = some v → Value.okWide Try.prog W .any base t v := hval0
  have hW' := hW
  obtain ⟨p, q, hA0, hV, rfl, hfz, hnd⟩ := hW
  have hA : DataW.TrodAll enc Try.prog W 0 (fun _ => true) true Try.f6.params.toList args.toList ds p := hA0
  rw [Try.params6] at hA hval
  obtain ⟨rfl, rfl⟩ := trodVars_none hV
  have hlt : ∀ x ∈ p, x.block < W.heap.size := fun x hx => hW'.lt x (by simpa using hx)
  have hback := fun (W' : World) (bel : Below W.heap.size W W') => trodAll_below laidOut bel _ _ _ _ (by kernel_rfl) hA hlt
  obtain ⟨v0, vs0, d0, ds0, p0, q0, hargs, rfl, rfl, h0, r0⟩ := trodAll_cons hA
  obtain ⟨v1, vs1, d1, ds1, p1, q1, rfl, rfl, rfl, h1, r1⟩ := trodAll_cons r0
  obtain ⟨v2, vs2, d2, ds2, p2, q2, rfl, rfl, rfl, h2, r2⟩ := trodAll_cons r1
  obtain ⟨rfl, rfl, rfl⟩ := trodAll_nil r2
  obtain rfl : args = #[v0, v1, v2] := by cases args; simp_all
  obtain ⟨a0, rfl, rfl, rfl, w0⟩ := open_int Try.underlying2 (hval 0 2 v0 rfl rfl) h0
  obtain ⟨a1, rfl, rfl, rfl, w1⟩ := open_int Try.underlying2 (hval 1 2 v1 rfl rfl) h1
  obtain ⟨a2, rfl, rfl, rfl, w2⟩ := open_int Try.underlying45 (hval 2 45 v2 rfl rfl) h2
  refine (law_calls_pu (win_within a0 a1 a2 (bounds_i64 w0) (bounds_i64 w1) (bounds_u16 w2))).mono fun e W' ⟨he, bel⟩ => ?_
  subst he
  exact ⟨_, rfl, _, _, _, [], _, [], hW', trodAll_mk1 (shut_bool Try.underlying4 _), hback W' bel, rfl, bel.frame _, fun h => by cases h⟩
theorem over : Rows.windowWithinRow.holds Try.pinned (OpenSpec.ofChange Rows.windowWithinSpec) :=
  OpenClaim.holds_of_wide 6 Try.f6 rfl rfl rfl rfl rfl rfl rfl ⟨rfl, rfl, rfl, rfl, rfl⟩ rfl rfl rfl rfl rfl (by kernel_rfl) Try.func6 (by kernel_rfl)
    (of_decide_eq_true (by kernel_rfl)) (by unfold Func.isWrapper; first | (rw [if_pos (by decide +kernel)]; kernel_rfl) | (rw [if_neg (by decide +kernel)]; exact ⟨rfl, rfl⟩))
    (fun os started H enc _ => lifted os started H enc)
theorem proved : Rows.WindowWithinSaid := over
end WindowWithinL
end Go.Proofs.Ytfapnogjemfcaaa

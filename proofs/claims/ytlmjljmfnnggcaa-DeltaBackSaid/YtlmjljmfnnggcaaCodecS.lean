/- The document's reader, the rest; what both readers tell alike. -/
import Derived.Test.YtlmjljmfnnggcaaCodecR
set_option linter.unusedSimpArgs false
set_option linter.unusedVariables false
set_option linter.unusedSectionVars false
set_option maxRecDepth 20000
namespace Go.Proofs.Ytlmjljmfnnggcaa
open Go Go.J
attribute [local irreducible] At AtQ AtM AtM1 PR Ct Pu Rd Res.blk Res.own Res.ex RVs RV Cod.W
namespace Cod
def Ok (s : RS) : Prop := s.2 = true → s.1 = []
theorem Ok.rU {s : RS} (h : Ok s) : Ok (rU s).2 := by
  unfold Cod.rU
  cases hd : dec 0 s.1 with
  | none => exact fun _ => rfl
  | some x =>
    intro hb
    rw [h hb] at hd; cases hd
theorem Ok.rR {s : RS} (n : Int) : Ok (rR n s).2 := by
  unfold Cod.rR
  split
  · exact fun _ => rfl
  · intro h; cases h
theorem Ok.rT {s : RS} (n : Int) : Ok (rT n s).2 := by
  unfold Cod.rT
  split
  · exact fun _ => rfl
  · exact Ok.rR _
theorem Ok.rF {s : RS} (n : Int) : Ok (rF n s).2 := by
  unfold Cod.rF
  split
  · exact Ok.rR _
  · exact fun _ => rfl
theorem rU_bad {s : RS} (h : Ok s) (hb : (Cod.rU s).2.2 = true) : Cod.rU s = (0, ([], true)) := by
  unfold Cod.rU at *
  cases hd : dec 0 s.1 with
  | none => rfl
  | some x =>
    rw [hd] at hb
    rw [h hb] at hd; cases hd
theorem rR_le {s : RS} (n : Int) : (Cod.rR n s).2.1.length ≤ s.1.length := by
  unfold Cod.rR
  split
  · simp
  · simp
theorem rT_le {s : RS} (n : Int) : (Cod.rT n s).2.1.length ≤ s.1.length := by
  unfold Cod.rT
  split
  · simp
  · exact Nat.le_trans (rR_le _) (rU_le s)
theorem rF_le {s : RS} (n : Int) : (Cod.rF n s).2.1.length ≤ s.1.length := by
  unfold Cod.rF
  split
  · exact rR_le _
  · simp

theorem rvI {m : Mem} (s : RS) (hl : s.1.length ≤ 30000000000) (hb : Ok s) : Ct Try.prog 24 #[rv s] m [] (fun v m' B => v = .tuple #[rv (rI s).2, .int .i64 (rI s).1] ∧ m = m' ∧ B = []) := by
  have hU := rU_lt s
  by_cases h2 : (rU s).1 % 2 = 1
  · have e : (rI s).1 = -(((rU s).1 / 2 : Nat) : Int) - 1 := if_pos h2
    rw [e]
    refine Ct.enterV (by rfl) Try.func24 rfl Try.ntmps24 rfl (fun w0 Rest => ?_)
    (repeat' (first | (with_reducible first | apply At.app0 | apply At.app1 | apply At.app2 | apply At.app3 | apply At.app4 | apply At.app5 | apply At.app6 | apply At.app7) | (with_reducible first | apply At.seq | apply At.nil | apply At.then_n | apply At.then_e | apply At.then_r | apply At.inb_n | apply At.inb_r | apply At.inb_here | apply At.block | apply At.skip | apply At.exit | apply At.ret | apply At.scope | apply At.label | apply At.nog_n | apply At.nog_r | apply At.nog_e | apply AtQ.nil) | ((with_reducible first | apply At.inb_past | apply At.regionf); exact rfl) | ((with_reducible apply At.quiet); exact rfl; kernel_rfl; kernel_rfl) | ((first | (with_reducible first | apply At.val | apply AtQ.val)); (first | ((with_reducible first | apply pr_move | apply pr_assign | apply pr_extract | apply pr_eql | apply pr_field1 | apply pr_xor) <;> exact rfl) | ((with_reducible first | apply pr_beql | apply pr_fieldN) <;> exact rfl) | ((with_reducible apply pr_peql) <;> exact rfl) | ((with_reducible apply pr_streq) <;> exact rfl) | ((with_reducible apply pr_sub); exact rfl; exact rfl; (first | exact IntWalk.i64_in _ (by omega) | exact IntWalk.u64_in _ (by omega) | exact IntWalk.u8_in _ (by omega) | exact IntWalk.u32_in _ (by omega) | exact IntKind.wrap_u64 _ | exact IntKind.wrap_i64 _ | exact IntKind.wrap_u32 _ | exact IntKind.wrap_u8 _)) | ((with_reducible apply pr_quo); exact rfl; exact rfl; omega; (first | exact IntWalk.i64_quo _ _ (by omega) | exact IntWalk.u64_quo _ _ (by omega))) | ((with_reducible apply pr_rem); exact rfl; exact rfl; omega; exact IntWalk.rem_in _ _ (by omega)) | ((with_reducible apply pr_conv); exact ⟨_, rfl⟩; exact rfl; exact rfl; (first | exact IntWalk.i64_in _ (by omega) | exact IntWalk.u64_in _ (by omega) | exact IntWalk.u8_in _ (by omega) | exact IntWalk.u32_in _ (by omega) | exact IntKind.wrap_u64 _ | exact IntKind.wrap_i64 _ | exact IntKind.wrap_u32 _ | exact IntKind.wrap_u8 _)) | ((with_reducible apply pr_load_blk1); exact rfl; exact rfl; exact (by repeat constructor); exact rfl) | ((with_reducible apply pr_load_blkN); exact rfl; exact rfl; exact rfl; exact (by repeat constructor); exact rfl) | ((with_reducible apply pr_aggeq); exact rfl; exact rfl; exact rfl; kernel_rfl; exact rfl) | ((with_reducible apply pr_neg); exact rfl; (first | exact IntWalk.i64_in _ (by omega) | exact IntWalk.u64_in _ (by omega) | exact IntWalk.u8_in _ (by omega) | exact IntWalk.u32_in _ (by omega) | exact IntKind.wrap_u64 _ | exact IntKind.wrap_i64 _ | exact IntKind.wrap_u32 _ | exact IntKind.wrap_u8 _))); exact rfl) | ((first | ((with_reducible apply At.callt1); kernel_rfl; exact rfl; exact rfl) | ((with_reducible apply At.callt0); kernel_rfl; exact rfl)); exact rvU s hl hb; (repeat' (first | exact Take.nil | ((with_reducible apply Take.cons); exact (by repeat constructor)))); rintro v' m' B' hm' ⟨rfl, rfl, rfl⟩; skip) | ((with_reducible apply At.storeB); exact rfl; exact rfl; exact rfl; exact rfl; exact rfl; exact rfl; exact (by repeat constructor); exact rfl) | ((with_reducible apply At.box (d := 1)); exact rfl; exact rfl; exact rfl; intro b1) | ((with_reducible apply At.alloc (d := 2)); exact rfl; exact rfl; intro b2) | ((with_reducible first | apply AtQ.guard_y | apply At.guard_y); exact rfl; exact rfl; exact rfl) | ((with_reducible first | apply AtQ.guard_nt | apply At.guard_nt); exact rfl; exact rfl; exact rfl) | ((with_reducible first | apply AtQ.guard_nf | apply At.guard_nf); exact rfl; exact rfl; exact rfl) | ((with_reducible first | apply AtQ.guard_nu | apply At.guard_nu); exact rfl; exact rfl; exact rfl) | ((with_reducible first | apply At.cond_t | apply At.cond_f); exact rfl) | ((with_reducible apply At.cond_f); exact rfl) | ((with_reducible apply At.cond); exact rfl; all_goals (intro hc; (try simp only [decide_eq_true_eq, decide_eq_false_iff_not, Bool.not_eq_true', Bool.not_eq_false', Bool.and_eq_true, Bool.or_eq_true, Bool.and_eq_false_iff, Bool.or_eq_false_iff, Bool.not_eq_eq_eq_not, Bool.not_true, Bool.not_false, beq_iff_eq, beq_eq_false_iff_ne, ne_eq, not_true_eq_false, not_false_eq_true, Bool.false_eq_true, Bool.true_eq_false, Option.isNone_none, Option.isNone_some, reduceCtorEq, andL_cons, andL_nil, Bool.and_true, and_true] at hc); (try (exfalso; first | omega | contradiction | omega | exact absurd rfl hc | exact absurd (by decide) hc)))) | ((with_reducible first | apply At.guard_s | apply AtQ.guard_s); exact rfl; exact rfl; all_goals (intro hc; (try simp only [decide_eq_true_eq, decide_eq_false_iff_not, Bool.not_eq_true', Bool.not_eq_false', Bool.and_eq_true, Bool.or_eq_true, Bool.and_eq_false_iff, Bool.or_eq_false_iff, Bool.not_eq_eq_eq_not, Bool.not_true, Bool.not_false, beq_iff_eq, beq_eq_false_iff_ne, ne_eq, not_true_eq_false, not_false_eq_true, Bool.false_eq_true, Bool.true_eq_false, Option.isNone_none, Option.isNone_some, reduceCtorEq, andL_cons, andL_nil, Bool.and_true, and_true] at hc); (try (exfalso; first | omega | contradiction | omega | exact absurd rfl hc | exact absurd (by decide) hc))))))
    all_goals ((with_reducible apply At.retV (B := [])); exact rfl; (repeat' (first | exact RVs.nil | (with_reducible apply RVs.cons) | exact rv_tmp (by rfl) | exact rv_cellN (by rfl) (by repeat constructor) (by rfl) (by rfl) (by rfl) | exact rv_cell1 (by rfl) (by repeat constructor) (by rfl) (by rfl))); (first | exact Mem.le_refl _ | assumption | exact Mem.le_trans (by assumption) (by assumption) | (focus ((iterate 16 (first | done | assumption | refine Mem.le_trans ?_ (by assumption))); done))); (repeat' (first | exact Keep.nil | ((with_reducible apply Keep.cons); exact (by repeat constructor)) | (with_reducible apply Keep.skip))); exact ⟨congrArg (fun x => Value.tuple #[rv (rI s).2, .int .i64 x]) (by omega), rfl, rfl⟩)
  · have e : (rI s).1 = (((rU s).1 / 2 : Nat) : Int) := if_neg h2
    rw [e]
    refine Ct.enterV (by rfl) Try.func24 rfl Try.ntmps24 rfl (fun w0 Rest => ?_)
    (repeat' (first | (with_reducible first | apply At.app0 | apply At.app1 | apply At.app2 | apply At.app3 | apply At.app4 | apply At.app5 | apply At.app6 | apply At.app7) | (with_reducible first | apply At.seq | apply At.nil | apply At.then_n | apply At.then_e | apply At.then_r | apply At.inb_n | apply At.inb_r | apply At.inb_here | apply At.block | apply At.skip | apply At.exit | apply At.ret | apply At.scope | apply At.label | apply At.nog_n | apply At.nog_r | apply At.nog_e | apply AtQ.nil) | ((with_reducible first | apply At.inb_past | apply At.regionf); exact rfl) | ((with_reducible apply At.quiet); exact rfl; kernel_rfl; kernel_rfl) | ((first | (with_reducible first | apply At.val | apply AtQ.val)); (first | ((with_reducible first | apply pr_move | apply pr_assign | apply pr_extract | apply pr_eql | apply pr_field1 | apply pr_xor) <;> exact rfl) | ((with_reducible first | apply pr_beql | apply pr_fieldN) <;> exact rfl) | ((with_reducible apply pr_peql) <;> exact rfl) | ((with_reducible apply pr_streq) <;> exact rfl) | ((with_reducible apply pr_sub); exact rfl; exact rfl; (first | exact IntWalk.i64_in _ (by omega) | exact IntWalk.u64_in _ (by omega) | exact IntWalk.u8_in _ (by omega) | exact IntWalk.u32_in _ (by omega) | exact IntKind.wrap_u64 _ | exact IntKind.wrap_i64 _ | exact IntKind.wrap_u32 _ | exact IntKind.wrap_u8 _)) | ((with_reducible apply pr_quo); exact rfl; exact rfl; omega; (first | exact IntWalk.i64_quo _ _ (by omega) | exact IntWalk.u64_quo _ _ (by omega))) | ((with_reducible apply pr_rem); exact rfl; exact rfl; omega; exact IntWalk.rem_in _ _ (by omega)) | ((with_reducible apply pr_conv); exact ⟨_, rfl⟩; exact rfl; exact rfl; (first | exact IntWalk.i64_in _ (by omega) | exact IntWalk.u64_in _ (by omega) | exact IntWalk.u8_in _ (by omega) | exact IntWalk.u32_in _ (by omega) | exact IntKind.wrap_u64 _ | exact IntKind.wrap_i64 _ | exact IntKind.wrap_u32 _ | exact IntKind.wrap_u8 _)) | ((with_reducible apply pr_load_blk1); exact rfl; exact rfl; exact (by repeat constructor); exact rfl) | ((with_reducible apply pr_load_blkN); exact rfl; exact rfl; exact rfl; exact (by repeat constructor); exact rfl) | ((with_reducible apply pr_aggeq); exact rfl; exact rfl; exact rfl; kernel_rfl; exact rfl) | ((with_reducible apply pr_neg); exact rfl; (first | exact IntWalk.i64_in _ (by omega) | exact IntWalk.u64_in _ (by omega) | exact IntWalk.u8_in _ (by omega) | exact IntWalk.u32_in _ (by omega) | exact IntKind.wrap_u64 _ | exact IntKind.wrap_i64 _ | exact IntKind.wrap_u32 _ | exact IntKind.wrap_u8 _))); exact rfl) | ((first | ((with_reducible apply At.callt1); kernel_rfl; exact rfl; exact rfl) | ((with_reducible apply At.callt0); kernel_rfl; exact rfl)); exact rvU s hl hb; (repeat' (first | exact Take.nil | ((with_reducible apply Take.cons); exact (by repeat constructor)))); rintro v' m' B' hm' ⟨rfl, rfl, rfl⟩; skip) | ((with_reducible apply At.storeB); exact rfl; exact rfl; exact rfl; exact rfl; exact rfl; exact rfl; exact (by repeat constructor); exact rfl) | ((with_reducible apply At.box (d := 1)); exact rfl; exact rfl; exact rfl; intro b1) | ((with_reducible apply At.alloc (d := 2)); exact rfl; exact rfl; intro b2) | ((with_reducible first | apply AtQ.guard_y | apply At.guard_y); exact rfl; exact rfl; exact rfl) | ((with_reducible first | apply AtQ.guard_nt | apply At.guard_nt); exact rfl; exact rfl; exact rfl) | ((with_reducible first | apply AtQ.guard_nf | apply At.guard_nf); exact rfl; exact rfl; exact rfl) | ((with_reducible first | apply AtQ.guard_nu | apply At.guard_nu); exact rfl; exact rfl; exact rfl) | ((with_reducible first | apply At.cond_t | apply At.cond_f); exact rfl) | ((with_reducible apply At.cond_f); exact rfl) | ((with_reducible apply At.cond); exact rfl; all_goals (intro hc; (try simp only [decide_eq_true_eq, decide_eq_false_iff_not, Bool.not_eq_true', Bool.not_eq_false', Bool.and_eq_true, Bool.or_eq_true, Bool.and_eq_false_iff, Bool.or_eq_false_iff, Bool.not_eq_eq_eq_not, Bool.not_true, Bool.not_false, beq_iff_eq, beq_eq_false_iff_ne, ne_eq, not_true_eq_false, not_false_eq_true, Bool.false_eq_true, Bool.true_eq_false, Option.isNone_none, Option.isNone_some, reduceCtorEq, andL_cons, andL_nil, Bool.and_true, and_true] at hc); (try (exfalso; first | omega | contradiction | omega | exact absurd rfl hc | exact absurd (by decide) hc)))) | ((with_reducible first | apply At.guard_s | apply AtQ.guard_s); exact rfl; exact rfl; all_goals (intro hc; (try simp only [decide_eq_true_eq, decide_eq_false_iff_not, Bool.not_eq_true', Bool.not_eq_false', Bool.and_eq_true, Bool.or_eq_true, Bool.and_eq_false_iff, Bool.or_eq_false_iff, Bool.not_eq_eq_eq_not, Bool.not_true, Bool.not_false, beq_iff_eq, beq_eq_false_iff_ne, ne_eq, not_true_eq_false, not_false_eq_true, Bool.false_eq_true, Bool.true_eq_false, Option.isNone_none, Option.isNone_some, reduceCtorEq, andL_cons, andL_nil, Bool.and_true, and_true] at hc); (try (exfalso; first | omega | contradiction | omega | exact absurd rfl hc | exact absurd (by decide) hc))))))
    all_goals ((with_reducible apply At.retV (B := [])); exact rfl; (repeat' (first | exact RVs.nil | (with_reducible apply RVs.cons) | exact rv_tmp (by rfl) | exact rv_cellN (by rfl) (by repeat constructor) (by rfl) (by rfl) (by rfl) | exact rv_cell1 (by rfl) (by repeat constructor) (by rfl) (by rfl))); (first | exact Mem.le_refl _ | assumption | exact Mem.le_trans (by assumption) (by assumption) | (focus ((iterate 16 (first | done | assumption | refine Mem.le_trans ?_ (by assumption))); done))); (repeat' (first | exact Keep.nil | ((with_reducible apply Keep.cons); exact (by repeat constructor)) | (with_reducible apply Keep.skip))); exact ⟨rfl, rfl, rfl⟩)
structure FJ where
  i : Nat
  a : Nat
/-! ### the law's own -/
structure Act where
  K : Int
  N : Nat
  w : Int
  T : List UInt8
  deriving Inhabited
abbrev fact (a : Act) : List Value := [.int .i64 a.K, .int .u64 (a.N : Int), .int .i64 a.w, .string (str a.T)]
instance : Fl fact 4 := ⟨fun _ => rfl, fun x v h => by simp at h; rcases h with rfl | rfl | rfl | rfl <;> rfl, by decide⟩
def ActOk (a : Act) : Prop := a.N < 18446744073709551616 ∧ (-9223372036854775808 ≤ a.w ∧ a.w ≤ 9223372036854775807)
end Cod
end Go.Proofs.Ytlmjljmfnnggcaa

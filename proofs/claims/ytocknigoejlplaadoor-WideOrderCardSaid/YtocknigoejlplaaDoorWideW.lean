/- WideTells: whatever two numbers and whatever factor, the package and the document answer alike. Conditions: the library's tables read as the row's cells say (the card ties them to the program's text). -/
import Derived.Test.YtocknigoejlplaaDoorWideY
import Derived.Test.YtocknigoejlplaaDoorJL
import Derived.Test.YtocknigoejlplaaDoorJD
import Derived.Test.YtocknigoejlplaaDoorTie
import Derived.Test.YtocknigoejlplaaDoorCards
import Derived.LaidMore
import Derived.LaidSub
import Derived.MakeChecks
import Derived.ProofKit
import Derived.OpenShut
import Derived.Stop.Joined
import Derived.SevenTiedAt
set_option linter.unusedSimpArgs false
set_option linter.unusedVariables false
set_option linter.unusedSectionVars false
set_option maxRecDepth 20000
namespace Go.Proofs.YtocknigoejlplaaDoor
open Go Go.J
attribute [local irreducible] At AtQ AtM AtM1 PR Ct Pu Rd Res.blk Res.own Res.ex RVs RV
namespace Wide
def In (x : Nat) : Prop := x < 340282366920938463463374607431768211456
theorem dec_wide {H : Type} {enc : TypeId × Value → H} {P : Program} {W : World} : ∀ cs, Fit enc P W [.int .u64, .int .u64] cs → ∃ x : Nat, cs = wd x ∧ In x := by
  intro cs h
  obtain ⟨_, _, rfl, h1, h⟩ := h.cons
  obtain ⟨_, _, rfl, h2, h⟩ := h.cons
  obtain rfl := h.nil
  obtain ⟨a, rfl, wa⟩ := h1.int
  obtain ⟨b, rfl, wb⟩ := h2.int
  have ha := bounds_u64 wa
  have hb := bounds_u64 wb
  obtain ⟨x, hx⟩ : ∃ x : Nat, x = a.toNat * 18446744073709551616 + b.toNat := ⟨_, rfl⟩
  have e1 : ((x / 18446744073709551616 : Nat) : Int) = a := by omega
  have e2 : ((x % 18446744073709551616 : Nat) : Int) = b := by omega
  refine ⟨x, ?_, by unfold In; omega⟩
  unfold wd
  rw [e1, e2]
theorem tellsL {m : Mem} (ht : Tab m) (x y : Nat) (n : Int) (hx : In x) (hy : In y) (hn : 0 ≤ n ∧ n ≤ 18446744073709551615) :
    Ct Tryd.prog 3 #[wv x, wv y, .int .u64 n] m [] (fun v m' B => v = .bool true ∧ B = []) := by
  obtain ⟨k, rfl⟩ : ∃ k : Nat, n = (k : Int) := ⟨n.toNat, by omega⟩
  unfold In at hx hy
  have hk : k < 18446744073709551616 := by omega
  have hl := fun {m' : Mem} (hm : m.le m') => wide_lives (ht.mono hm)
  have ko := of_ k hk
  rw [← wd_small hk] at ko
  by_cases h0 : k = 0
  · subst h0
    refine Ct.enterV (by rfl) Tryd.func3 rfl Tryd.ntmps3 rfl (fun w0 Rest => ?_)
    (repeat' (first | (with_reducible first | apply At.app0 | apply At.app1 | apply At.app2 | apply At.app3 | apply At.app4 | apply At.app5 | apply At.app6 | apply At.app7) | (with_reducible first | apply At.seq | apply At.nil | apply At.then_n | apply At.then_e | apply At.then_r | apply At.inb_n | apply At.inb_r | apply At.inb_here | apply At.block | apply At.skip | apply At.exit | apply At.ret | apply At.scope | apply At.label | apply At.nog_n | apply At.nog_r | apply At.nog_e | apply AtQ.nil) | ((with_reducible first | apply At.inb_past | apply At.regionf); exact rfl) | ((with_reducible apply At.quiet); exact rfl; kernel_rfl; kernel_rfl) | ((first | (with_reducible first | apply At.val | apply AtQ.val)); (first | ((with_reducible first | apply pr_move | apply pr_assign | apply pr_extract | apply pr_eql | apply pr_pick_t | apply pr_build | apply pr_field1) <;> exact rfl) | ((with_reducible first | apply pr_pick_f | apply pr_beql | apply pr_fieldN) <;> exact rfl) | ((with_reducible apply pr_peql) <;> exact rfl) | ((with_reducible apply pr_streq) <;> exact rfl) | ((with_reducible apply pr_load_blk1); exact rfl; exact rfl; exact (by repeat constructor); exact rfl) | ((with_reducible apply pr_load_blkN); exact rfl; exact rfl; exact rfl; exact (by repeat constructor); exact rfl) | ((with_reducible apply pr_aggeq2); exact rfl; exact rfl; exact rfl; kernel_rfl; kernel_rfl; exact rfl)); exact rfl) | ((with_reducible first | apply AtM1.callp | apply AtQ.callp | apply At.callp); kernel_rfl; exact rfl; exact rfl; exact add x y hx hy) | ((with_reducible first | apply AtM1.callp | apply AtQ.callp | apply At.callp); kernel_rfl; exact rfl; exact rfl; exact add_r x y hx hy) | ((with_reducible first | apply AtM1.callp | apply AtQ.callp | apply At.callp); kernel_rfl; exact rfl; exact rfl; exact sub x y hx hy) | ((with_reducible first | apply AtM1.callp | apply AtQ.callp | apply At.callp); kernel_rfl; exact rfl; exact rfl; exact sub_r x y hx hy) | ((with_reducible first | apply AtM1.callp | apply AtQ.callp | apply At.callp); kernel_rfl; exact rfl; exact rfl; exact times x 0 hx (by decide)) | ((with_reducible first | apply AtM1.callp | apply AtQ.callp | apply At.callp); kernel_rfl; exact rfl; exact rfl; exact times_r x 0 hx (by decide)) | ((with_reducible first | apply AtM1.callp | apply AtQ.callp | apply At.callp); kernel_rfl; exact rfl; exact rfl; exact div0 x) | ((with_reducible first | apply AtM1.callp | apply AtQ.callp | apply At.callp); kernel_rfl; exact rfl; exact rfl; exact div_r0 x) | ((with_reducible first | apply AtM1.callp | apply AtQ.callp | apply At.callp); kernel_rfl; exact rfl; exact rfl; exact less x y) | ((with_reducible first | apply AtM1.callp | apply AtQ.callp | apply At.callp); kernel_rfl; exact rfl; exact rfl; exact less_r x y hx hy) | ((with_reducible first | apply AtM1.callp | apply AtQ.callp | apply At.callp); kernel_rfl; exact rfl; exact rfl; exact ko) | ((with_reducible first | apply AtM1.callr | apply AtQ.callr | apply At.callr); kernel_rfl; exact rfl; exact rfl; exact fun _ hmm => hl (by first | exact Mem.le_refl _ | assumption | ((iterate 16 (first | done | exact Mem.le_refl _ | refine Mem.le_trans ?_ (by assumption))); done)); (repeat' (first | exact Take.nil | ((with_reducible apply Take.cons); (focus ((repeat constructor); done))))); (with_reducible first | apply At.idd | apply AtQ.idd | apply AtM.idd)) | ((with_reducible apply At.storeB); exact rfl; exact rfl; exact rfl; exact rfl; exact rfl; exact rfl; exact (by repeat constructor); exact rfl) | ((with_reducible apply At.box (d := 3)); exact rfl; exact rfl; exact rfl; intro b3) | ((with_reducible apply At.box (d := 4)); exact rfl; exact rfl; exact rfl; intro b4) | ((with_reducible apply At.alloc (d := 7)); exact rfl; exact rfl; intro b7) | ((with_reducible apply At.alloc (d := 9)); exact rfl; exact rfl; intro b9) | ((with_reducible apply At.alloc (d := 11)); exact rfl; exact rfl; intro b11) | ((with_reducible apply At.alloc (d := 13)); exact rfl; exact rfl; intro b13) | ((with_reducible apply At.alloc (d := 15)); exact rfl; exact rfl; intro b15) | ((with_reducible apply At.alloc (d := 17)); exact rfl; exact rfl; intro b17) | ((with_reducible apply At.alloc (d := 19)); exact rfl; exact rfl; intro b19) | ((with_reducible apply At.alloc (d := 22)); exact rfl; exact rfl; intro b22) | ((with_reducible first | apply AtQ.guard_y | apply At.guard_y); exact rfl; exact rfl; exact rfl) | ((with_reducible first | apply AtQ.guard_nt | apply At.guard_nt); exact rfl; exact rfl; exact rfl) | ((with_reducible first | apply AtQ.guard_nf | apply At.guard_nf); exact rfl; exact rfl; exact rfl) | ((with_reducible first | apply AtQ.guard_nu | apply At.guard_nu); exact rfl; exact rfl; exact rfl) | ((with_reducible first | apply At.cond_t | apply At.cond_f); exact rfl) | ((with_reducible apply At.cond_f); exact rfl) | ((with_reducible apply At.cond); exact rfl; all_goals (intro hc; (try simp only [decide_eq_true_eq, decide_eq_false_iff_not, Bool.not_eq_true', Bool.not_eq_false', Bool.and_eq_true, Bool.or_eq_true, Bool.and_eq_false_iff, Bool.or_eq_false_iff, Bool.not_eq_eq_eq_not, Bool.not_true, Bool.not_false, beq_iff_eq, beq_eq_false_iff_ne, ne_eq, not_true_eq_false, not_false_eq_true, Bool.false_eq_true, Bool.true_eq_false, Option.isNone_none, Option.isNone_some, reduceCtorEq, andL_cons, andL_nil, Bool.and_true, and_true] at hc); (try (exfalso; first | (first | omega | exact absurd rfl hc | exact hc rfl) | contradiction | omega | exact absurd rfl hc | exact absurd (by decide) hc)))) | ((with_reducible first | apply At.guard_s | apply AtQ.guard_s); exact rfl; exact rfl; all_goals (intro hc; (try simp only [decide_eq_true_eq, decide_eq_false_iff_not, Bool.not_eq_true', Bool.not_eq_false', Bool.and_eq_true, Bool.or_eq_true, Bool.and_eq_false_iff, Bool.or_eq_false_iff, Bool.not_eq_eq_eq_not, Bool.not_true, Bool.not_false, beq_iff_eq, beq_eq_false_iff_ne, ne_eq, not_true_eq_false, not_false_eq_true, Bool.false_eq_true, Bool.true_eq_false, Option.isNone_none, Option.isNone_some, reduceCtorEq, andL_cons, andL_nil, Bool.and_true, and_true] at hc); (try (exfalso; first | (first | omega | exact absurd rfl hc | exact hc rfl) | contradiction | omega | exact absurd rfl hc | exact absurd (by decide) hc))))))
    all_goals ((with_reducible apply At.retB1 (B := [])); exact rfl; exact rfl; (first | exact Mem.le_refl _ | assumption | exact Mem.le_trans (by assumption) (by assumption) | (focus ((iterate 16 (first | done | assumption | refine Mem.le_trans ?_ (by assumption))); done))); (repeat' (first | exact Keep.nil | ((with_reducible apply Keep.cons); exact (by repeat constructor)) | (with_reducible apply Keep.skip))); exact ⟨rfl, rfl⟩)
  · refine Ct.enterV (by rfl) Tryd.func3 rfl Tryd.ntmps3 rfl (fun w0 Rest => ?_)
    (repeat' (first | (with_reducible first | apply At.app0 | apply At.app1 | apply At.app2 | apply At.app3 | apply At.app4 | apply At.app5 | apply At.app6 | apply At.app7) | (with_reducible first | apply At.seq | apply At.nil | apply At.then_n | apply At.then_e | apply At.then_r | apply At.inb_n | apply At.inb_r | apply At.inb_here | apply At.block | apply At.skip | apply At.exit | apply At.ret | apply At.scope | apply At.label | apply At.nog_n | apply At.nog_r | apply At.nog_e | apply AtQ.nil) | ((with_reducible first | apply At.inb_past | apply At.regionf); exact rfl) | ((with_reducible apply At.quiet); exact rfl; kernel_rfl; kernel_rfl) | ((first | (with_reducible first | apply At.val | apply AtQ.val)); (first | ((with_reducible first | apply pr_move | apply pr_assign | apply pr_extract | apply pr_eql | apply pr_pick_t | apply pr_build | apply pr_field1) <;> exact rfl) | ((with_reducible first | apply pr_pick_f | apply pr_beql | apply pr_fieldN) <;> exact rfl) | ((with_reducible apply pr_peql) <;> exact rfl) | ((with_reducible apply pr_streq) <;> exact rfl) | ((with_reducible apply pr_load_blk1); exact rfl; exact rfl; exact (by repeat constructor); exact rfl) | ((with_reducible apply pr_load_blkN); exact rfl; exact rfl; exact rfl; exact (by repeat constructor); exact rfl) | ((with_reducible apply pr_aggeq2); exact rfl; exact rfl; exact rfl; kernel_rfl; kernel_rfl; exact rfl)); exact rfl) | ((with_reducible first | apply AtM1.callp | apply AtQ.callp | apply At.callp); kernel_rfl; exact rfl; exact rfl; exact add x y hx hy) | ((with_reducible first | apply AtM1.callp | apply AtQ.callp | apply At.callp); kernel_rfl; exact rfl; exact rfl; exact add_r x y hx hy) | ((with_reducible first | apply AtM1.callp | apply AtQ.callp | apply At.callp); kernel_rfl; exact rfl; exact rfl; exact sub x y hx hy) | ((with_reducible first | apply AtM1.callp | apply AtQ.callp | apply At.callp); kernel_rfl; exact rfl; exact rfl; exact sub_r x y hx hy) | ((with_reducible first | apply AtM1.callp | apply AtQ.callp | apply At.callp); kernel_rfl; exact rfl; exact rfl; exact times x k hx hk) | ((with_reducible first | apply AtM1.callp | apply AtQ.callp | apply At.callp); kernel_rfl; exact rfl; exact rfl; exact times_r x k hx hk) | ((with_reducible first | apply AtM1.callp | apply AtQ.callp | apply At.callp); kernel_rfl; exact rfl; exact rfl; exact div x k hx (by omega) hk) | ((with_reducible first | apply AtM1.callp | apply AtQ.callp | apply At.callp); kernel_rfl; exact rfl; exact rfl; exact div_r x k hx (by omega) hk) | ((with_reducible first | apply AtM1.callp | apply AtQ.callp | apply At.callp); kernel_rfl; exact rfl; exact rfl; exact less x y) | ((with_reducible first | apply AtM1.callp | apply AtQ.callp | apply At.callp); kernel_rfl; exact rfl; exact rfl; exact less_r x y hx hy) | ((with_reducible first | apply AtM1.callp | apply AtQ.callp | apply At.callp); kernel_rfl; exact rfl; exact rfl; exact ko) | ((with_reducible first | apply AtM1.callr | apply AtQ.callr | apply At.callr); kernel_rfl; exact rfl; exact rfl; exact fun _ hmm => hl (by first | exact Mem.le_refl _ | assumption | ((iterate 16 (first | done | exact Mem.le_refl _ | refine Mem.le_trans ?_ (by assumption))); done)); (repeat' (first | exact Take.nil | ((with_reducible apply Take.cons); (focus ((repeat constructor); done))))); (with_reducible first | apply At.idd | apply AtQ.idd | apply AtM.idd)) | ((with_reducible apply At.storeB); exact rfl; exact rfl; exact rfl; exact rfl; exact rfl; exact rfl; exact (by repeat constructor); exact rfl) | ((with_reducible apply At.box (d := 3)); exact rfl; exact rfl; exact rfl; intro b3) | ((with_reducible apply At.box (d := 4)); exact rfl; exact rfl; exact rfl; intro b4) | ((with_reducible apply At.alloc (d := 7)); exact rfl; exact rfl; intro b7) | ((with_reducible apply At.alloc (d := 9)); exact rfl; exact rfl; intro b9) | ((with_reducible apply At.alloc (d := 11)); exact rfl; exact rfl; intro b11) | ((with_reducible apply At.alloc (d := 13)); exact rfl; exact rfl; intro b13) | ((with_reducible apply At.alloc (d := 15)); exact rfl; exact rfl; intro b15) | ((with_reducible apply At.alloc (d := 17)); exact rfl; exact rfl; intro b17) | ((with_reducible apply At.alloc (d := 19)); exact rfl; exact rfl; intro b19) | ((with_reducible apply At.alloc (d := 22)); exact rfl; exact rfl; intro b22) | ((with_reducible first | apply AtQ.guard_y | apply At.guard_y); exact rfl; exact rfl; exact rfl) | ((with_reducible first | apply AtQ.guard_nt | apply At.guard_nt); exact rfl; exact rfl; exact rfl) | ((with_reducible first | apply AtQ.guard_nf | apply At.guard_nf); exact rfl; exact rfl; exact rfl) | ((with_reducible first | apply AtQ.guard_nu | apply At.guard_nu); exact rfl; exact rfl; exact rfl) | ((with_reducible first | apply At.cond_t | apply At.cond_f); exact rfl) | ((with_reducible apply At.cond_f); exact rfl) | ((with_reducible apply At.cond); exact rfl; all_goals (intro hc; (try simp only [decide_eq_true_eq, decide_eq_false_iff_not, Bool.not_eq_true', Bool.not_eq_false', Bool.and_eq_true, Bool.or_eq_true, Bool.and_eq_false_iff, Bool.or_eq_false_iff, Bool.not_eq_eq_eq_not, Bool.not_true, Bool.not_false, beq_iff_eq, beq_eq_false_iff_ne, ne_eq, not_true_eq_false, not_false_eq_true, Bool.false_eq_true, Bool.true_eq_false, Option.isNone_none, Option.isNone_some, reduceCtorEq, andL_cons, andL_nil, Bool.and_true, and_true] at hc); (try (exfalso; first | (first | omega | exact absurd rfl hc | exact hc rfl) | contradiction | omega | exact absurd rfl hc | exact absurd (by decide) hc)))) | ((with_reducible first | apply At.guard_s | apply AtQ.guard_s); exact rfl; exact rfl; all_goals (intro hc; (try simp only [decide_eq_true_eq, decide_eq_false_iff_not, Bool.not_eq_true', Bool.not_eq_false', Bool.and_eq_true, Bool.or_eq_true, Bool.and_eq_false_iff, Bool.or_eq_false_iff, Bool.not_eq_eq_eq_not, Bool.not_true, Bool.not_false, beq_iff_eq, beq_eq_false_iff_ne, ne_eq, not_true_eq_false, not_false_eq_true, Bool.false_eq_true, Bool.true_eq_false, Option.isNone_none, Option.isNone_some, reduceCtorEq, andL_cons, andL_nil, Bool.and_true, and_true] at hc); (try (exfalso; first | (first | omega | exact absurd rfl hc | exact hc rfl) | contradiction | omega | exact absurd rfl hc | exact absurd (by decide) hc))))))
    all_goals ((with_reducible apply At.retB1 (B := [])); exact rfl; exact rfl; (first | exact Mem.le_refl _ | assumption | exact Mem.le_trans (by assumption) (by assumption) | (focus ((iterate 16 (first | done | assumption | refine Mem.le_trans ?_ (by assumption))); done))); (repeat' (first | exact Keep.nil | ((with_reducible apply Keep.cons); exact (by repeat constructor)) | (with_reducible apply Keep.skip))); exact ⟨by first | rfl | simp [andL], rfl⟩)
/-- what the row's condition gives: the library's table -/
theorem tab_of {W : World} {l : List (String × DataW Unit)} (h : laidMetH Tryd.prog l W)
    (e : (l.filter fun x => x.1 == (Tryd.prog.globals[2]!).name) = [((Tryd.prog.globals[2]!).name, Lib.tabData .u64 Lib.pow10Tab)]) : Tab (memOf W) := by
  have h1 := h.filter (fun x => x.1 == (Tryd.prog.globals[2]!).name)
  rw [e, MakeChecks.laidMetH_plain _ _ _ (by kernel_rfl)] at h1
  have hg : Tryd.prog.globalNamed (Tryd.prog.globals[2]!).name = some 2 := by kernel_rfl
  have t := Lib.tabIs_of_head hg (by kernel_rfl) Tryd.underlying61 Tryd.underlying22 (by kernel_rfl) (by kernel_rfl) h1
  intro w hw
  show Lib.TabIs Tryd.prog w (Tryd.prog.globals[2]!).name .u64 Lib.pow10Tab
  unfold Lib.TabIs World.var? at t ⊢
  rw [hg] at t ⊢
  rw [Option.bind_some] at t ⊢
  cases ho : W.heap[2]? with
  | none => rw [ho] at t; cases t
  | some o => rw [hw _ o ho]; rw [ho] at t; exact t
end Wide
namespace WideTellsCardL
open Go.ChangeShapes Go.WideShapes Go.ChangeAt Go.RowKit
open Go.ChangeMaps (open_string shut_string)
theorem own : ownKnob Tryd.prog.godebug = none := by kernel_rfl
theorem laidOut : laidOutB Tryd.prog = true := by kernel_rfl
set_option maxRecDepth 100000 in
theorem door_met (os : Os) (args : Array Value) : laidMetH Tryd.prog Rows.wideTellsRow.laid ((World.doorLaid Tryd.prog 400 os).forCall (fun _ _ => 0) ⟨#[], args, []⟩).memory :=
  laidMetH_of_parts3 (fuel := 8) (laidMet_of_run' 8 (by kernel_rfl) (by kernel_rfl)) (by kernel_rfl) (by kernel_rfl)
set_option maxRecDepth 100000 in
theorem lifted (os : Os) (started : os.Started) (H : Type) (enc : TypeId × Value → H) :
    ReturnsInHanded {} Tryd.checked os 3 .any (fun w args => (Rows.wideTellsSpec.pre enc Tryd.prog Tryd.f3 [] false w args ∧ laidMetH Tryd.prog Rows.wideTellsRow.laid w) ∧ sizedMet enc Tryd.prog Tryd.f3 (OpenSpec.ofChange Rows.wideTellsSpec) false w args)
      (Rows.wideTellsSpec.post enc Tryd.prog Tryd.f3 false true false false) := by
  refine returnsInHanded_of_change_and (C := Tryd.checked) (X := fun w _ => laidMetH Tryd.prog Rows.wideTellsRow.laid w) (fun _ _ _ hh h => h.of_heap hh) own started (by kernel_rfl) Tryd.func3
    (ChangeSpec.witness_shaped (enc := enc) (C := Tryd.checked) (os := os) (X := fun w _ => laidMetH Tryd.prog Rows.wideTellsRow.laid w) false (World.doorLaid Tryd.prog 400 os) #[.agg #[.int .u64 0, .int .u64 0], .agg #[.int .u64 0, .int .u64 0], .int .u64 0] 8 rfl (World.shaped_of_RefB (by kernel_rfl) (by kernel_rfl)) (by kernel_rfl) (by kernel_rfl) (by kernel_rfl) (door_met os _)) ?_
  intro W base args ds gs before hval0 hW hcnd _ hL _
  have hval : ∀ (j : Nat) t v, Tryd.f3.params[j]? = some t → args[j]? = some v → Value.okWide Tryd.prog W .any base t v := hval0
  have hW' := hW
  obtain ⟨p, q, hA0, hV, rfl, hfz, hnd⟩ := hW
  have hA : DataW.TrodAll enc Tryd.prog W 0 (fun _ => true) true Tryd.f3.params.toList args.toList ds p := hA0
  rw [Tryd.params3] at hA hval
  obtain ⟨rfl, rfl⟩ := trodVars_none hV
  have hlt : ∀ x ∈ p, x.block < W.heap.size := fun x hx => hW'.lt x (by simpa using hx)
  have hback := fun (W' : World) (bel : Below W.heap.size W W') => trodAll_below laidOut bel _ _ _ _ (by kernel_rfl) hA hlt
  obtain ⟨v0, vs0, d0, ds0, p0, q0, hargs, rfl, rfl, h0, r0⟩ := trodAll_cons hA
  obtain ⟨v1, vs1, d1, ds1, p1, q1, rfl, rfl, rfl, h1, r1⟩ := trodAll_cons r0
  obtain ⟨v2, vs2, d2, ds2, p2, q2, rfl, rfl, rfl, h2, r2⟩ := trodAll_cons r1
  obtain ⟨rfl, rfl, rfl⟩ := trodAll_nil r2
  obtain rfl : args = #[v0, v1, v2] := by cases args; simp_all
  obtain ⟨a0, rfl, w0⟩ := open_flat_arg (f := Wide.wd) (φ := Wide.In) [.int .u64, .int .u64] Tryd.underlying24 (by kernel_rfl) Wide.dec_wide (hval 0 24 v0 rfl rfl) h0
  obtain ⟨a1, rfl, w1⟩ := open_flat_arg (f := Wide.wd) (φ := Wide.In) [.int .u64, .int .u64] Tryd.underlying24 (by kernel_rfl) Wide.dec_wide (hval 1 24 v1 rfl rfl) h1
  obtain ⟨a2, rfl, rfl, rfl, w2⟩ := open_int Tryd.underlying22 (hval 2 22 v2 rfl rfl) h2
  refine (law_calls (Ct.mono (Wide.tellsL (m := memOf W) (Wide.tab_of hL (by kernel_rfl)) a0 a1 a2 w0 w1 (bounds_u64 w2)) fun v m' B _ h => h.1)).mono fun e W' ⟨he, bel⟩ => ?_
  subst he
  exact ⟨_, rfl, _, _, _, [], _, [], hW', trodAll_mk1 (shut_bool Tryd.underlying4 _), hback W' bel, rfl, bel.frame _, fun h => by cases h⟩
theorem over : Rows.wideTellsRow.holds Tryd.pinned (OpenSpec.ofChange Rows.wideTellsSpec) :=
  OpenClaim.holds_of_wide 3 Tryd.f3 rfl rfl rfl rfl rfl rfl rfl ⟨rfl, rfl, rfl, rfl, rfl⟩ rfl rfl rfl rfl rfl (by kernel_rfl) Tryd.func3 (by kernel_rfl)
    (of_decide_eq_true (by kernel_rfl)) (by unfold Func.isWrapper; first | (rw [if_pos (by decide +kernel)]; kernel_rfl) | (rw [if_neg (by decide +kernel)]; exact ⟨rfl, rfl⟩))
    (fun os started H enc _ => lifted os started H enc)
theorem proved : Rows.WideTellsCardSaid :=
  Claim7.holds_tied_plain_at .later [] Rows.wideTellsCard.laidKinds true Rows.wideTellsCard.stood.harness Rows.wideTellsCard.stood.looks
    over (fun _ h => by cases h) (by kernel_rfl) (fun _ h => by cases h) wideTells_row_tie rfl ⟨rfl, rfl⟩ (by kernel_rfl) rfl
    (fun f fn hf hfn => by
      obtain rfl : f = 3 := Option.some.inj ((show Tryd.prog.funcNamed Tryd.f3.name = some 3 by kernel_rfl).symm.trans hf) |>.symm
      obtain rfl : fn = Tryd.f3 := (Option.some.inj (Tryd.func3.symm.trans hfn)).symm
      exact ⟨by kernel_rfl, fun j t ht => by
        rw [Tryd.params3] at ht
        have hm := Array.mem_of_getElem? ht
        have hall : ((Tryd.f3.params).all fun u => !Tryd.prog.wantsStandIn u) = true := by kernel_rfl
        rw [Tryd.params3] at hall
        exact (show Tryd.prog.wantsStandIn t = false by simpa using Array.all_eq_true'.1 hall t hm)⟩)
    (by kernel_rfl)
end WideTellsCardL
end Go.Proofs.YtocknigoejlplaaDoor

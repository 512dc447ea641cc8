/- The contracts under the index of names: how two names stand, where one stands, whether a text begins so. -/
import Derived.Test.YtkknmdoofofakaaNmP
import Derived.Test.YtkknmdoofofakaaJN
import Derived.Test.YtkknmdoofofakaaJT
set_option linter.unusedSimpArgs false
set_option linter.unusedVariables false
set_option linter.unusedSectionVars false
set_option maxRecDepth 20000
set_option maxHeartbeats 4000000
namespace Go.Proofs.Ytkknmdoofofakaa
open Go Go.J
attribute [local irreducible] At AtQ AtM AtM1 PR Ct Pu Rd Res.blk Res.own Res.ex RVs RV
namespace Nm
theorem isNaN (a : List UInt8) : Pu Try.prog 42 #[.string (str a)] (.bool false) := by
  refine Pu.intro fun m => ?_
  refine Ct.enterV (by rfl) Try.func42 rfl Try.ntmps42 rfl (fun w0 Rest => ?_)
  (repeat' (first | refine ss ?_ | refine s0 ?_ | (refine sp ?_ ?_ <;> (intro hc; (try simp only [hcs, reduceCtorEq] at hc); (try (exfalso; first | contradiction | omega | exact absurd rfl hc | exact absurd (by decide) hc))))))
  all_goals ((with_reducible apply At.retB1 (B := [])); exact rfl; exact rfl; exact ml; exact kp; exact ⟨by simp, rfl, rfl⟩)
theorem compare (a b : List UInt8) : Pu Try.prog 38 #[.string (str a), .string (str b)] (.int .i64 (cmpS a b)) := by
  refine Pu.intro fun m => ?_
  cases h1 : ltB a b with
  | true =>
    rw [cmpS_lt h1]
    refine Ct.enterV (by rfl) Try.func38 rfl Try.ntmps38 rfl (fun w0 Rest => ?_)
    (repeat' (first | refine ss ?_ | ((first | (with_reducible first | apply At.val | apply AtQ.val)); (exact pr_strlss (by rfl) (by rfl) h1); exact rfl) | refine s0 ?_ | ((with_reducible first | apply AtM1.callp | apply AtQ.callp | apply At.callp); kernel_rfl; exact rfl; exact rfl; exact isNaN _) | (refine sp ?_ ?_ <;> (intro hc; (try simp only [hcs, reduceCtorEq] at hc); (try (exfalso; first | contradiction | omega | exact absurd rfl hc | exact absurd (by decide) hc))))))
    all_goals ((with_reducible apply At.retB1 (B := [])); exact rfl; exact rfl; exact ml; exact kp; exact ⟨rfl, rfl, rfl⟩)
  | false =>
    cases h2 : ltB b a with
    | true =>
      rw [show cmpS a b = 1 by unfold cmpS; rw [h1, h2]; rfl]
      refine Ct.enterV (by rfl) Try.func38 rfl Try.ntmps38 rfl (fun w0 Rest => ?_)
      (repeat' (first | refine ss ?_ | ((first | (with_reducible first | apply At.val | apply AtQ.val)); (first | exact pr_strlss (by rfl) (by rfl) h1 | exact pr_strgtr (by rfl) (by rfl) h2); exact rfl) | refine s0 ?_ | ((with_reducible first | apply AtM1.callp | apply AtQ.callp | apply At.callp); kernel_rfl; exact rfl; exact rfl; exact isNaN _) | (refine sp ?_ ?_ <;> (intro hc; (try simp only [hcs, reduceCtorEq] at hc); (try (exfalso; first | contradiction | omega | exact absurd rfl hc | exact absurd (by decide) hc))))))
      all_goals ((with_reducible apply At.retB1 (B := [])); exact rfl; exact rfl; exact ml; exact kp; exact ⟨rfl, rfl, rfl⟩)
    | false =>
      rw [show cmpS a b = 0 by unfold cmpS; rw [h1, h2]; rfl]
      refine Ct.enterV (by rfl) Try.func38 rfl Try.ntmps38 rfl (fun w0 Rest => ?_)
      (repeat' (first | refine ss ?_ | ((first | (with_reducible first | apply At.val | apply AtQ.val)); (first | exact pr_strlss (by rfl) (by rfl) h1 | exact pr_strgtr (by rfl) (by rfl) h2); exact rfl) | refine s0 ?_ | ((with_reducible first | apply AtM1.callp | apply AtQ.callp | apply At.callp); kernel_rfl; exact rfl; exact rfl; exact isNaN _) | (refine sp ?_ ?_ <;> (intro hc; (try simp only [hcs, reduceCtorEq] at hc); (try (exfalso; first | contradiction | omega | exact absurd rfl hc | exact absurd (by decide) hc))))))
      all_goals ((with_reducible apply At.retB1 (B := [])); exact rfl; exact rfl; exact ml; exact kp; exact ⟨rfl, rfl, rfl⟩)
structure BS where
  (i j : Nat)
theorem hasPre' (s t : List UInt8) : Pu Try.prog 34 #[.string (str s), .string (str t)] (.bool (decide (t <+: s))) := by
  refine Pu.intro fun m => ?_
  by_cases h : t.length ≤ s.length
  · have e : decide (t <+: s) = decide (s.take t.length = t) := by
      by_cases k : t <+: s
      · rw [decide_eq_true k, decide_eq_true ((List.prefix_iff_eq_take.1 k).symm)]
      · rw [decide_eq_false k, decide_eq_false fun k' => k (List.prefix_iff_eq_take.2 k'.symm)]
    rw [e]
    refine Ct.enterV (by rfl) Try.func34 rfl Try.ntmps34 rfl (fun w0 Rest => ?_)
    (repeat' (first | refine ss ?_ | refine s0 ?_ | (refine sp ?_ ?_ <;> (intro hc; (try simp only [hcs, reduceCtorEq] at hc); (try (exfalso; first | omega | contradiction | omega | exact absurd rfl hc | exact absurd (by decide) hc))))))
    all_goals ((with_reducible apply At.retB1 (B := [])); exact rfl; exact rfl; exact ml; exact kp; exact ⟨by simp, rfl, rfl⟩)
  · rw [decide_eq_false fun k => h k.length_le]
    refine Ct.enterV (by rfl) Try.func34 rfl Try.ntmps34 rfl (fun w0 Rest => ?_)
    (repeat' (first | refine ss ?_ | refine s0 ?_ | (refine sp ?_ ?_ <;> (intro hc; (try simp only [hcs, reduceCtorEq] at hc); (try (exfalso; first | omega | contradiction | omega | exact absurd rfl hc | exact absurd (by decide) hc))))))
    all_goals ((with_reducible apply At.retB1 (B := [])); exact rfl; exact rfl; exact ml; exact kp; exact ⟨rfl, rfl, rfl⟩)
theorem hasPre (s t : List UInt8) : Pu Try.prog 23 #[.string (str s), .string (str t)] (.bool (decide (t <+: s))) := by
  refine Pu.intro fun m => ?_
  refine Ct.enterV (by rfl) Try.func23 rfl Try.ntmps23 rfl (fun w0 Rest => ?_)
  (repeat' (first | refine ss ?_ | refine s0 ?_ | ((with_reducible first | apply AtM1.callp | apply AtQ.callp | apply At.callp); kernel_rfl; exact rfl; exact rfl; exact hasPre' _ _) | (refine sp ?_ ?_ <;> (intro hc; (try simp only [hcs, reduceCtorEq] at hc); (try (exfalso; first | contradiction | omega | exact absurd rfl hc | exact absurd (by decide) hc))))))
  all_goals ((with_reducible apply At.retB1 (B := [])); exact rfl; exact rfl; exact ml; exact kp; exact ⟨rfl, rfl, rfl⟩)
end Nm
end Go.Proofs.Ytkknmdoofofakaa

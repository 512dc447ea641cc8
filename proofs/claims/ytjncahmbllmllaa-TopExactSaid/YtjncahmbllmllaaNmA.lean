/- The contracts under the index of names: how two names stand, where one stands, whether a text begins so. -/
import Derived.Test.YtjncahmbllmllaaNmP
import Derived.Test.YtjncahmbllmllaaJN
import Derived.Test.YtjncahmbllmllaaJT
set_option linter.unusedSimpArgs false
set_option linter.unusedVariables false
set_option linter.unusedSectionVars false
set_option maxRecDepth 20000
set_option maxHeartbeats 4000000
namespace Go.Proofs.Ytjncahmbllmllaa
open Go Go.J
attribute [local irreducible] At AtQ AtM AtM1 PR Ct Pu Rd Res.blk Res.own Res.ex RVs RV
namespace Nm
theorem isNaN (a : List UInt8) : Pu Try.prog 57 #[.string (str a)] (.bool false) := by
  refine Pu.intro fun m => ?_
  refine Ct.enterV (by rfl) Try.func57 rfl Try.ntmps57 rfl (fun w0 Rest => ?_)
  (repeat' (first | refine zss ?_ | refine zs0 ?_ | (refine zsp ?_ ?_ <;> (intro hc; (try simp only [zhcs, reduceCtorEq] at hc); (try (exfalso; first | contradiction | omega | exact absurd rfl hc | exact absurd (by decide) hc))))))
  all_goals ((with_reducible apply At.retB1 (B := [])); exact rfl; exact rfl; exact zml; exact zkp; exact ⟨by simp, rfl, rfl⟩)
theorem compare (a b : List UInt8) : Pu Try.prog 47 #[.string (str a), .string (str b)] (.int .i64 (cmpS a b)) := by
  refine Pu.intro fun m => ?_
  cases h1 : ltB a b with
  | true =>
    rw [cmpS_lt h1]
    refine Ct.enterV (by rfl) Try.func47 rfl Try.ntmps47 rfl (fun w0 Rest => ?_)
    (repeat' (first | refine zss ?_ | ((first | (with_reducible first | apply At.val | apply AtQ.val)); (exact pr_strlss (by rfl) (by rfl) h1); exact rfl) | refine zs0 ?_ | ((with_reducible first | apply AtM1.callp | apply AtQ.callp | apply At.callp); kernel_rfl; exact rfl; exact rfl; exact isNaN _) | (refine zsp ?_ ?_ <;> (intro hc; (try simp only [zhcs, reduceCtorEq] at hc); (try (exfalso; first | contradiction | omega | exact absurd rfl hc | exact absurd (by decide) hc))))))
    all_goals ((with_reducible apply At.retB1 (B := [])); exact rfl; exact rfl; exact zml; exact zkp; exact ⟨rfl, rfl, rfl⟩)
  | false =>
    cases h2 : ltB b a with
    | true =>
      rw [show cmpS a b = 1 by unfold cmpS; rw [h1, h2]; rfl]
      refine Ct.enterV (by rfl) Try.func47 rfl Try.ntmps47 rfl (fun w0 Rest => ?_)
      (repeat' (first | refine zss ?_ | ((first | (with_reducible first | apply At.val | apply AtQ.val)); (first | exact pr_strlss (by rfl) (by rfl) h1 | exact pr_strgtr (by rfl) (by rfl) h2); exact rfl) | refine zs0 ?_ | ((with_reducible first | apply AtM1.callp | apply AtQ.callp | apply At.callp); kernel_rfl; exact rfl; exact rfl; exact isNaN _) | (refine zsp ?_ ?_ <;> (intro hc; (try simp only [zhcs, reduceCtorEq] at hc); (try (exfalso; first | contradiction | omega | exact absurd rfl hc | exact absurd (by decide) hc))))))
      all_goals ((with_reducible apply At.retB1 (B := [])); exact rfl; exact rfl; exact zml; exact zkp; exact ⟨rfl, rfl, rfl⟩)
    | false =>
      rw [show cmpS a b = 0 by unfold cmpS; rw [h1, h2]; rfl]
      refine Ct.enterV (by rfl) Try.func47 rfl Try.ntmps47 rfl (fun w0 Rest => ?_)
      (repeat' (first | refine zss ?_ | ((first | (with_reducible first | apply At.val | apply AtQ.val)); (first | exact pr_strlss (by rfl) (by rfl) h1 | exact pr_strgtr (by rfl) (by rfl) h2); exact rfl) | refine zs0 ?_ | ((with_reducible first | apply AtM1.callp | apply AtQ.callp | apply At.callp); kernel_rfl; exact rfl; exact rfl; exact isNaN _) | (refine zsp ?_ ?_ <;> (intro hc; (try simp only [zhcs, reduceCtorEq] at hc); (try (exfalso; first | contradiction | omega | exact absurd rfl hc | exact absurd (by decide) hc))))))
      all_goals ((with_reducible apply At.retB1 (B := [])); exact rfl; exact rfl; exact zml; exact zkp; exact ⟨rfl, rfl, rfl⟩)
structure BS where
  (i j : Nat)
theorem hasPre' (s t : List UInt8) : Pu Try.prog 54 #[.string (str s), .string (str t)] (.bool (decide (t <+: s))) := by
  refine Pu.intro fun m => ?_
  by_cases h : t.length ≤ s.length
  · have e : decide (t <+: s) = decide (s.take t.length = t) := by
      by_cases k : t <+: s
      · rw [decide_eq_true k, decide_eq_true ((List.prefix_iff_eq_take.1 k).symm)]
      · rw [decide_eq_false k, decide_eq_false fun k' => k (List.prefix_iff_eq_take.2 k'.symm)]
    rw [e]
    refine Ct.enterV (by rfl) Try.func54 rfl Try.ntmps54 rfl (fun w0 Rest => ?_)
    (repeat' (first | refine zss ?_ | refine zs0 ?_ | (refine zsp ?_ ?_ <;> (intro hc; (try simp only [zhcs, reduceCtorEq] at hc); (try (exfalso; first | omega | contradiction | omega | exact absurd rfl hc | exact absurd (by decide) hc))))))
    all_goals ((with_reducible apply At.retB1 (B := [])); exact rfl; exact rfl; exact zml; exact zkp; exact ⟨by simp, rfl, rfl⟩)
  · rw [decide_eq_false fun k => h k.length_le]
    refine Ct.enterV (by rfl) Try.func54 rfl Try.ntmps54 rfl (fun w0 Rest => ?_)
    (repeat' (first | refine zss ?_ | refine zs0 ?_ | (refine zsp ?_ ?_ <;> (intro hc; (try simp only [zhcs, reduceCtorEq] at hc); (try (exfalso; first | omega | contradiction | omega | exact absurd rfl hc | exact absurd (by decide) hc))))))
    all_goals ((with_reducible apply At.retB1 (B := [])); exact rfl; exact rfl; exact zml; exact zkp; exact ⟨rfl, rfl, rfl⟩)
theorem hasPre (s t : List UInt8) : Pu Try.prog 39 #[.string (str s), .string (str t)] (.bool (decide (t <+: s))) := by
  refine Pu.intro fun m => ?_
  refine Ct.enterV (by rfl) Try.func39 rfl Try.ntmps39 rfl (fun w0 Rest => ?_)
  (repeat' (first | refine zss ?_ | refine zs0 ?_ | ((with_reducible first | apply AtM1.callp | apply AtQ.callp | apply At.callp); kernel_rfl; exact rfl; exact rfl; exact hasPre' _ _) | (refine zsp ?_ ?_ <;> (intro hc; (try simp only [zhcs, reduceCtorEq] at hc); (try (exfalso; first | contradiction | omega | exact absurd rfl hc | exact absurd (by decide) hc))))))
  all_goals ((with_reducible apply At.retB1 (B := [])); exact rfl; exact rfl; exact zml; exact zkp; exact ⟨rfl, rfl, rfl⟩)
end Nm
end Go.Proofs.Ytjncahmbllmllaa

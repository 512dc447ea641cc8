/- The contract of the document's Sort. -/
import Derived.Test.YtkknmdoofofakaaLbS
import Derived.Test.YtkknmdoofofakaaJT
set_option linter.unusedSimpArgs false
set_option linter.unusedVariables false
set_option linter.unusedSectionVars false
set_option maxRecDepth 20000
set_option maxHeartbeats 4000000
namespace Go.Proofs.Ytkknmdoofofakaa
open Go Go.J
attribute [local irreducible] At AtQ AtM AtM1 PR Ct Pu Rd Res.blk Res.own Res.ex RVs RV
namespace Lb
structure QS where
  (i : Nat) (p : Option Addr) (c : Nat) (M : Mem)
set_option maxHeartbeats 1000000 in
theorem rsort {m : Mem} (p0 : Option Addr) (c0 : Nat) (l : List Lab) (hl : l.length ≤ 1000000) (sl0 : Sl m cells 2 p0 c0 l) :
    Ct Try.prog 27 #[.slice p0 l.length c0] m [] (PostL (srtL l)) := by
  refine Ct.enterV (by rfl) Try.func27 rfl Try.ntmps27 rfl (fun w0 Rest => ?_)
  (repeat' (first | refine ss ?_ | refine sM ?_ | ((with_reducible apply At.alloc (d := 5)); exact rfl; exact rfl; intro b5) | (refine sp ?_ ?_ <;> (intro hc; (try simp only [hcs, reduceCtorEq] at hc); (try (exfalso; first | contradiction | omega | exact absurd rfl hc | exact absurd (by decide) hc))))))
  (refine At.loopk (σ := QS) [8, 9] (fun s F0 => (3, .slice s.p (srtL (l.take s.i)).length s.c) :: (10, .int .i64 (s.i : Int)) :: F0) (fun s => s.M) (fun s => Rest) (fun s => m.le s.M ∧ s.i ≤ l.length ∧ Sl s.M cells 2 p0 c0 l ∧ Sl s.M cells 2 s.p s.c (srtL (l.take s.i))) (fun s => l.length - s.i) ⟨0, none, 0, m⟩ (by rfl) ?_ subs ml ente ?_)
  · exact ⟨Mem.le_refl _, Nat.zero_le _, sl0, Sl.empty _ inferInstance⟩
  rintro ⟨i, p, c, M⟩ ⟨e0, e1, e2, sl1⟩
  dsimp only at e0 e1 e2 sl1 ⊢
  clear sl0
  have sl0 := e2
  clear e2
  by_cases h : i < l.length
  · have hN := srt_snoc h
    have hP : (srtL (l.take i)).length = i := by rw [len_srt, List.length_take]; omega
    generalize srtL (l.take i) = P at hN hP sl1
    (repeat' (first | refine ss ?_ | refine sM ?_ | ((with_reducible apply At.alloc (d := 5)); exact rfl; exact rfl; intro b5) | (refine sp ?_ ?_ <;> (intro hc; (try simp only [hcs, reduceCtorEq] at hc); (try (exfalso; first | omega | contradiction | omega | exact absurd rfl hc | exact absurd (by decide) hc))))))
    (refine At.loopk (σ := Nat) [3, 5, 8, 9, 10] (fun s F0 => (6, .int .i64 (s : Int)) :: F0) (fun s => M) (fun s => .blk b5 44 [.string (str l[i]!.n), .string (str l[i]!.v)] :: Rest) (fun s => s ≤ P.length ∧ atF P l[i]!.n P.length = atF P l[i]!.n s) (fun s => s) P.length (by rfl) ?_ subs ml ente ?_)
    · exact ⟨Nat.le_refl _, rfl⟩
    rintro j ⟨hj, ha⟩
    have hfin : atF P l[i]!.n j = j → [] ++ P.take j ++ [l[i]!] ++ P.drop j = srtL (l.take (i + 1)) := fun k => by rw [hN]; unfold sins; rw [ha, k]; simp
    have hT : (P.take j).length = j := by rw [List.length_take]; omega
    have hDr : (P.drop j).length = P.length - j := List.length_drop ..
    have hfl : atF P l[i]!.n j = j → (srtL (l.take (i + 1))).length = ([] ++ P.take j ++ [l[i]!] ++ P.drop j).length := fun k => by rw [hfin k]
    cases j with
    | zero =>
      have hf := hfin rfl
      (repeat' (first | refine ss ?_ | refine sOM ?_ | ((with_reducible apply At.lit cells ([] : List Lab)); exact inferInstance; (iterate 7 exact rfl); intro _) | ((with_reducible apply At.litF cells [l[i]!]); exact inferInstance; (iterate 7 exact rfl); intro b' m' hm' sl3; (try replace sl0 := sl0.mono hm'); (try replace sl1 := sl1.mono hm'); (try replace sl5 := sl5.mono hm')) | ((with_reducible apply At.apW (f := cells) (l := ([] : List Lab))); exact rfl; exact rfl; exact (by repeat constructor); exact inferInstance; exact rdl; (iterate 4 exact rfl); exact om; exact rfl; intro p2 c2) | ((with_reducible apply At.apW (f := cells) (l := [] ++ P.take 0)); exact rfl; exact rfl; exact (by repeat constructor); exact inferInstance; exact rdl; (iterate 4 exact rfl); exact om; exact rfl; intro p3 c3) | ((with_reducible apply At.apW (f := cells) (l := [] ++ P.take 0 ++ [l[i]!])); exact rfl; exact rfl; exact (by repeat constructor); exact inferInstance; exact rdl; (iterate 4 exact rfl); exact om; exact rfl; intro p4 c4) | fail | ((with_reducible apply At.alloc (d := 5)); exact rfl; exact rfl; intro b5) | (refine sp ?_ ?_ <;> (intro hc; (try simp only [hcs, reduceCtorEq] at hc); (try (exfalso; first | omega | contradiction | omega | exact absurd rfl hc | exact absurd (by decide) hc))))))
      all_goals rw [show [] ++ P.take 0 ++ [l[i]!] ++ (P.take P.length).drop 0 = srtL (l.take (i + 1)) by rw [List.take_length]; exact hf]
      all_goals (refine At.own_freeze inferInstance (by repeat constructor) fun m' hm' sl5 => ?_; (try replace sl0 := sl0.mono hm'); (try replace sl1 := sl1.mono hm'); (try replace sl3 := sl3.mono hm'))
      all_goals ((with_reducible refine At.reachk ((⟨i + 1, p4, c4, m'⟩ : QS)) ?_ ?_ ?_ ?_); exact subs; exact ml; exact ente; exact ⟨⟨ml, h, sl0, sl5⟩, by show l.length - (i + 1) < l.length - i; omega⟩)
    | succ k =>
      have hw : IntKind.wrap .i64 (((k + 1 : Nat) : Int) - 1) = (k : Int) := by rw [show ((k + 1 : Nat) : Int) - 1 = (k : Int) by omega]; exact IntWalk.i64_in _ (by omega)
      cases e : ltB l[i]!.n P[k]!.n with
      | true =>
        (repeat' (first | refine ss ?_ | ((first | (with_reducible first | apply At.val | apply AtQ.val)); (first | exact pr_sub (by rfl) (by rfl) hw | exact pr_strgtr (by rfl) (by rfl) e); exact rfl) | refine sM ?_ | ((with_reducible apply At.alloc (d := 5)); exact rfl; exact rfl; intro b5) | (refine sp ?_ ?_ <;> (intro hc; (try simp only [hcs, reduceCtorEq] at hc); (try (exfalso; first | omega | contradiction | omega | exact absurd rfl hc | exact absurd (by decide) hc))))))
        all_goals ((with_reducible refine At.reachk (k) ?_ ?_ ?_ ?_); exact subs; exact ml; exact ente; exact ⟨⟨by omega, by rw [ha, atF_dn e]⟩, by omega⟩)
      | false =>
        have hf := hfin (atF_st e)
        (repeat' (first | refine ss ?_ | ((first | (with_reducible first | apply At.val | apply AtQ.val)); (first | exact pr_sub (by rfl) (by rfl) hw | exact pr_strgtr (by rfl) (by rfl) e); exact rfl) | refine sOM ?_ | ((with_reducible apply At.lit cells ([] : List Lab)); exact inferInstance; (iterate 7 exact rfl); intro _) | ((with_reducible apply At.litF cells [l[i]!]); exact inferInstance; (iterate 7 exact rfl); intro b' m' hm' sl3; (try replace sl0 := sl0.mono hm'); (try replace sl1 := sl1.mono hm'); (try replace sl5 := sl5.mono hm')) | ((with_reducible apply At.apW (f := cells) (l := ([] : List Lab))); exact rfl; exact rfl; exact (by repeat constructor); exact inferInstance; exact rdl; (iterate 4 exact rfl); exact om; exact rfl; intro p2 c2) | ((with_reducible apply At.apW (f := cells) (l := [] ++ P.take (k + 1))); exact rfl; exact rfl; exact (by repeat constructor); exact inferInstance; exact rdl; (iterate 4 exact rfl); exact om; exact rfl; intro p3 c3) | ((with_reducible apply At.apW (f := cells) (l := [] ++ P.take (k + 1) ++ [l[i]!])); exact rfl; exact rfl; exact (by repeat constructor); exact inferInstance; exact rdl; (iterate 4 exact rfl); exact om; exact rfl; intro p4 c4) | fail | ((with_reducible apply At.alloc (d := 5)); exact rfl; exact rfl; intro b5) | (refine sp ?_ ?_ <;> (intro hc; (try simp only [hcs, reduceCtorEq] at hc); (try (exfalso; first | omega | contradiction | omega | exact absurd rfl hc | exact absurd (by decide) hc))))))
        all_goals rw [show [] ++ P.take (k + 1) ++ [l[i]!] ++ (P.take P.length).drop (k + 1) = srtL (l.take (i + 1)) by rw [List.take_length]; exact hf]
        all_goals (refine At.own_freeze inferInstance (by repeat constructor) fun m' hm' sl5 => ?_; (try replace sl0 := sl0.mono hm'); (try replace sl1 := sl1.mono hm'); (try replace sl3 := sl3.mono hm'))
        all_goals ((with_reducible refine At.reachk ((⟨i + 1, p4, c4, m'⟩ : QS)) ?_ ?_ ?_ ?_); exact subs; exact ml; exact ente; exact ⟨⟨ml, h, sl0, sl5⟩, by show l.length - (i + 1) < l.length - i; omega⟩)
  · rw [show l.take i = l from List.take_of_length_le (by omega)] at sl1 ⊢
    (repeat' (first | refine ss ?_ | refine sM ?_ | ((with_reducible apply At.alloc (d := 5)); exact rfl; exact rfl; intro b5) | (refine sp ?_ ?_ <;> (intro hc; (try simp only [hcs, reduceCtorEq] at hc); (try (exfalso; first | omega | contradiction | omega | exact absurd rfl hc | exact absurd (by decide) hc))))))
    all_goals ((with_reducible apply At.retB1 (B := [])); exact rfl; exact rfl; exact ml; exact kp; exact ⟨rfl, p, c, rfl, sl1⟩)
end Lb
end Go.Proofs.Ytkknmdoofofakaa

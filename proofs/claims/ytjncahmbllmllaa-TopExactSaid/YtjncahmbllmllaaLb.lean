/- The contracts of labels: names, Check, Value, Same, Small; the document's. -/
import Derived.Test.YtjncahmbllmllaaLbP
import Derived.Test.YtjncahmbllmllaaJE
import Derived.Test.YtjncahmbllmllaaJT
set_option linter.unusedSimpArgs false
set_option linter.unusedVariables false
set_option linter.unusedSectionVars false
set_option maxRecDepth 20000
set_option maxHeartbeats 4000000
namespace Go.Proofs.Ytjncahmbllmllaa
open Go Go.J
attribute [local irreducible] At AtQ AtM AtM1 PR Ct Pu Rd Res.blk Res.own Res.ex RVs RV
namespace Lb
theorem digit (c : UInt8) : Pu Try.prog 40 #[.int .u8 (bI c)] (.bool (dig c)) := Pu.intro fun m => by
  refine Ct.enterV (by rfl) Try.func40 rfl Try.ntmps40 rfl (fun w0 Rest => ?_)
  (repeat' (first | refine zss ?_ | refine zs0 ?_ | (refine zsp ?_ ?_ <;> (intro hc; (try simp only [zhcs, reduceCtorEq] at hc); (try (exfalso; first | contradiction | omega | exact absurd rfl hc | exact absurd (by decide) hc))))))
  all_goals ((with_reducible apply At.retB1 (B := [])); exact rfl; exact rfl; exact zml; exact zkp; exact ⟨congrArg Value.bool (by unfold dig; first | (rw [decide_eq_decide]; omega) | (symm; rw [decide_eq_false_iff_not]; omega) | (symm; rw [decide_eq_true_eq]; omega)), rfl, rfl⟩)
theorem sign (c : UInt8) : Pu Try.prog 43 #[.int .u8 (bI c)] (.bool (sgn c)) := Pu.intro fun m => by
  have ho := or_let c
  have hd := digit c
  cases h : dig c with
  | true =>
    have h' := of_decide_eq_true h
    rw [h] at hd
    rw [show sgn c = true by unfold sgn; rw [decide_eq_true_eq]; omega]
    refine Ct.enterV (by rfl) Try.func43 rfl Try.ntmps43 rfl (fun w0 Rest => ?_)
    (repeat' (first | refine zss ?_ | ((first | (with_reducible first | apply At.val | apply AtQ.val)); (exact pr_or (by rfl) (by rfl) rfl); exact rfl) | refine zs0 ?_ | ((with_reducible first | apply AtM1.callp | apply AtQ.callp | apply At.callp); kernel_rfl; exact rfl; exact rfl; exact hd) | (refine zsp ?_ ?_ <;> (intro hc; (try simp only [zhcs, reduceCtorEq] at hc); (try (exfalso; first | contradiction | omega | exact absurd rfl hc | exact absurd (by decide) hc))))))
    all_goals ((with_reducible apply At.retB1 (B := [])); exact rfl; exact rfl; exact zml; exact zkp; exact ⟨rfl, rfl, rfl⟩)
  | false =>
    have h' := of_decide_eq_false h
    rw [h] at hd
    have hs : sgn c = decide ((97 ≤ bits .or .u8 (bI c) 32 ∧ bits .or .u8 (bI c) 32 ≤ 122) ∨ bI c = 95) := by unfold sgn; rw [decide_eq_decide]; omega
    obtain ⟨o, eo⟩ : ∃ o, bits .or .u8 (bI c) 32 = o := ⟨_, rfl⟩
    rw [hs, eo]
    refine Ct.enterV (by rfl) Try.func43 rfl Try.ntmps43 rfl (fun w0 Rest => ?_)
    (repeat' (first | refine zss ?_ | ((first | (with_reducible first | apply At.val | apply AtQ.val)); (exact pr_or (by rfl) (by rfl) eo); exact rfl) | refine zs0 ?_ | ((with_reducible first | apply AtM1.callp | apply AtQ.callp | apply At.callp); kernel_rfl; exact rfl; exact rfl; exact hd) | (refine zsp ?_ ?_ <;> (intro hc; (try simp only [zhcs, reduceCtorEq] at hc); (try (exfalso; first | contradiction | omega | exact absurd rfl hc | exact absurd (by decide) hc))))))
    all_goals ((with_reducible apply At.retB1 (B := [])); exact rfl; exact rfl; exact zml; exact zkp; exact ⟨congrArg Value.bool (by first | (rw [decide_eq_decide]; omega) | (symm; rw [decide_eq_false_iff_not]; omega) | (symm; rw [decide_eq_true_eq]; omega)), rfl, rfl⟩)
theorem name1 (c : UInt8) : Pu Try.prog 42 #[.int .u8 (bI c)] (.bool (!sgn c)) := Pu.intro fun m => by
  refine Ct.enterV (by rfl) Try.func42 rfl Try.ntmps42 rfl (fun w0 Rest => ?_)
  (repeat' (first | refine zss ?_ | refine zs0 ?_ | ((with_reducible first | apply AtM1.callp | apply AtQ.callp | apply At.callp); kernel_rfl; exact rfl; exact rfl; exact sign c) | (refine zsp ?_ ?_ <;> (intro hc; (try simp only [zhcs, reduceCtorEq] at hc); (try (exfalso; first | contradiction | omega | exact absurd rfl hc | exact absurd (by decide) hc))))))
  all_goals ((with_reducible apply At.retB1 (B := [])); exact rfl; exact rfl; exact zml; exact zkp; exact ⟨rfl, rfl, rfl⟩)
theorem map_get {l : List UInt8} {s : Nat} (h : s < l.length) : (l.map bI)[s]! = bI (l[s]!) := by
  rw [getElem!_pos _ s (by rw [List.length_map]; exact h), getElem!_pos l s h, List.getElem_map]
theorem indexN {m : Mem} (p : Option Addr) (c : Nat) (l : List UInt8) (hl : l.length ≤ 1000000) (sl0 : Sl m fb 1 p c (l.map bI)) :
    Ct Try.prog 55 #[.slice p (l.map bI).length c, .func (.func 42) #[] #[]] m [] (fun r m' B => m = m' ∧ B = [] ∧ ∃ k : Int, r = .int .i64 k ∧ (0 ≤ k ↔ ¬ ∀ i, i < l.length → sgn (l[i]!) = true)) := by
  have hml : (l.map bI).length = l.length := by simp
  refine Ct.enterV (by rfl) Try.func55 rfl Try.ntmps55 rfl (fun w0 Rest => ?_)
  (repeat' (first | refine zss ?_ | refine zsM ?_ | (refine zsp ?_ ?_ <;> (intro hc; (try simp only [zhcs, reduceCtorEq] at hc); (try (exfalso; first | contradiction | omega | exact absurd rfl hc | exact absurd (by decide) hc))))))
  (refine At.loopk (σ := Nat) [0, 1, 7] (fun s F0 => (8, .int .i64 (s : Int)) :: F0) (fun s => m) (fun s => Rest) (fun s => s ≤ l.length ∧ ∀ i, i < s → sgn (l[i]!) = true) (fun s => l.length - s) 0 (by rfl) ?_ zsubs zml zente ?_)
  · exact ⟨Nat.zero_le _, fun i h => absurd h (Nat.not_lt_zero i)⟩
  rintro s ⟨hs, hn⟩
  by_cases h : s < l.length
  · have hg : (l.map bI)[s]! = bI (l[s]!) := map_get h
    have hlp := name1 (l[s]!)
    rw [← hg] at hlp
    cases e : sgn (l[s]!) with
    | false =>
      rw [e, Bool.not_false] at hlp
      (repeat' (first | refine zss ?_ | refine zsM ?_ | ((with_reducible apply At.callf); exact rfl; kernel_rfl; exact rfl; exact rfl; exact Pu.ct hlp _; exact ztk; rintro v' m' B' hm' ⟨rfl, rfl, rfl⟩; (try replace sl0 := sl0.mono hm')) | (refine zsp ?_ ?_ <;> (intro hc; (try simp only [zhcs, reduceCtorEq] at hc); (try (exfalso; first | omega | contradiction | omega | exact absurd rfl hc | exact absurd (by decide) hc))))))
      all_goals ((with_reducible apply At.retB1 (B := [])); exact rfl; exact rfl; exact zml; exact zkp; exact ⟨rfl, rfl, _, rfl, ⟨fun _ hh => absurd ((hh s h).symm.trans e) (by decide), fun _ => by omega⟩⟩)
    | true =>
      rw [e, Bool.not_true] at hlp
      have hnn : ∀ i, i < s + 1 → sgn (l[i]!) = true := fun i hi => by
        by_cases e1 : i = s
        · subst e1; exact e
        · exact hn i (by omega)
      (repeat' (first | refine zss ?_ | refine zsM ?_ | ((with_reducible apply At.callf); exact rfl; kernel_rfl; exact rfl; exact rfl; exact Pu.ct hlp _; exact ztk; rintro v' m' B' hm' ⟨rfl, rfl, rfl⟩; (try replace sl0 := sl0.mono hm')) | (refine zsp ?_ ?_ <;> (intro hc; (try simp only [zhcs, reduceCtorEq] at hc); (try (exfalso; first | omega | contradiction | omega | exact absurd rfl hc | exact absurd (by decide) hc))))))
      all_goals ((with_reducible refine At.reachk ((s + 1)) ?_ ?_ ?_ ?_); exact zsubs; exact zml; exact zente; exact ⟨⟨h, hnn⟩, by omega⟩)
  · (repeat' (first | refine zss ?_ | refine zsM ?_ | (refine zsp ?_ ?_ <;> (intro hc; (try simp only [zhcs, reduceCtorEq] at hc); (try (exfalso; first | omega | contradiction | omega | exact absurd rfl hc | exact absurd (by decide) hc))))))
    all_goals ((with_reducible apply At.retB1 (B := [])); exact rfl; exact rfl; exact zml; exact zkp; exact ⟨rfl, rfl, _, rfl, ⟨fun hh => absurd hh (by decide), fun hh => absurd (fun i hi => hn i (by omega)) hh⟩⟩)
theorem containsN {m : Mem} (p : Option Addr) (c : Nat) (l : List UInt8) (hl : l.length ≤ 1000000) (sl0 : Sl m fb 1 p c (l.map bI)) :
    Rd Try.prog 41 #[.slice p (l.map bI).length c, .func (.func 42) #[] #[]] m [] (.bool (!decide (∀ i, i < l.length → sgn (l[i]!) = true))) := by
  unfold Rd
  refine Ct.enterV (by rfl) Try.func41 rfl Try.ntmps41 rfl (fun w0 Rest => ?_)
  (repeat' (first | refine zss ?_ | refine zsM ?_ | ((with_reducible first | apply At.c1 | apply At.c0); exact rfl; exact rfl; exact indexN p c l hl sl0; exact ztk; kernel_rfl; rintro v' m' B' hm' ⟨rfl, rfl, k, rfl, hk⟩; (try replace sl0 := sl0.mono hm'); (try (have hq0 : hm' = Mem.le_refl _ := rfl; clear hq0 hm'))) | (refine zsp ?_ ?_ <;> (intro hc; (try simp only [zhcs, reduceCtorEq] at hc); (try (exfalso; first | contradiction | omega | exact absurd rfl hc | exact absurd (by decide) hc))))))
  all_goals ((with_reducible apply At.retB1 (B := [])); exact rfl; exact rfl; exact zml; exact zkp; exact ⟨congrArg Value.bool (by rw [← decide_not, decide_eq_decide]; exact hk), rfl, rfl⟩)
theorem name (s : List UInt8) : Pu Try.prog 19 #[.string (str s)] (.bool (nameB s)) := by
  by_cases h0 : s = []
  · subst h0
    refine Pu.intro fun m => ?_
    refine Ct.enterV (by rfl) Try.func19 rfl Try.ntmps19 rfl (fun w0 Rest => ?_)
    (repeat' (first | refine zss ?_ | refine zs0 ?_ | (refine zsp ?_ ?_ <;> (intro hc; (try simp only [zhcs, reduceCtorEq] at hc); (try (exfalso; first | contradiction | omega | exact absurd rfl hc | exact absurd (by decide) hc))))))
    all_goals ((with_reducible apply At.retB1 (B := [])); exact rfl; exact rfl; exact zml; exact zkp; exact ⟨rfl, rfl, rfl⟩)
  have hl0 : 1 ≤ s.length := by cases s with
    | nil => exact absurd rfl h0
    | cons x s => simp
  have hs0 : str s ≠ str [] := fun e => h0 (str_inj.1 e)
  by_cases h1 : s.length ≤ 64
  · have hd := digit (s[0]!)
    cases e : dig (s[0]!) with
    | true =>
      rw [e] at hd
      rw [nameB_no fun k => absurd (k.2.2.1.symm.trans e) (by decide)]
      refine Pu.intro fun m => ?_
      refine Ct.enterV (by rfl) Try.func19 rfl Try.ntmps19 rfl (fun w0 Rest => ?_)
      (repeat' (first | refine zss ?_ | refine zs0 ?_ | ((with_reducible first | apply AtM1.callp | apply AtQ.callp | apply At.callp); kernel_rfl; exact rfl; exact rfl; exact hd) | (refine zsp ?_ ?_ <;> (intro hc; (try simp only [zhcs, reduceCtorEq] at hc); (try (exfalso; first | (first | omega | exact absurd hc hs0) | contradiction | omega | exact absurd rfl hc | exact absurd (by decide) hc))))))
      all_goals ((with_reducible apply At.retB1 (B := [])); exact rfl; exact rfl; exact zml; exact zkp; exact ⟨rfl, rfl, rfl⟩)
    | false =>
      rw [e] at hd
      have hv : nameB s = decide (∀ i, i < s.length → sgn (s[i]!) = true) := by unfold nameB; rw [decide_eq_decide]; exact ⟨fun k => k.2.2.2, fun k => ⟨hl0, h1, e, k⟩⟩
      rw [hv]
      have hq : (!(!decide (∀ i, i < s.length → sgn (s[i]!) = true))) = decide (∀ i, i < s.length → sgn (s[i]!) = true) := Bool.not_not _
      refine Pu.of_le fun m => ?_
      have hle : m.le m := Mem.le_refl m
      refine Ct.enterV (by rfl) Try.func19 rfl Try.ntmps19 rfl (fun w0 Rest => ?_)
      (repeat' (first | refine zss ?_ | refine zsM ?_ | ((with_reducible first | apply AtM1.callp | apply AtQ.callp | apply At.callp); kernel_rfl; exact rfl; exact rfl; exact hd) | ((with_reducible apply At.str_bytes); (iterate 4 exact rfl); exact zom; exact rfl; intro p' c' m' hm' sl1; skip) | ((with_reducible first | apply AtM1.cr | apply AtQ.cr | apply At.cr); exact rfl; exact rfl; exact fun _ hmm => containsN _ _ s (by omega) (sl1.mono hmm); exact ztk; kernel_rfl) | (refine zsp ?_ ?_ <;> (intro hc; (try simp only [zhcs, reduceCtorEq] at hc); (try (exfalso; first | (first | omega | exact absurd hc hs0) | contradiction | omega | exact absurd rfl hc | exact absurd (by decide) hc))))))
      all_goals ((with_reducible apply At.retB1 (B := [])); exact rfl; exact rfl; exact zml; exact zkp; exact ⟨congrArg Value.bool hq, by assumption, rfl⟩)
  · rw [nameB_no fun k => by omega]
    refine Pu.intro fun m => ?_
    refine Ct.enterV (by rfl) Try.func19 rfl Try.ntmps19 rfl (fun w0 Rest => ?_)
    (repeat' (first | refine zss ?_ | refine zs0 ?_ | (refine zsp ?_ ?_ <;> (intro hc; (try simp only [zhcs, reduceCtorEq] at hc); (try (exfalso; first | (first | omega | exact absurd hc hs0) | contradiction | omega | exact absurd rfl hc | exact absurd (by decide) hc))))))
    all_goals ((with_reducible apply At.retB1 (B := [])); exact rfl; exact rfl; exact zml; exact zkp; exact ⟨rfl, rfl, rfl⟩)
end Lb
end Go.Proofs.Ytjncahmbllmllaa

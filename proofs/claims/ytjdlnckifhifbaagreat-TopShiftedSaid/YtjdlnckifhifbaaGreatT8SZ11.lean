/- Part 11 of what the law's proof needs: rules of the walk, contracts of functions, plain laws. No condition. -/
import Derived.Test.YtjdlnckifhifbaaGreatT8SZ10
import Derived.Test.YtjdlnckifhifbaaGreatRows
/- The contracts of labels: names, Check, Value, Same, Small; the document's. -/
set_option linter.unusedSimpArgs false
set_option linter.unusedVariables false
set_option linter.unusedSectionVars false
set_option maxRecDepth 20000
set_option maxHeartbeats 4000000
namespace Go.Proofs.YtjdlnckifhifbaaGreat
open Go Go.J
attribute [local irreducible] At AtQ AtM AtM1 PR Ct Pu Rd Res.blk Res.own Res.ex RVs RV
namespace Lb
theorem digit (c : UInt8) : Pu Tryz.prog 81 #[.int .u8 (bI c)] (.bool (dig c)) := Pu.intro fun m => by
  refine Ct.enterV (by rfl) Tryz.func81 rfl Tryz.ntmps81 rfl (fun w0 Rest => ?_)
  (repeat' (first | refine zss ?_ | refine zs0 ?_ | (refine zsp ?_ ?_ <;> (intro hc; (try simp only [zhcs, reduceCtorEq] at hc); (try (exfalso; first | contradiction | omega | exact absurd rfl hc | exact absurd (by decide) hc))))))
  all_goals ((with_reducible apply At.retB1 (B := [])); exact rfl; exact rfl; exact zml; exact zkp; exact ⟨congrArg Value.bool (by unfold dig; first | (rw [decide_eq_decide]; omega) | (symm; rw [decide_eq_false_iff_not]; omega) | (symm; rw [decide_eq_true_eq]; omega)), rfl, rfl⟩)
theorem sign (c : UInt8) : Pu Tryz.prog 84 #[.int .u8 (bI c)] (.bool (sgn c)) := Pu.intro fun m => by
  have ho := or_let c
  have hd := digit c
  cases h : dig c with
  | true =>
    have h' := of_decide_eq_true h
    rw [h] at hd
    rw [show sgn c = true by unfold sgn; rw [decide_eq_true_eq]; omega]
    refine Ct.enterV (by rfl) Tryz.func84 rfl Tryz.ntmps84 rfl (fun w0 Rest => ?_)
    (repeat' (first | refine zss ?_ | ((first | (with_reducible first | apply At.val | apply AtQ.val)); (exact pr_or (by rfl) (by rfl) rfl); exact rfl) | refine zs0 ?_ | ((with_reducible first | apply AtM1.callp | apply AtQ.callp | apply At.callp); kernel_rfl; exact rfl; exact rfl; exact hd) | (refine zsp ?_ ?_ <;> (intro hc; (try simp only [zhcs, reduceCtorEq] at hc); (try (exfalso; first | contradiction | omega | exact absurd rfl hc | exact absurd (by decide) hc))))))
    all_goals ((with_reducible apply At.retB1 (B := [])); exact rfl; exact rfl; exact zml; exact zkp; exact ⟨rfl, rfl, rfl⟩)
  | false =>
    have h' := of_decide_eq_false h
    rw [h] at hd
    have hs : sgn c = decide ((97 ≤ bits .or .u8 (bI c) 32 ∧ bits .or .u8 (bI c) 32 ≤ 122) ∨ bI c = 95) := by unfold sgn; rw [decide_eq_decide]; omega
    obtain ⟨o, eo⟩ : ∃ o, bits .or .u8 (bI c) 32 = o := ⟨_, rfl⟩
    rw [hs, eo]
    refine Ct.enterV (by rfl) Tryz.func84 rfl Tryz.ntmps84 rfl (fun w0 Rest => ?_)
    (repeat' (first | refine zss ?_ | ((first | (with_reducible first | apply At.val | apply AtQ.val)); (exact pr_or (by rfl) (by rfl) eo); exact rfl) | refine zs0 ?_ | ((with_reducible first | apply AtM1.callp | apply AtQ.callp | apply At.callp); kernel_rfl; exact rfl; exact rfl; exact hd) | (refine zsp ?_ ?_ <;> (intro hc; (try simp only [zhcs, reduceCtorEq] at hc); (try (exfalso; first | contradiction | omega | exact absurd rfl hc | exact absurd (by decide) hc))))))
    all_goals ((with_reducible apply At.retB1 (B := [])); exact rfl; exact rfl; exact zml; exact zkp; exact ⟨congrArg Value.bool (by first | (rw [decide_eq_decide]; omega) | (symm; rw [decide_eq_false_iff_not]; omega) | (symm; rw [decide_eq_true_eq]; omega)), rfl, rfl⟩)
theorem name1 (c : UInt8) : Pu Tryz.prog 83 #[.int .u8 (bI c)] (.bool (!sgn c)) := Pu.intro fun m => by
  refine Ct.enterV (by rfl) Tryz.func83 rfl Tryz.ntmps83 rfl (fun w0 Rest => ?_)
  (repeat' (first | refine zss ?_ | refine zs0 ?_ | ((with_reducible first | apply AtM1.callp | apply AtQ.callp | apply At.callp); kernel_rfl; exact rfl; exact rfl; exact sign c) | (refine zsp ?_ ?_ <;> (intro hc; (try simp only [zhcs, reduceCtorEq] at hc); (try (exfalso; first | contradiction | omega | exact absurd rfl hc | exact absurd (by decide) hc))))))
  all_goals ((with_reducible apply At.retB1 (B := [])); exact rfl; exact rfl; exact zml; exact zkp; exact ⟨rfl, rfl, rfl⟩)
theorem map_get {l : List UInt8} {s : Nat} (h : s < l.length) : (l.map bI)[s]! = bI (l[s]!) := by
  rw [getElem!_pos _ s (by rw [List.length_map]; exact h), getElem!_pos l s h, List.getElem_map]
theorem indexN {m : Mem} (p : Option Addr) (c : Nat) (l : List UInt8) (hl : l.length ≤ 1000000) (sl0 : Sl m fb 1 p c (l.map bI)) :
    Ct Tryz.prog 110 #[.slice p (l.map bI).length c, .func (.func 83) #[] #[]] m [] (fun r m' B => m = m' ∧ B = [] ∧ ∃ k : Int, r = .int .i64 k ∧ (0 ≤ k ↔ ¬ ∀ i, i < l.length → sgn (l[i]!) = true)) := by
  have hml : (l.map bI).length = l.length := by simp
  refine Ct.enterV (by rfl) Tryz.func110 rfl Tryz.ntmps110 rfl (fun w0 Rest => ?_)
  (repeat' (first | refine zss ?_ | refine zsM ?_ | (refine zsp ?_ ?_ <;> (intro hc; (try simp only [zhcs, reduceCtorEq] at hc); (try (exfalso; first | contradiction | omega | exact absurd rfl hc | exact absurd (by decide) hc))))))
  (refine At.loopk (σ := Nat) [0, 1, 7] (fun s F0 => (8, .int .i64 (s : Int)) :: F0) (fun s => m) (fun s => Rest) (fun s => s ≤ l.length ∧ ∀ i, i < s → sgn (l[i]!) = true) (fun s => l.length - s) 0 (by rfl) ?_ zsubs zml zente ?_)
  · exact ⟨Nat.zero_le _, fun i h => absurd h (Nat.not_lt_zero i)⟩
  rintro s ⟨hs, hn⟩
  by_cases h : s < l.length
  · have hg : (l.map bI)[s]! = bI (l[s]!) := map_get h
    have hlp := name1 (l[s]!)
    rw [← hg] at hlp
    cases e : sgn (l[s]!) with
    | false =>
      rw [e, Bool.not_false] at hlp
      (repeat' (first | refine zss ?_ | refine zsM ?_ | ((with_reducible apply At.callf); exact rfl; kernel_rfl; exact rfl; exact rfl; exact Pu.ct hlp _; exact ztk; rintro v' m' B' hm' ⟨rfl, rfl, rfl⟩; (try replace sl0 := sl0.mono hm')) | (refine zsp ?_ ?_ <;> (intro hc; (try simp only [zhcs, reduceCtorEq] at hc); (try (exfalso; first | omega | contradiction | omega | exact absurd rfl hc | exact absurd (by decide) hc))))))
      all_goals ((with_reducible apply At.retB1 (B := [])); exact rfl; exact rfl; exact zml; exact zkp; exact ⟨rfl, rfl, _, rfl, ⟨fun _ hh => absurd ((hh s h).symm.trans e) (by decide), fun _ => by omega⟩⟩)
    | true =>
      rw [e, Bool.not_true] at hlp
      have hnn : ∀ i, i < s + 1 → sgn (l[i]!) = true := fun i hi => by
        by_cases e1 : i = s
        · subst e1; exact e
        · exact hn i (by omega)
      (repeat' (first | refine zss ?_ | refine zsM ?_ | ((with_reducible apply At.callf); exact rfl; kernel_rfl; exact rfl; exact rfl; exact Pu.ct hlp _; exact ztk; rintro v' m' B' hm' ⟨rfl, rfl, rfl⟩; (try replace sl0 := sl0.mono hm')) | (refine zsp ?_ ?_ <;> (intro hc; (try simp only [zhcs, reduceCtorEq] at hc); (try (exfalso; first | omega | contradiction | omega | exact absurd rfl hc | exact absurd (by decide) hc))))))
      all_goals ((with_reducible refine At.reachk ((s + 1)) ?_ ?_ ?_ ?_); exact zsubs; exact zml; exact zente; exact ⟨⟨h, hnn⟩, by omega⟩)
  · (repeat' (first | refine zss ?_ | refine zsM ?_ | (refine zsp ?_ ?_ <;> (intro hc; (try simp only [zhcs, reduceCtorEq] at hc); (try (exfalso; first | omega | contradiction | omega | exact absurd rfl hc | exact absurd (by decide) hc))))))
    all_goals ((with_reducible apply At.retB1 (B := [])); exact rfl; exact rfl; exact zml; exact zkp; exact ⟨rfl, rfl, _, rfl, ⟨fun hh => absurd hh (by decide), fun hh => absurd (fun i hi => hn i (by omega)) hh⟩⟩)
theorem containsN {m : Mem} (p : Option Addr) (c : Nat) (l : List UInt8) (hl : l.length ≤ 1000000) (sl0 : Sl m fb 1 p c (l.map bI)) :
    Rd Tryz.prog 82 #[.slice p (l.map bI).length c, .func (.func 83) #[] #[]] m [] (.bool (!decide (∀ i, i < l.length → sgn (l[i]!) = true))) := by
  unfold Rd
  refine Ct.enterV (by rfl) Tryz.func82 rfl Tryz.ntmps82 rfl (fun w0 Rest => ?_)
  (repeat' (first | refine zss ?_ | refine zsM ?_ | ((with_reducible first | apply At.c1 | apply At.c0); exact rfl; exact rfl; exact indexN p c l hl sl0; exact ztk; kernel_rfl; rintro v' m' B' hm' ⟨rfl, rfl, k, rfl, hk⟩; (try replace sl0 := sl0.mono hm'); (try (have hq0 : hm' = Mem.le_refl _ := rfl; clear hq0 hm'))) | (refine zsp ?_ ?_ <;> (intro hc; (try simp only [zhcs, reduceCtorEq] at hc); (try (exfalso; first | contradiction | omega | exact absurd rfl hc | exact absurd (by decide) hc))))))
  all_goals ((with_reducible apply At.retB1 (B := [])); exact rfl; exact rfl; exact zml; exact zkp; exact ⟨congrArg Value.bool (by rw [← decide_not, decide_eq_decide]; exact hk), rfl, rfl⟩)
theorem name (s : List UInt8) : Pu Tryz.prog 60 #[.string (str s)] (.bool (nameB s)) := by
  by_cases h0 : s = []
  · subst h0
    refine Pu.intro fun m => ?_
    refine Ct.enterV (by rfl) Tryz.func60 rfl Tryz.ntmps60 rfl (fun w0 Rest => ?_)
    (repeat' (first | refine zss ?_ | refine zs0 ?_ | (refine zsp ?_ ?_ <;> (intro hc; (try simp only [zhcs, reduceCtorEq] at hc); (try (exfalso; first | contradiction | omega | exact absurd rfl hc | exact absurd (by decide) hc))))))
    all_goals ((with_reducible apply At.retB1 (B := [])); exact rfl; exact rfl; exact zml; exact zkp; exact ⟨rfl, rfl, rfl⟩)
  have hl0 : 1 ≤ s.length := by cases s with
    | nil => exact absurd rfl h0
    | cons x s => simp
  have hs0 : str s ≠ str [] := fun e => h0 (str_inj.1 e)
  by_cases h1 : s.length ≤ 64
  · have hd := digit (s[0]!)
    cases e : dig (s[0]!) with
    | true =>
      rw [e] at hd
      rw [nameB_no fun k => absurd (k.2.2.1.symm.trans e) (by decide)]
      refine Pu.intro fun m => ?_
      refine Ct.enterV (by rfl) Tryz.func60 rfl Tryz.ntmps60 rfl (fun w0 Rest => ?_)
      (repeat' (first | refine zss ?_ | refine zs0 ?_ | ((with_reducible first | apply AtM1.callp | apply AtQ.callp | apply At.callp); kernel_rfl; exact rfl; exact rfl; exact hd) | (refine zsp ?_ ?_ <;> (intro hc; (try simp only [zhcs, reduceCtorEq] at hc); (try (exfalso; first | (first | omega | exact absurd hc hs0) | contradiction | omega | exact absurd rfl hc | exact absurd (by decide) hc))))))
      all_goals ((with_reducible apply At.retB1 (B := [])); exact rfl; exact rfl; exact zml; exact zkp; exact ⟨rfl, rfl, rfl⟩)
    | false =>
      rw [e] at hd
      have hv : nameB s = decide (∀ i, i < s.length → sgn (s[i]!) = true) := by unfold nameB; rw [decide_eq_decide]; exact ⟨fun k => k.2.2.2, fun k => ⟨hl0, h1, e, k⟩⟩
      rw [hv]
      have hq : (!(!decide (∀ i, i < s.length → sgn (s[i]!) = true))) = decide (∀ i, i < s.length → sgn (s[i]!) = true) := Bool.not_not _
      refine Pu.of_le fun m => ?_
      have hle : m.le m := Mem.le_refl m
      refine Ct.enterV (by rfl) Tryz.func60 rfl Tryz.ntmps60 rfl (fun w0 Rest => ?_)
      (repeat' (first | refine zss ?_ | refine zsM ?_ | ((with_reducible first | apply AtM1.callp | apply AtQ.callp | apply At.callp); kernel_rfl; exact rfl; exact rfl; exact hd) | ((with_reducible apply At.str_bytes); (iterate 4 exact rfl); exact zom; exact rfl; intro p' c' m' hm' sl1; skip) | ((with_reducible first | apply AtM1.cr | apply AtQ.cr | apply At.cr); exact rfl; exact rfl; exact fun _ hmm => containsN _ _ s (by omega) (sl1.mono hmm); exact ztk; kernel_rfl) | (refine zsp ?_ ?_ <;> (intro hc; (try simp only [zhcs, reduceCtorEq] at hc); (try (exfalso; first | (first | omega | exact absurd hc hs0) | contradiction | omega | exact absurd rfl hc | exact absurd (by decide) hc))))))
      all_goals ((with_reducible apply At.retB1 (B := [])); exact rfl; exact rfl; exact zml; exact zkp; exact ⟨congrArg Value.bool hq, by assumption, rfl⟩)
  · rw [nameB_no fun k => by omega]
    refine Pu.intro fun m => ?_
    refine Ct.enterV (by rfl) Tryz.func60 rfl Tryz.ntmps60 rfl (fun w0 Rest => ?_)
    (repeat' (first | refine zss ?_ | refine zs0 ?_ | (refine zsp ?_ ?_ <;> (intro hc; (try simp only [zhcs, reduceCtorEq] at hc); (try (exfalso; first | (first | omega | exact absurd hc hs0) | contradiction | omega | exact absurd rfl hc | exact absurd (by decide) hc))))))
    all_goals ((with_reducible apply At.retB1 (B := [])); exact rfl; exact rfl; exact zml; exact zkp; exact ⟨rfl, rfl, rfl⟩)
end Lb
end Go.Proofs.YtjdlnckifhifbaaGreat
/- The contracts of labels: Check, Value, Same, Small; the document's. -/
set_option linter.unusedSimpArgs false
set_option linter.unusedVariables false
set_option linter.unusedSectionVars false
set_option maxRecDepth 20000
set_option maxHeartbeats 4000000
namespace Go.Proofs.YtjdlnckifhifbaaGreat
open Go Go.J
attribute [local irreducible] At AtQ AtM AtM1 PR Ct Pu Rd Res.blk Res.own Res.ex RVs RV
namespace Lb
/-- texts no longer than any can be -/
def Mid (l : List Lab) : Prop := ∀ i, i < l.length → l[i]!.n.length ≤ 1000000000000 ∧ l[i]!.v.length ≤ 1000000000000
theorem check {m : Mem} (p : Option Addr) (c : Nat) (l : List Lab) (hb : Mid l) (sl0 : Sl m cells 2 p c l) :
    Rd Tryz.prog 34 #[.slice p l.length c] m [] (.int .i64 (chk l)) := by
  unfold Rd
  by_cases hlen : l.length < 1 ∨ 16 < l.length
  · rw [bad_len hlen]
    refine Ct.enterV (by rfl) Tryz.func34 rfl Tryz.ntmps34 rfl (fun w0 Rest => ?_)
    (repeat' (first | refine zss ?_ | refine zsM ?_ | ((with_reducible apply At.alloc (d := 5)); exact rfl; exact rfl; intro b5) | (refine zsp ?_ ?_ <;> (intro hc; (try simp only [zhcs, reduceCtorEq] at hc); (try (exfalso; first | omega | contradiction | omega | exact absurd rfl hc | exact absurd (by decide) hc))))))
    all_goals ((with_reducible apply At.retB1 (B := [])); exact rfl; exact rfl; exact zml; exact zkp; exact ⟨rfl, rfl, rfl⟩)
  refine Ct.enterV (by rfl) Tryz.func34 rfl Tryz.ntmps34 rfl (fun w0 Rest => ?_)
  (repeat' (first | refine zss ?_ | refine zsM ?_ | ((with_reducible apply At.alloc (d := 5)); exact rfl; exact rfl; intro b5) | (refine zsp ?_ ?_ <;> (intro hc; (try simp only [zhcs, reduceCtorEq] at hc); (try (exfalso; first | omega | contradiction | omega | exact absurd rfl hc | exact absurd (by decide) hc))))))
  all_goals
    (refine At.loopk (σ := Nat) [0, 14, 15] (fun s F0 => (3, .int .i64 (256 - (tot (l.take s) : Int))) :: (16, .int .i64 (s : Int)) :: F0) (fun s => m) (fun s => Rest) (fun s => s ≤ l.length ∧ (∀ i, i < s → okAt l i = true) ∧ tot (l.take s) ≤ 256) (fun s => l.length - s) 0 (by rfl) ?_ zsubs zml zente ?_)
    · exact ⟨Nat.zero_le _, fun i h => absurd h (Nat.not_lt_zero i), by simp [tot]⟩
    rintro j ⟨hj, hn, ht⟩
    by_cases h : j < l.length
    · have hp := name (l[j]!.n)
      have hb1 := (hb j h).1
      have hb2 := (hb j h).2
      have htt := tot_take h
      cases e1 : nameB l[j]!.n with
      | false =>
        rw [e1] at hp
        rw [bad_at h fun k => absurd (k.1.symm.trans e1) (by decide)]
        (repeat' (first | refine zss ?_ | refine zsM ?_ | ((with_reducible first | apply AtM1.callp | apply AtQ.callp | apply At.callp); kernel_rfl; exact rfl; exact rfl; exact hp) | ((with_reducible apply At.alloc (d := 5)); exact rfl; exact rfl; intro b5) | (refine zsp ?_ ?_ <;> (intro hc; (try simp only [zhcs, reduceCtorEq] at hc); (try (exfalso; first | omega | contradiction | omega | exact absurd rfl hc | exact absurd (by decide) hc))))))
        all_goals ((with_reducible apply At.retB1 (B := [])); exact rfl; exact rfl; exact zml; exact zkp; exact ⟨rfl, rfl, rfl⟩)
      | true =>
        rw [e1] at hp
        by_cases e2 : l[j]!.v.length ≤ 128
        · by_cases e3 : tot (l.take (j + 1)) ≤ 256
          · cases j with
            | zero =>
              (repeat' (first | refine zss ?_ | refine zsM ?_ | ((with_reducible first | apply AtM1.callp | apply AtQ.callp | apply At.callp); kernel_rfl; exact rfl; exact rfl; exact hp) | ((with_reducible apply At.alloc (d := 5)); exact rfl; exact rfl; intro b5) | (refine zsp ?_ ?_ <;> (intro hc; (try simp only [zhcs, reduceCtorEq] at hc); (try (exfalso; first | omega | contradiction | omega | exact absurd rfl hc | exact absurd (by decide) hc))))))
              all_goals ((with_reducible refine At.reachk ((0 + 1)) ?_ ?_ ?_ ?_); exact zsubs; exact zml; exact zente; exact ⟨⟨h, fun i hi => by
                obtain rfl : i = 0 := by omega
                exact decide_eq_true ⟨e1, e2, fun k => absurd k (Nat.lt_irrefl 0)⟩, e3⟩, by omega⟩)
            | succ k =>
              have hw : IntKind.wrap .i64 (((k + 1 : Nat) : Int) - 1) = (k : Int) := by rw [show ((k + 1 : Nat) : Int) - 1 = (k : Int) by omega]; exact IntWalk.i64_in _ (by omega)
              cases e4 : ltB l[k]!.n l[k + 1]!.n with
              | true =>
                (repeat' (first | refine zss ?_ | ((first | (with_reducible first | apply At.val | apply AtQ.val)); (first | exact pr_sub (by rfl) (by rfl) hw | exact pr_strgeq (by rfl) (by rfl) e4); exact rfl) | refine zsM ?_ | ((with_reducible first | apply AtM1.callp | apply AtQ.callp | apply At.callp); kernel_rfl; exact rfl; exact rfl; exact hp) | ((with_reducible apply At.alloc (d := 5)); exact rfl; exact rfl; intro b5) | (refine zsp ?_ ?_ <;> (intro hc; (try simp only [zhcs, reduceCtorEq] at hc); (try (exfalso; first | omega | contradiction | omega | exact absurd rfl hc | exact absurd (by decide) hc))))))
                all_goals ((with_reducible refine At.reachk ((k + 1 + 1)) ?_ ?_ ?_ ?_); exact zsubs; exact zml; exact zente; exact ⟨⟨h, fun i hi => by
                  by_cases e : i = k + 1
                  · subst e; exact decide_eq_true ⟨e1, e2, fun _ => e4⟩
                  · exact hn i (by omega), e3⟩, by omega⟩)
              | false =>
                rw [bad_at h fun q => absurd ((q.2.2 (by omega)).symm.trans e4) (by decide)]
                (repeat' (first | refine zss ?_ | ((first | (with_reducible first | apply At.val | apply AtQ.val)); (first | exact pr_sub (by rfl) (by rfl) hw | exact pr_strgeq (by rfl) (by rfl) e4); exact rfl) | refine zsM ?_ | ((with_reducible first | apply AtM1.callp | apply AtQ.callp | apply At.callp); kernel_rfl; exact rfl; exact rfl; exact hp) | ((with_reducible apply At.alloc (d := 5)); exact rfl; exact rfl; intro b5) | (refine zsp ?_ ?_ <;> (intro hc; (try simp only [zhcs, reduceCtorEq] at hc); (try (exfalso; first | omega | contradiction | omega | exact absurd rfl hc | exact absurd (by decide) hc))))))
                all_goals ((with_reducible apply At.retB1 (B := [])); exact rfl; exact rfl; exact zml; exact zkp; exact ⟨rfl, rfl, rfl⟩)
          · rw [bad_tot (show 256 < tot (l.take (j + 1)) by omega)]
            (repeat' (first | refine zss ?_ | refine zsM ?_ | ((with_reducible first | apply AtM1.callp | apply AtQ.callp | apply At.callp); kernel_rfl; exact rfl; exact rfl; exact hp) | ((with_reducible apply At.alloc (d := 5)); exact rfl; exact rfl; intro b5) | (refine zsp ?_ ?_ <;> (intro hc; (try simp only [zhcs, reduceCtorEq] at hc); (try (exfalso; first | omega | contradiction | omega | exact absurd rfl hc | exact absurd (by decide) hc))))))
            all_goals ((with_reducible apply At.retB1 (B := [])); exact rfl; exact rfl; exact zml; exact zkp; exact ⟨rfl, rfl, rfl⟩)
        · rw [bad_at h fun k => e2 k.2.1]
          (repeat' (first | refine zss ?_ | refine zsM ?_ | ((with_reducible first | apply AtM1.callp | apply AtQ.callp | apply At.callp); kernel_rfl; exact rfl; exact rfl; exact hp) | ((with_reducible apply At.alloc (d := 5)); exact rfl; exact rfl; intro b5) | (refine zsp ?_ ?_ <;> (intro hc; (try simp only [zhcs, reduceCtorEq] at hc); (try (exfalso; first | omega | contradiction | omega | exact absurd rfl hc | exact absurd (by decide) hc))))))
          all_goals ((with_reducible apply At.retB1 (B := [])); exact rfl; exact rfl; exact zml; exact zkp; exact ⟨rfl, rfl, rfl⟩)
    · have hlj : l.take j = l := List.take_of_length_le (by omega)
      rw [chk_ok ⟨by omega, by omega, fun i hi => hn i (by omega), by rw [← hlj]; exact ht⟩]
      (repeat' (first | refine zss ?_ | refine zsM ?_ | ((with_reducible apply At.alloc (d := 5)); exact rfl; exact rfl; intro b5) | (refine zsp ?_ ?_ <;> (intro hc; (try simp only [zhcs, reduceCtorEq] at hc); (try (exfalso; first | omega | contradiction | omega | exact absurd rfl hc | exact absurd (by decide) hc))))))
      all_goals ((with_reducible apply At.retB1 (B := [])); exact rfl; exact rfl; exact zml; exact zkp; exact ⟨rfl, rfl, rfl⟩)
abbrev pt (b : Nat) : Value := .pointer (some ⟨b, 0, none⟩)
abbrev bx (b : Nat) (t : List UInt8) : List Res := [.blk b 9 [.string (str t)]]
theorem small {m : Mem} (p : Option Addr) (c : Nat) (l : List Lab) (sl0 : Sl m cells 2 p c l) :
    Rd Tryz.prog 42 #[.slice p l.length c] m [] (.int .i64 (if few l then 1 else 0)) := by
  unfold Rd
  refine Ct.enterV (by rfl) Tryz.func42 rfl Tryz.ntmps42 rfl (fun w0 Rest => ?_)
  (repeat' (first | refine zss ?_ | refine zsM ?_ | ((with_reducible apply At.alloc (d := 4)); exact rfl; exact rfl; intro b4) | (refine zsp ?_ ?_ <;> (intro hc; (try simp only [zhcs, reduceCtorEq] at hc); (try (exfalso; first | contradiction | omega | exact absurd rfl hc | exact absurd (by decide) hc))))))
  (refine At.loopk (σ := Nat) [5, 6] (fun s F0 => (7, .int .i64 (s : Int)) :: F0) (fun s => m) (fun s => Rest) (fun s => s ≤ l.length ∧ s ≤ 40 ∧ ∀ i, i < s → l[i]!.n.length ≤ 1000 ∧ l[i]!.v.length ≤ 1000) (fun s => l.length - s) 0 (by rfl) ?_ zsubs zml zente ?_)
  · exact ⟨Nat.zero_le _, Nat.zero_le _, fun i h => absurd h (Nat.not_lt_zero i)⟩
  rintro j ⟨hj, h40, hn⟩
  by_cases h : j < l.length
  · by_cases e0 : j = 40
    · rw [if_neg (show ¬ few l from fun k => by have := k.1; omega)]
      (repeat' (first | refine zss ?_ | refine zsM ?_ | ((with_reducible apply At.alloc (d := 4)); exact rfl; exact rfl; intro b4) | (refine zsp ?_ ?_ <;> (intro hc; (try simp only [zhcs, reduceCtorEq] at hc); (try (exfalso; first | omega | contradiction | omega | exact absurd rfl hc | exact absurd (by decide) hc))))))
      all_goals ((with_reducible apply At.retB1 (B := [])); exact rfl; exact rfl; exact zml; exact zkp; exact ⟨rfl, rfl, rfl⟩)
    by_cases e : l[j]!.n.length ≤ 1000 ∧ l[j]!.v.length ≤ 1000
    · (repeat' (first | refine zss ?_ | refine zsM ?_ | ((with_reducible apply At.alloc (d := 4)); exact rfl; exact rfl; intro b4) | (refine zsp ?_ ?_ <;> (intro hc; (try simp only [zhcs, reduceCtorEq] at hc); (try (exfalso; first | omega | contradiction | omega | exact absurd rfl hc | exact absurd (by decide) hc))))))
      all_goals ((with_reducible refine At.reachk ((j + 1)) ?_ ?_ ?_ ?_); exact zsubs; exact zml; exact zente; exact ⟨⟨h, by omega, fun i hi => by
        by_cases e1 : i = j
        · subst e1; exact e
        · exact hn i (by omega)⟩, by omega⟩)
    · rw [if_neg (show ¬ few l from fun k => e (k.2 j h))]
      (repeat' (first | refine zss ?_ | refine zsM ?_ | ((with_reducible apply At.alloc (d := 4)); exact rfl; exact rfl; intro b4) | (refine zsp ?_ ?_ <;> (intro hc; (try simp only [zhcs, reduceCtorEq] at hc); (try (exfalso; first | omega | contradiction | omega | exact absurd rfl hc | exact absurd (by decide) hc))))))
      all_goals ((with_reducible apply At.retB1 (B := [])); exact rfl; exact rfl; exact zml; exact zkp; exact ⟨rfl, rfl, rfl⟩)
  · rw [if_pos (show few l from ⟨by omega, fun i hi => hn i (by omega)⟩)]
    (repeat' (first | refine zss ?_ | refine zsM ?_ | ((with_reducible apply At.alloc (d := 4)); exact rfl; exact rfl; intro b4) | (refine zsp ?_ ?_ <;> (intro hc; (try simp only [zhcs, reduceCtorEq] at hc); (try (exfalso; first | omega | contradiction | omega | exact absurd rfl hc | exact absurd (by decide) hc))))))
    all_goals ((with_reducible apply At.retB1 (B := [])); exact rfl; exact rfl; exact zml; exact zkp; exact ⟨rfl, rfl, rfl⟩)
theorem Mid.of {l : List Lab} (h : ∀ x ∈ l, x.n.length ≤ 1000000000000 ∧ x.v.length ≤ 1000000000000) : Mid l := fun i hi => h _ (Ls.mem! hi)
theorem few.mid {l : List Lab} (h : few l) : Mid l := fun i hi => by have := h.2 i hi; omega
end Lb
end Go.Proofs.YtjdlnckifhifbaaGreat
/- Series: what one is; the tiers' slots searched and held against one another. -/
set_option linter.unusedSimpArgs false
set_option linter.unusedVariables false
set_option linter.unusedSectionVars false
set_option maxRecDepth 20000
set_option maxHeartbeats 4000000
namespace Go.Proofs.YtjdlnckifhifbaaGreat
open Go Go.J
attribute [local irreducible] At AtQ AtM AtM1 PR Ct Pu Rd Res.blk Res.own Res.ex RVs RV
/-- a series -/
structure Ser where
  (lab : Lst Lab) (last lost mark : Int) (raw : Lst Ev) (t0 t1 t2 : Lst Slot) (op : Slot)
namespace Ser
abbrev cells : Ser → List Value := fun s => s.lab.v :: .int .i64 s.last :: .int .i64 s.lost :: .int .i64 s.mark :: s.raw.v :: s.t0.v :: s.t1.v :: s.t2.v :: Slot.cells s.op
abbrev v (s : Ser) : Value := .agg (cells s).toArray
abbrev z : Ser := ⟨Lst.nil, 0, 0, 0, Lst.nil, Lst.nil, Lst.nil, Lst.nil, Slot.z⟩
instance : Inhabited Ser := ⟨z⟩
instance : Fl cells 23 := ⟨fun _ => rfl, fun x v h => by
  simp at h
  rcases h with rfl | rfl | rfl | rfl | rfl | rfl | rfl | rfl | rfl | rfl | rfl | rfl | rfl | rfl | rfl | rfl | rfl | rfl | rfl | rfl | rfl | rfl | rfl <;> rfl, by decide⟩
/-- what it has lies where it says; its numbers are numbers -/
structure Ok (m : Mem) (s : Ser) : Prop where
  sl : Sl m Lb.cells 2 s.lab.p s.lab.c s.lab.l
  sr : Sl m Ev.cells 4 s.raw.p s.raw.c s.raw.l
  s0 : Sl m Slot.cells 15 s.t0.p s.t0.c s.t0.l
  s1 : Sl m Slot.cells 15 s.t1.p s.t1.c s.t1.l
  s2 : Sl m Slot.cells 15 s.t2.p s.t2.c s.t2.l
  ml : Lb.Mid s.lab.l
  i0 : ∀ x ∈ s.t0.l, Slot.In x
  i1 : ∀ x ∈ s.t1.l, Slot.In x
  i2 : ∀ x ∈ s.t2.l, Slot.In x
  io : Slot.In s.op
  ir : ∀ e ∈ s.raw.l, e.V < 18446744073709551616
  nl : s.lab.l.length ≤ 1000000
  nr : s.raw.l.length ≤ 1000000
  n0 : s.t0.l.length ≤ 1000000
  n1 : s.t1.l.length ≤ 1000000
  n2 : s.t2.l.length ≤ 1000000
  bl : -9223372036854775808 ≤ s.last ∧ s.last ≤ 9223372036854775807
theorem Ok.mono {m m' : Mem} {s : Ser} (h : Ok m s) (hm : m.le m') : Ok m' s := ⟨h.sl.mono hm, h.sr.mono hm, h.s0.mono hm, h.s1.mono hm, h.s2.mono hm, h.ml, h.i0, h.i1, h.i2, h.io, h.ir, h.nl, h.nr, h.n0, h.n1, h.n2, h.bl⟩
end Ser
namespace Se
abbrev bi (b : Nat) (i : Int) : List Res := [.blk b 2 [.int .i64 i]]
def bh1 (i : Int) (s : Slot) : Bool := decide (0 < s.c.n ∧ i ≤ s.w)
/-- a tier has a slot of a window, or one behind it -/
def bhd (l : List Slot) (i : Int) : Bool := l.any (bh1 i)
theorem bhd_no {l : List Slot} {i : Int} (h : ∀ k, k < l.length → bh1 i l[k]! = false) : bhd l i = false := by
  unfold bhd
  rw [List.any_eq_false]
  intro x hx
  obtain ⟨k, hk, e⟩ := List.mem_iff_getElem.1 hx
  have := h k hk
  rw [getElem!_pos l k hk, e] at this
  rw [this]
  decide
theorem bhd_yes {l : List Slot} {i : Int} {k : Nat} (hk : k < l.length) (h : bh1 i l[k]! = true) : bhd l i = true := by
  unfold bhd
  rw [List.any_eq_true]
  exact ⟨l[k]!, Ls.mem! hk, h⟩
theorem behind1 {m : Mem} (b : Nat) (s : Slot) (i : Int) (q : Bool) (h : bh1 i s = q) : Ct Tryz.prog 101 #[s.v, pt b] m (bi b i) (fun v m' B => v = .bool q ∧ m = m' ∧ B = bi b i) := by
  subst h
  unfold bh1
  refine Ct.enterV (by rfl) Tryz.func101 rfl Tryz.ntmps101 rfl (fun w0 Rest => ?_)
  (repeat' (first | refine zss ?_ | refine zs0 ?_ | ((with_reducible apply At.box (d := 2)); exact rfl; exact rfl; exact rfl; intro b2) | (refine zsp ?_ ?_ <;> (intro hc; (try simp only [zhcs, reduceCtorEq] at hc); (try (exfalso; first | contradiction | omega | exact absurd rfl hc | exact absurd (by decide) hc))))))
  all_goals ((with_reducible apply At.retB1 (B := bi b i)); exact rfl; exact rfl; exact zml; exact zkp; exact ⟨congrArg Value.bool (by simp [hc]), rfl, rfl⟩)
theorem indexB {m : Mem} (b : Nat) (p : Option Addr) (c : Nat) (l : List Slot) (i : Int) (hl : l.length ≤ 1000000) (sl0 : Sl m Slot.cells 15 p c l) :
    Ct Tryz.prog 121 #[.slice p l.length c, .func (.func 101) #[] #[pt b]] m (bi b i) (fun v m' B => m = m' ∧ B = bi b i ∧
      ((v = .int .i64 (-1) ∧ bhd l i = false) ∨ (∃ k : Nat, v = .int .i64 (k : Int) ∧ bhd l i = true))) := by
  refine Ct.enterV (by rfl) Tryz.func121 rfl Tryz.ntmps121 rfl (fun w0 Rest => ?_)
  (repeat' (first | refine zss ?_ | refine zsM ?_ | (refine zsp ?_ ?_ <;> (intro hc; (try simp only [zhcs, reduceCtorEq] at hc); (try (exfalso; first | contradiction | omega | exact absurd rfl hc | exact absurd (by decide) hc))))))
  (refine At.loopk (σ := Nat) [0, 1, 7] (fun s F0 => (8, .int .i64 (s : Int)) :: F0) (fun s => m) (fun s => .blk b 2 [.int .i64 i] :: Rest) (fun s => s ≤ l.length ∧ ∀ k, k < s → bh1 i l[k]! = false) (fun s => l.length - s) 0 (by rfl) ?_ zsubs zml zente ?_)
  · exact ⟨Nat.zero_le _, fun i h => absurd h (Nat.not_lt_zero i)⟩
  rintro j ⟨hs, hn⟩
  by_cases h : j < l.length
  · cases e : bh1 i l[j]!
    · have hnn : ∀ k, k < j + 1 → bh1 i l[k]! = false := fun k hk => by
        by_cases e1 : k = j
        · subst e1; exact e
        · exact hn k (by omega)
      (repeat' (first | refine zss ?_ | refine zsM ?_ | ((with_reducible apply At.callf); exact rfl; kernel_rfl; exact rfl; exact rfl; exact behind1 b (l[j]!) i false e; exact ztk; rintro v' m' B' hm' ⟨rfl, rfl, rfl⟩; (try replace sl0 := sl0.mono hm')) | (refine zsp ?_ ?_ <;> (intro hc; (try simp only [zhcs, reduceCtorEq] at hc); (try (exfalso; first | omega | contradiction | omega | exact absurd rfl hc | exact absurd (by decide) hc))))))
      all_goals ((with_reducible refine At.reachk ((j + 1)) ?_ ?_ ?_ ?_); exact zsubs; exact zml; exact zente; exact ⟨⟨h, hnn⟩, by omega⟩)
    · (repeat' (first | refine zss ?_ | refine zsM ?_ | ((with_reducible apply At.callf); exact rfl; kernel_rfl; exact rfl; exact rfl; exact behind1 b (l[j]!) i true e; exact ztk; rintro v' m' B' hm' ⟨rfl, rfl, rfl⟩; (try replace sl0 := sl0.mono hm')) | (refine zsp ?_ ?_ <;> (intro hc; (try simp only [zhcs, reduceCtorEq] at hc); (try (exfalso; first | omega | contradiction | omega | exact absurd rfl hc | exact absurd (by decide) hc))))))
      all_goals ((with_reducible apply At.retB1 (B := bi b i)); exact rfl; exact rfl; exact zml; exact zkp; exact ⟨rfl, rfl, .inr ⟨j, rfl, bhd_yes h e⟩⟩)
  · (repeat' (first | refine zss ?_ | refine zsM ?_ | (refine zsp ?_ ?_ <;> (intro hc; (try simp only [zhcs, reduceCtorEq] at hc); (try (exfalso; first | omega | contradiction | omega | exact absurd rfl hc | exact absurd (by decide) hc))))))
    all_goals ((with_reducible apply At.retB1 (B := bi b i)); exact rfl; exact rfl; exact zml; exact zkp; exact ⟨rfl, rfl, .inl ⟨rfl, bhd_no fun k hk => hn k (by omega)⟩⟩)
theorem containsB {m : Mem} (b : Nat) (p : Option Addr) (c : Nat) (l : List Slot) (i : Int) (hl : l.length ≤ 1000000) (sl0 : Sl m Slot.cells 15 p c l) :
    Ct Tryz.prog 100 #[.slice p l.length c, .func (.func 101) #[] #[pt b]] m (bi b i) (fun v m' B => v = .bool (bhd l i) ∧ m = m' ∧ B = bi b i) := by
  refine Ct.enterV (by rfl) Tryz.func100 rfl Tryz.ntmps100 rfl (fun w0 Rest => ?_)
  (repeat' (first | refine zss ?_ | refine zsM ?_ | ((with_reducible first | apply At.c1 | apply At.c0); exact rfl; exact rfl; exact indexB b p c l i hl sl0; exact ztk; kernel_rfl; rintro v' m' B' hm' ⟨rfl, rfl, hv⟩; (try replace sl0 := sl0.mono hm'); (try (have hq0 : hm' = Mem.le_refl _ := rfl; clear hq0 hm'))) | (rcases hv with ⟨rfl, hv⟩ | ⟨k, rfl, hv⟩) | (refine zsp ?_ ?_ <;> (intro hc; (try simp only [zhcs, reduceCtorEq] at hc); (try (exfalso; first | omega | contradiction | omega | exact absurd rfl hc | exact absurd (by decide) hc))))))
  all_goals ((with_reducible apply At.retB1 (B := bi b i)); exact rfl; exact rfl; exact zml; exact zkp; exact ⟨congrArg Value.bool (by rw [hv]; first | rfl | (simp <;> omega)), rfl, rfl⟩)
theorem behind {m : Mem} (p : Option Addr) (c : Nat) (l : List Slot) (i : Int) (hl : l.length ≤ 1000000) (sl0 : Sl m Slot.cells 15 p c l) :
    Rd Tryz.prog 72 #[.slice p l.length c, .int .i64 i] m [] (.bool (bhd l i)) := by
  unfold Rd
  refine Ct.enterV (by rfl) Tryz.func72 rfl Tryz.ntmps72 rfl (fun w0 Rest => ?_)
  (repeat' (first | refine zss ?_ | refine zsM ?_ | ((with_reducible first | apply At.c1 | apply At.c0); exact rfl; exact rfl; exact containsB _ p c l i hl sl0; exact ztk; kernel_rfl; rintro v' m' B' hm' ⟨rfl, rfl, rfl⟩; (try replace sl0 := sl0.mono hm'); (try (have hq0 : hm' = Mem.le_refl _ := rfl; clear hq0 hm'))) | ((with_reducible apply At.box (d := 3)); exact rfl; exact rfl; exact rfl; intro b3) | (refine zsp ?_ ?_ <;> (intro hc; (try simp only [zhcs, reduceCtorEq] at hc); (try (exfalso; first | contradiction | omega | exact absurd rfl hc | exact absurd (by decide) hc))))))
  all_goals ((with_reducible apply At.retB1 (B := [])); exact rfl; exact rfl; exact zml; exact zkp; exact ⟨rfl, rfl, rfl⟩)
end Se
end Go.Proofs.YtjdlnckifhifbaaGreat
/- The package fold opens tiers that are right; a series that is dead. -/
set_option linter.unusedSimpArgs false
set_option linter.unusedVariables false
set_option linter.unusedSectionVars false
set_option maxRecDepth 20000
set_option maxHeartbeats 4000000
namespace Go.Proofs.YtjdlnckifhifbaaGreat
open Go Go.J
attribute [local irreducible] At AtQ AtM AtM1 PR Ct Pu Rd Res.blk Res.own Res.ex RVs RV
namespace Se
open Win
/-- all of it is gone -/
def dead (k : Cfg) (last now : Int) : Bool := decide k.ok && goneV last now k.a k.x && goneV last now k.b k.y && goneV last now k.d k.w
structure DS where
  (j : Nat) (q : Bool)
/-- what is told so far -/
def ex3 (b q1 q2 q3 : Bool) : Nat → Bool
  | 0 => b
  | 1 => b && q1
  | 2 => b && q1 && q2
  | _ => b && q1 && q2 && q3
end Se
end Go.Proofs.YtjdlnckifhifbaaGreat
/- The package series opens a series that is right. -/
set_option linter.unusedSimpArgs false
set_option linter.unusedVariables false
set_option linter.unusedSectionVars false
set_option maxRecDepth 20000
set_option maxHeartbeats 4000000
namespace Go.Proofs.YtjdlnckifhifbaaGreat
open Go Go.J
attribute [local irreducible] At AtQ AtM AtM1 PR Ct Pu Rd Res.blk Res.own Res.ex RVs RV
namespace Se
open Win
/-- nothing was put yet -/
def frs (x : Ser) : Bool := ex3 (decide (x.raw.l.length = 0 ∧ x.op = Slot.z)) (!bhd x.t0.l 0) (!bhd x.t1.l 0) (!bhd x.t2.l 0) 3
abbrev kb (b : Nat) (k : Cfg) (x : Ser) : List Res := [.blk b 106 (k.cells ++ x.cells)]
set_option maxRecDepth 100000 in
theorem fresh {m : Mem} (b : Nat) (k : Cfg) (x : Ser) (ho : x.Ok m) : Ct Tryz.prog 48 #[pt b] m (kb b k x) (fun v m' B => v = .bool (frs x) ∧ m = m' ∧ B = kb b k x) := by
  obtain ⟨sl0, sl1, sl2, sl3, sl4, -, -, -, -, -, -, -, hr, h0, h1, h2, -⟩ := ho
  have k0 := fun (m' : Mem) (h : m.le m') => behind x.t0.p x.t0.c x.t0.l 0 h0 (sl2.mono h)
  have k1 := fun (m' : Mem) (h : m.le m') => behind x.t1.p x.t1.c x.t1.l 0 h1 (sl3.mono h)
  have k2 := fun (m' : Mem) (h : m.le m') => behind x.t2.p x.t2.c x.t2.l 0 h2 (sl4.mono h)
  unfold frs
  generalize bhd x.t0.l 0 = q0 at k0 ⊢
  generalize bhd x.t1.l 0 = q1 at k1 ⊢
  generalize bhd x.t2.l 0 = q2 at k2 ⊢
  refine Ct.enterV (by rfl) Tryz.func48 rfl Tryz.ntmps48 rfl (fun w0 Rest => ?_)
  (repeat' (first | (refine At.cutp (id := 1) (x.raw.l.length = 0 ∧ x.op = Slot.z) 3 [0] (by rfl) ?_ ?_) | refine zss ?_ | ((first | (with_reducible first | apply At.val | apply AtQ.val)); (exact Ti.pr_sleq (b := Slot.z) (by rfl) (by rfl)); exact rfl) | refine zsM ?_ | ((with_reducible apply At.endp); exact rfl; exact zsubs; exact zml; exact zente; (first | (simp_all; done) | (simp_all <;> omega))) | (refine zsp ?_ ?_ <;> (intro hc; (try simp only [zhcs, reduceCtorEq] at hc); (try (exfalso; first | omega | contradiction | omega | exact absurd rfl hc | exact absurd (by decide) hc))))))
  generalize decide (x.raw.l.length = 0 ∧ x.op = Slot.z) = b0
  (refine At.loopk (σ := DS) [27] (fun s F0 => (28, .int .i64 (s.j : Int)) :: (3, .bool s.q) :: F0) (fun s => m) (fun s => .blk b 106 (k.cells ++ x.cells) :: Rest) (fun s => s.j ≤ 3 ∧ s.q = ex3 b0 (!q0) (!q1) (!q2) s.j) (fun s => 3 - s.j) ⟨0, b0⟩ (by rfl) ?_ zsubs zml zente ?_)
  · exact ⟨Nat.zero_le _, rfl⟩
  rintro ⟨j, q⟩ ⟨hs, e⟩
  dsimp only at hs e ⊢
  rcases (show j = 0 ∨ j = 1 ∨ j = 2 ∨ j = 3 by omega) with rfl | rfl | rfl | rfl
  · replace e : q = b0 := e
    cases q
    · (repeat' (first | refine zss ?_ | ((first | (with_reducible first | apply At.val | apply AtQ.val)); (exact pr_index_agg (k := 0) (by rfl) (by rfl) (by rfl) (by rfl) (by rfl) (by rfl) (by rfl)); exact rfl) | refine zsM ?_ | (refine zsp ?_ ?_ <;> (intro hc; (try simp only [zhcs, reduceCtorEq] at hc); (try (exfalso; first | (first | omega | exact absurd rfl hc) | contradiction | omega | exact absurd rfl hc | exact absurd (by decide) hc))))))
      all_goals ((with_reducible refine At.reachk (⟨1, false⟩) ?_ ?_ ?_ ?_); exact zsubs; exact zml; exact zente; exact ⟨⟨(by decide : 1 ≤ 3), by show false = (b0 && !q0); rw [← e]; rfl⟩, (by decide : 3 - 1 < 3 - 0)⟩)
    · (repeat' (first | refine zss ?_ | ((first | (with_reducible first | apply At.val | apply AtQ.val)); (exact pr_index_agg (k := 0) (by rfl) (by rfl) (by rfl) (by rfl) (by rfl) (by rfl) (by rfl)); exact rfl) | refine zsM ?_ | ((with_reducible first | apply AtM1.cr | apply AtQ.cr | apply At.cr); exact rfl; exact rfl; exact fun _ hmm => k0 _ hmm; exact ztk; kernel_rfl) | (refine zsp ?_ ?_ <;> (intro hc; (try simp only [zhcs, reduceCtorEq] at hc); (try (exfalso; first | (first | omega | exact absurd rfl hc) | contradiction | omega | exact absurd rfl hc | exact absurd (by decide) hc))))))
      all_goals ((with_reducible refine At.reachk (⟨1, !q0⟩) ?_ ?_ ?_ ?_); exact zsubs; exact zml; exact zente; exact ⟨⟨(by decide : 1 ≤ 3), by show (!q0) = (b0 && !q0); rw [← e]; rfl⟩, (by decide : 3 - 1 < 3 - 0)⟩)
  · replace e : q = (b0 && !q0) := e
    cases q
    · (repeat' (first | refine zss ?_ | ((first | (with_reducible first | apply At.val | apply AtQ.val)); (exact pr_index_agg (k := 1) (by rfl) (by rfl) (by rfl) (by rfl) (by rfl) (by rfl) (by rfl)); exact rfl) | refine zsM ?_ | (refine zsp ?_ ?_ <;> (intro hc; (try simp only [zhcs, reduceCtorEq] at hc); (try (exfalso; first | (first | omega | exact absurd rfl hc) | contradiction | omega | exact absurd rfl hc | exact absurd (by decide) hc))))))
      all_goals ((with_reducible refine At.reachk (⟨2, false⟩) ?_ ?_ ?_ ?_); exact zsubs; exact zml; exact zente; exact ⟨⟨(by decide : 2 ≤ 3), by show false = (b0 && !q0 && !q1); rw [← e]; rfl⟩, (by decide : 3 - 2 < 3 - 1)⟩)
    · (repeat' (first | refine zss ?_ | ((first | (with_reducible first | apply At.val | apply AtQ.val)); (exact pr_index_agg (k := 1) (by rfl) (by rfl) (by rfl) (by rfl) (by rfl) (by rfl) (by rfl)); exact rfl) | refine zsM ?_ | ((with_reducible first | apply AtM1.cr | apply AtQ.cr | apply At.cr); exact rfl; exact rfl; exact fun _ hmm => k1 _ hmm; exact ztk; kernel_rfl) | (refine zsp ?_ ?_ <;> (intro hc; (try simp only [zhcs, reduceCtorEq] at hc); (try (exfalso; first | (first | omega | exact absurd rfl hc) | contradiction | omega | exact absurd rfl hc | exact absurd (by decide) hc))))))
      all_goals ((with_reducible refine At.reachk (⟨2, !q1⟩) ?_ ?_ ?_ ?_); exact zsubs; exact zml; exact zente; exact ⟨⟨(by decide : 2 ≤ 3), by show (!q1) = (b0 && !q0 && !q1); rw [← e]; rfl⟩, (by decide : 3 - 2 < 3 - 1)⟩)
  · replace e : q = (b0 && !q0 && !q1) := e
    cases q
    · (repeat' (first | refine zss ?_ | ((first | (with_reducible first | apply At.val | apply AtQ.val)); (exact pr_index_agg (k := 2) (by rfl) (by rfl) (by rfl) (by rfl) (by rfl) (by rfl) (by rfl)); exact rfl) | refine zsM ?_ | (refine zsp ?_ ?_ <;> (intro hc; (try simp only [zhcs, reduceCtorEq] at hc); (try (exfalso; first | (first | omega | exact absurd rfl hc) | contradiction | omega | exact absurd rfl hc | exact absurd (by decide) hc))))))
      all_goals ((with_reducible refine At.reachk (⟨3, false⟩) ?_ ?_ ?_ ?_); exact zsubs; exact zml; exact zente; exact ⟨⟨(by decide : 3 ≤ 3), by show false = (b0 && !q0 && !q1 && !q2); rw [← e]; rfl⟩, (by decide : 3 - 3 < 3 - 2)⟩)
    · (repeat' (first | refine zss ?_ | ((first | (with_reducible first | apply At.val | apply AtQ.val)); (exact pr_index_agg (k := 2) (by rfl) (by rfl) (by rfl) (by rfl) (by rfl) (by rfl) (by rfl)); exact rfl) | refine zsM ?_ | ((with_reducible first | apply AtM1.cr | apply AtQ.cr | apply At.cr); exact rfl; exact rfl; exact fun _ hmm => k2 _ hmm; exact ztk; kernel_rfl) | (refine zsp ?_ ?_ <;> (intro hc; (try simp only [zhcs, reduceCtorEq] at hc); (try (exfalso; first | (first | omega | exact absurd rfl hc) | contradiction | omega | exact absurd rfl hc | exact absurd (by decide) hc))))))
      all_goals ((with_reducible refine At.reachk (⟨3, !q2⟩) ?_ ?_ ?_ ?_); exact zsubs; exact zml; exact zente; exact ⟨⟨(by decide : 3 ≤ 3), by show (!q2) = (b0 && !q0 && !q1 && !q2); rw [← e]; rfl⟩, (by decide : 3 - 3 < 3 - 2)⟩)
  · replace e : q = (b0 && !q0 && !q1 && !q2) := e
    subst e
    (repeat' (first | refine zss ?_ | refine zsM ?_ | (refine zsp ?_ ?_ <;> (intro hc; (try simp only [zhcs, reduceCtorEq] at hc); (try (exfalso; first | (first | omega | exact absurd rfl hc) | contradiction | omega | exact absurd rfl hc | exact absurd (by decide) hc))))))
    all_goals ((with_reducible apply At.retB1 (B := kb b k x)); exact rfl; exact rfl; exact zml; exact zkp; exact ⟨rfl, rfl, rfl⟩)
/-- all ends with the last event -/
def edB (x : Ser) (k : Cfg) : Prop := Raw.lastE x.raw.l = 0 ∧ (Raw.lastV x.raw.l).T = x.last ∧ x.op.c.L.T = x.last ∧ Ti.fits x.op.c k.a x.op.w
instance (x : Ser) (k : Cfg) : Decidable (edB x k) := by unfold edB; infer_instance
def eds (x : Ser) (k : Cfg) : Bool := ex3 (decide (edB x k)) (!bhd x.t0.l (x.last / k.a)) (!bhd x.t1.l (x.last / k.b)) (!bhd x.t2.l (x.last / k.d)) 3
theorem last_pos {lost mark room : Int} {l : List Ev} (h : Raw.rk lost mark l room) (he : Raw.lastE l = 0) : 0 ≤ (Raw.lastV l).T ∧ (Raw.lastV l).T < 35184372088832 := by
  unfold Raw.lastE at he
  unfold Raw.lastV
  by_cases hz : l.length = 0
  · rw [if_pos hz] at he; exact absurd he (by decide)
  · rw [if_neg hz]
    have := h.2.1.1 (l.length - 1) (by omega)
    exact ⟨this.1, this.2.1⟩
set_option maxRecDepth 100000 in
theorem ends {m : Mem} (b : Nat) (k : Cfg) (x : Ser) (ho : x.Ok m) (hk : k.ok) (hr : Raw.rk x.lost x.mark x.raw.l k.r) : Ct Tryz.prog 49 #[pt b] m (kb b k x) (fun v m' B => v = .bool (eds x k) ∧ m = m' ∧ B = kb b k x) := by
  have hlp := last_pos hr
  obtain ⟨sl0, sl1, sl2, sl3, sl4, -, -, -, -, io, -, -, nr, h0, h1, h2, -⟩ := ho
  have hw0 := hk.ha
  have hw1 := hk.hb
  have hw2 := hk.hd
  clear hr hk
  have kl := fun (m' : Mem) (h : m.le m') => Raw.last x.lost x.mark x.raw.p x.raw.c x.raw.l nr (sl1.mono h)
  have kf := Ti.fitsT x.op.c k.a x.op.w io.2.1
  have k0 := fun (m' : Mem) (h : m.le m') => behind x.t0.p x.t0.c x.t0.l (x.last / k.a) h0 (sl2.mono h)
  have k1 := fun (m' : Mem) (h : m.le m') => behind x.t1.p x.t1.c x.t1.l (x.last / k.b) h1 (sl3.mono h)
  have k2 := fun (m' : Mem) (h : m.le m') => behind x.t2.p x.t2.c x.t2.l (x.last / k.d) h2 (sl4.mono h)
  unfold eds
  generalize bhd x.t0.l (x.last / k.a) = q0 at k0 ⊢
  generalize bhd x.t1.l (x.last / k.b) = q1 at k1 ⊢
  generalize bhd x.t2.l (x.last / k.d) = q2 at k2 ⊢
  have hb : edB x k → 0 ≤ x.last ∧ x.last < 35184372088832 := fun h => by rw [← h.2.1]; exact hlp h.1
  clear hlp io nr
  rw [show decide (edB x k) = decide (Raw.lastE x.raw.l = 0 ∧ (Raw.lastV x.raw.l).T = x.last ∧ x.op.c.L.T = x.last ∧ Ti.fits x.op.c k.a x.op.w) from decide_eq_decide.2 Iff.rfl]
  unfold edB at hb
  generalize Raw.lastE x.raw.l = le at kl hb ⊢
  generalize Raw.lastV x.raw.l = lv at kl hb ⊢
  refine Ct.enterV (by rfl) Tryz.func49 rfl Tryz.ntmps49 rfl (fun w0 Rest => ?_)
  (repeat' (first | (refine At.cutp (id := 2) (le = 0 ∧ lv.T = x.last ∧ x.op.c.L.T = x.last ∧ Ti.fits x.op.c k.a x.op.w) 5 [0] (by rfl) ?_ ?_) | refine zss ?_ | ((first | (with_reducible first | apply At.val | apply AtQ.val)); (exact pr_indexArr (k := 0) (by rfl) (by rfl) (by rfl) (by rfl) (by decide)); exact rfl) | refine zsM ?_ | ((with_reducible first | apply AtM1.cr | apply AtQ.cr | apply At.cr); exact rfl; exact rfl; exact fun _ hmm => kl _ hmm; exact ztk; kernel_rfl) | ((with_reducible first | apply AtM1.callp | apply AtQ.callp | apply At.callp); kernel_rfl; exact rfl; exact rfl; exact kf) | ((with_reducible apply At.endp); exact rfl; exact zsubs; exact zml; exact zente; (first | (simp_all; done) | (simp_all <;> omega))) | ((with_reducible apply At.alloc (d := 3)); exact rfl; exact rfl; intro b3) | (refine zsp ?_ ?_ <;> (intro hc; (try simp only [zhcs, reduceCtorEq] at hc); (try (exfalso; first | (first | omega | exact absurd rfl hc) | contradiction | omega | exact absurd rfl hc | exact absurd (by decide) hc))))))
  replace hb : decide (le = 0 ∧ lv.T = x.last ∧ x.op.c.L.T = x.last ∧ Ti.fits x.op.c k.a x.op.w) = true → 0 ≤ x.last ∧ x.last < 35184372088832 := fun h => hb (of_decide_eq_true h)
  generalize decide (le = 0 ∧ lv.T = x.last ∧ x.op.c.L.T = x.last ∧ Ti.fits x.op.c k.a x.op.w) = b0 at hb ⊢
  clear kl kf
  (refine At.loopk (σ := DS) [0, 70] (fun s F0 => (71, .int .i64 (s.j : Int)) :: (5, .bool s.q) :: F0) (fun s => m) (fun s => .blk b 106 (k.cells ++ x.cells) :: Rest) (fun s => s.j ≤ 3 ∧ s.q = ex3 b0 (!q0) (!q1) (!q2) s.j) (fun s => 3 - s.j) ⟨0, b0⟩ (by rfl) ?_ zsubs zml zente ?_)
  · exact ⟨Nat.zero_le _, rfl⟩
  rintro ⟨j, q⟩ ⟨hs, e⟩
  dsimp only at hs e ⊢
  rcases (show j = 0 ∨ j = 1 ∨ j = 2 ∨ j = 3 by omega) with rfl | rfl | rfl | rfl
  · replace e : q = b0 := e
    cases q
    · clear hb
      (repeat' (first | refine zss ?_ | ((first | (with_reducible first | apply At.val | apply AtQ.val)); (exact pr_index_agg (k := 0) (by rfl) (by rfl) (by rfl) (by rfl) (by rfl) (by rfl) (by rfl)); exact rfl) | refine zsM ?_ | ((with_reducible apply At.alloc (d := 3)); exact rfl; exact rfl; intro b3) | (refine zsp ?_ ?_ <;> (intro hc; (try simp only [zhcs, reduceCtorEq] at hc); (try (exfalso; first | (first | omega | exact absurd rfl hc) | contradiction | omega | exact absurd rfl hc | exact absurd (by decide) hc))))))
      all_goals ((with_reducible refine At.reachk (⟨1, false⟩) ?_ ?_ ?_ ?_); exact zsubs; exact zml; exact zente; exact ⟨⟨(by decide : 1 ≤ 3), by show false = (b0 && !q0); rw [← e]; rfl⟩, (by decide : 3 - 1 < 3 - 0)⟩)
    · have hp := hb (by cases b0 with | false => exact absurd e (by first | decide | (simp only [Bool.false_and]; decide)) | true => rfl)
      (repeat' (first | refine zss ?_ | ((first | (with_reducible first | apply At.val | apply AtQ.val)); (first | exact pr_index_agg (k := 0) (by rfl) (by rfl) (by rfl) (by rfl) (by rfl) (by rfl) (by rfl) | exact pr_indexArr (k := 0) (by rfl) (by rfl) (by rfl) (by rfl) (by decide)); exact rfl) | refine zsM ?_ | ((with_reducible first | apply AtM1.cr | apply AtQ.cr | apply At.cr); exact rfl; exact rfl; exact fun _ hmm => k0 _ hmm; exact ztk; kernel_rfl) | ((with_reducible apply At.alloc (d := 3)); exact rfl; exact rfl; intro b3) | (refine zsp ?_ ?_ <;> (intro hc; (try simp only [zhcs, reduceCtorEq] at hc); (try (exfalso; first | (first | omega | exact absurd rfl hc) | contradiction | omega | exact absurd rfl hc | exact absurd (by decide) hc))))))
      all_goals ((with_reducible refine At.reachk (⟨1, !q0⟩) ?_ ?_ ?_ ?_); exact zsubs; exact zml; exact zente; exact ⟨⟨(by decide : 1 ≤ 3), by show (!q0) = (b0 && !q0); rw [← e]; rfl⟩, (by decide : 3 - 1 < 3 - 0)⟩)
  · replace e : q = (b0 && !q0) := e
    cases q
    · clear hb
      (repeat' (first | refine zss ?_ | ((first | (with_reducible first | apply At.val | apply AtQ.val)); (exact pr_index_agg (k := 1) (by rfl) (by rfl) (by rfl) (by rfl) (by rfl) (by rfl) (by rfl)); exact rfl) | refine zsM ?_ | ((with_reducible apply At.alloc (d := 3)); exact rfl; exact rfl; intro b3) | (refine zsp ?_ ?_ <;> (intro hc; (try simp only [zhcs, reduceCtorEq] at hc); (try (exfalso; first | (first | omega | exact absurd rfl hc) | contradiction | omega | exact absurd rfl hc | exact absurd (by decide) hc))))))
      all_goals ((with_reducible refine At.reachk (⟨2, false⟩) ?_ ?_ ?_ ?_); exact zsubs; exact zml; exact zente; exact ⟨⟨(by decide : 2 ≤ 3), by show false = (b0 && !q0 && !q1); rw [← e]; rfl⟩, (by decide : 3 - 2 < 3 - 1)⟩)
    · have hp := hb (by cases b0 with | false => exact absurd e (by first | decide | (simp only [Bool.false_and]; decide)) | true => rfl)
      (repeat' (first | refine zss ?_ | ((first | (with_reducible first | apply At.val | apply AtQ.val)); (first | exact pr_index_agg (k := 1) (by rfl) (by rfl) (by rfl) (by rfl) (by rfl) (by rfl) (by rfl) | exact pr_indexArr (k := 1) (by rfl) (by rfl) (by rfl) (by rfl) (by decide)); exact rfl) | refine zsM ?_ | ((with_reducible first | apply AtM1.cr | apply AtQ.cr | apply At.cr); exact rfl; exact rfl; exact fun _ hmm => k1 _ hmm; exact ztk; kernel_rfl) | ((with_reducible apply At.alloc (d := 3)); exact rfl; exact rfl; intro b3) | (refine zsp ?_ ?_ <;> (intro hc; (try simp only [zhcs, reduceCtorEq] at hc); (try (exfalso; first | (first | omega | exact absurd rfl hc) | contradiction | omega | exact absurd rfl hc | exact absurd (by decide) hc))))))
      all_goals ((with_reducible refine At.reachk (⟨2, !q1⟩) ?_ ?_ ?_ ?_); exact zsubs; exact zml; exact zente; exact ⟨⟨(by decide : 2 ≤ 3), by show (!q1) = (b0 && !q0 && !q1); rw [← e]; rfl⟩, (by decide : 3 - 2 < 3 - 1)⟩)
  · replace e : q = (b0 && !q0 && !q1) := e
    cases q
    · clear hb
      (repeat' (first | refine zss ?_ | ((first | (with_reducible first | apply At.val | apply AtQ.val)); (exact pr_index_agg (k := 2) (by rfl) (by rfl) (by rfl) (by rfl) (by rfl) (by rfl) (by rfl)); exact rfl) | refine zsM ?_ | ((with_reducible apply At.alloc (d := 3)); exact rfl; exact rfl; intro b3) | (refine zsp ?_ ?_ <;> (intro hc; (try simp only [zhcs, reduceCtorEq] at hc); (try (exfalso; first | (first | omega | exact absurd rfl hc) | contradiction | omega | exact absurd rfl hc | exact absurd (by decide) hc))))))
      all_goals ((with_reducible refine At.reachk (⟨3, false⟩) ?_ ?_ ?_ ?_); exact zsubs; exact zml; exact zente; exact ⟨⟨(by decide : 3 ≤ 3), by show false = (b0 && !q0 && !q1 && !q2); rw [← e]; rfl⟩, (by decide : 3 - 3 < 3 - 2)⟩)
    · have hp := hb (by cases b0 with | false => exact absurd e (by first | decide | (simp only [Bool.false_and]; decide)) | true => rfl)
      (repeat' (first | refine zss ?_ | ((first | (with_reducible first | apply At.val | apply AtQ.val)); (first | exact pr_index_agg (k := 2) (by rfl) (by rfl) (by rfl) (by rfl) (by rfl) (by rfl) (by rfl) | exact pr_indexArr (k := 2) (by rfl) (by rfl) (by rfl) (by rfl) (by decide)); exact rfl) | refine zsM ?_ | ((with_reducible first | apply AtM1.cr | apply AtQ.cr | apply At.cr); exact rfl; exact rfl; exact fun _ hmm => k2 _ hmm; exact ztk; kernel_rfl) | ((with_reducible apply At.alloc (d := 3)); exact rfl; exact rfl; intro b3) | (refine zsp ?_ ?_ <;> (intro hc; (try simp only [zhcs, reduceCtorEq] at hc); (try (exfalso; first | (first | omega | exact absurd rfl hc) | contradiction | omega | exact absurd rfl hc | exact absurd (by decide) hc))))))
      all_goals ((with_reducible refine At.reachk (⟨3, !q2⟩) ?_ ?_ ?_ ?_); exact zsubs; exact zml; exact zente; exact ⟨⟨(by decide : 3 ≤ 3), by show (!q2) = (b0 && !q0 && !q1 && !q2); rw [← e]; rfl⟩, (by decide : 3 - 3 < 3 - 2)⟩)
  · replace e : q = (b0 && !q0 && !q1 && !q2) := e
    subst e
    clear hb
    (repeat' (first | refine zss ?_ | refine zsM ?_ | ((with_reducible apply At.alloc (d := 3)); exact rfl; exact rfl; intro b3) | (refine zsp ?_ ?_ <;> (intro hc; (try simp only [zhcs, reduceCtorEq] at hc); (try (exfalso; first | (first | omega | exact absurd rfl hc) | contradiction | omega | exact absurd rfl hc | exact absurd (by decide) hc))))))
    all_goals ((with_reducible apply At.retB1 (B := kb b k x)); exact rfl; exact rfl; exact zml; exact zkp; exact ⟨rfl, rfl, rfl⟩)
/-- a series is right -/
def sok (k : Cfg) (x : Ser) : Prop := fok k x.t0.l x.t1.l x.t2.l ∧ Lb.right x.lab.l ∧ Raw.rk x.lost x.mark x.raw.l k.r ∧ (if x.last = -1 then frs x = true else eds x k = true)
instance (k : Cfg) (x : Ser) : Decidable (sok k x) := by unfold sok; infer_instance
def schk (k : Cfg) (x : Ser) : Int := if sok k x then 0 else 2
set_option maxRecDepth 100000 in
theorem openS {m : Mem} (k : Cfg) (x : Ser) (ho : x.Ok m) : Ct Tryz.prog 27 #[k.v, x.v] m [] (fun v m' B => m = m' ∧ ((sok k x ∧ ∃ q, v = .tuple #[pt q, .int .i64 0] ∧ B = kb q k x) ∨ (¬ sok k x ∧ v = .tuple #[.pointer none, .int .i64 2] ∧ B = []))) := by
  have k0 := fun (m' : Mem) (h : m.le m') => checkF k x.t0 x.t1 x.t2 ho.n0 ho.n1 ho.n2 ho.i0 ho.i1 ho.i2 (ho.s0.mono h) (ho.s1.mono h) (ho.s2.mono h)
  have k1 := fun (m' : Mem) (h : m.le m') => Lb.check x.lab.p x.lab.c x.lab.l ho.ml (ho.sl.mono h)
  have k2 := fun (m' : Mem) (h : m.le m') => Raw.check x.lost x.mark x.raw.p x.raw.c x.raw.l k.r ho.nr (ho.sr.mono h)
  unfold fchk at k0
  unfold Lb.chk at k1
  unfold Raw.chkR at k2
  by_cases h0 : fok k x.t0.l x.t1.l x.t2.l
  rotate_left
  · rw [if_neg h0] at k0
    refine Ct.enterV (by rfl) Tryz.func27 rfl Tryz.ntmps27 rfl (fun w0 Rest => ?_)
    (repeat' (first | refine zss ?_ | refine zsM ?_ | ((with_reducible first | apply AtM1.cr | apply AtQ.cr | apply At.cr); exact rfl; exact rfl; exact fun _ hmm => k0 _ hmm; exact ztk; kernel_rfl) | ((with_reducible apply At.box (d := 2)); exact rfl; exact rfl; exact rfl; intro b2) | ((with_reducible apply At.box (d := 3)); exact rfl; exact rfl; exact rfl; intro b3) | ((with_reducible apply At.box (d := 29)); exact rfl; exact rfl; exact rfl; intro b29) | (refine zsp ?_ ?_ <;> (intro hc; (try simp only [zhcs, reduceCtorEq] at hc); (try (exfalso; first | omega | contradiction | omega | exact absurd rfl hc | exact absurd (by decide) hc))))))
    all_goals ((with_reducible apply At.retV (B := [])); exact rfl; (repeat' (first | exact RVs.nil | (with_reducible apply RVs.cons) | exact rv_tmp (by rfl) | exact rv_cellN (by rfl) (by repeat constructor) (by rfl) (by rfl) (by rfl) | exact rv_cell1 (by rfl) (by repeat constructor) (by rfl) (by rfl))); exact zml; exact zkp; exact ⟨rfl, .inr ⟨fun h => h0 h.1, rfl, rfl⟩⟩)
  rw [if_pos h0] at k0
  by_cases h1 : Lb.right x.lab.l
  rotate_left
  · rw [if_neg h1] at k1
    refine Ct.enterV (by rfl) Tryz.func27 rfl Tryz.ntmps27 rfl (fun w0 Rest => ?_)
    (repeat' (first | refine zss ?_ | refine zsM ?_ | ((with_reducible first | apply AtM1.cr | apply AtQ.cr | apply At.cr); exact rfl; exact rfl; exact fun _ hmm => k0 _ hmm; exact ztk; kernel_rfl) | ((with_reducible first | apply AtM1.cr | apply AtQ.cr | apply At.cr); exact rfl; exact rfl; exact fun _ hmm => k1 _ hmm; exact ztk; kernel_rfl) | ((with_reducible apply At.box (d := 2)); exact rfl; exact rfl; exact rfl; intro b2) | ((with_reducible apply At.box (d := 3)); exact rfl; exact rfl; exact rfl; intro b3) | ((with_reducible apply At.box (d := 29)); exact rfl; exact rfl; exact rfl; intro b29) | (refine zsp ?_ ?_ <;> (intro hc; (try simp only [zhcs, reduceCtorEq] at hc); (try (exfalso; first | omega | contradiction | omega | exact absurd rfl hc | exact absurd (by decide) hc))))))
    all_goals ((with_reducible apply At.retV (B := [])); exact rfl; (repeat' (first | exact RVs.nil | (with_reducible apply RVs.cons) | exact rv_tmp (by rfl) | exact rv_cellN (by rfl) (by repeat constructor) (by rfl) (by rfl) (by rfl) | exact rv_cell1 (by rfl) (by repeat constructor) (by rfl) (by rfl))); exact zml; exact zkp; exact ⟨rfl, .inr ⟨fun h => h1 h.2.1, rfl, rfl⟩⟩)
  rw [if_pos h1] at k1
  by_cases h2 : Raw.rk x.lost x.mark x.raw.l k.r
  rotate_left
  · rw [if_neg h2] at k2
    refine Ct.enterV (by rfl) Tryz.func27 rfl Tryz.ntmps27 rfl (fun w0 Rest => ?_)
    (repeat' (first | refine zss ?_ | refine zsM ?_ | ((with_reducible first | apply AtM1.cr | apply AtQ.cr | apply At.cr); exact rfl; exact rfl; exact fun _ hmm => k0 _ hmm; exact ztk; kernel_rfl) | ((with_reducible first | apply AtM1.cr | apply AtQ.cr | apply At.cr); exact rfl; exact rfl; exact fun _ hmm => k1 _ hmm; exact ztk; kernel_rfl) | ((with_reducible first | apply AtM1.cr | apply AtQ.cr | apply At.cr); exact rfl; exact rfl; exact fun _ hmm => k2 _ hmm; exact ztk; kernel_rfl) | ((with_reducible apply At.box (d := 2)); exact rfl; exact rfl; exact rfl; intro b2) | ((with_reducible apply At.box (d := 3)); exact rfl; exact rfl; exact rfl; intro b3) | ((with_reducible apply At.box (d := 29)); exact rfl; exact rfl; exact rfl; intro b29) | (refine zsp ?_ ?_ <;> (intro hc; (try simp only [zhcs, reduceCtorEq] at hc); (try (exfalso; first | omega | contradiction | omega | exact absurd rfl hc | exact absurd (by decide) hc))))))
    all_goals ((with_reducible apply At.retV (B := [])); exact rfl; (repeat' (first | exact RVs.nil | (with_reducible apply RVs.cons) | exact rv_tmp (by rfl) | exact rv_cellN (by rfl) (by repeat constructor) (by rfl) (by rfl) (by rfl) | exact rv_cell1 (by rfl) (by repeat constructor) (by rfl) (by rfl))); exact zml; exact zkp; exact ⟨rfl, .inr ⟨fun h => h2 h.2.2.1, rfl, rfl⟩⟩)
  rw [if_pos h2] at k2
  have hs : sok k x ↔ (if x.last = -1 then frs x = true else eds x k = true) := ⟨fun h => h.2.2.2, fun h => ⟨h0, h1, h2, h⟩⟩
  by_cases hl : x.last = -1
  · rw [if_pos hl] at hs
    have k3 := fun q => fresh q k x ho
    generalize frs x = f at k3 hs
    cases f
    · refine Ct.enterV (by rfl) Tryz.func27 rfl Tryz.ntmps27 rfl (fun w0 Rest => ?_)
      (repeat' (first | refine zss ?_ | refine zsM ?_ | ((with_reducible first | apply AtM1.cr | apply AtQ.cr | apply At.cr); exact rfl; exact rfl; exact fun _ hmm => k0 _ hmm; exact ztk; kernel_rfl) | ((with_reducible first | apply AtM1.cr | apply AtQ.cr | apply At.cr); exact rfl; exact rfl; exact fun _ hmm => k1 _ hmm; exact ztk; kernel_rfl) | ((with_reducible first | apply AtM1.cr | apply AtQ.cr | apply At.cr); exact rfl; exact rfl; exact fun _ hmm => k2 _ hmm; exact ztk; kernel_rfl) | ((with_reducible first | apply At.c1 | apply At.c0); exact rfl; exact rfl; exact k3 _; exact ztk; kernel_rfl; rintro v' m' B' hm' ⟨rfl, rfl, rfl⟩; skip; (try (have hq0 : hm' = Mem.le_refl _ := rfl; clear hq0 hm'))) | ((with_reducible apply At.box (d := 2)); exact rfl; exact rfl; exact rfl; intro b2) | ((with_reducible apply At.box (d := 3)); exact rfl; exact rfl; exact rfl; intro b3) | ((with_reducible apply At.box (d := 29)); exact rfl; exact rfl; exact rfl; intro b29) | (refine zsp ?_ ?_ <;> (intro hc; (try simp only [zhcs, reduceCtorEq] at hc); (try (exfalso; first | (first | omega | exact absurd hl hc) | contradiction | omega | exact absurd rfl hc | exact absurd (by decide) hc))))))
      all_goals ((with_reducible apply At.retV (B := [])); exact rfl; (repeat' (first | exact RVs.nil | (with_reducible apply RVs.cons) | exact rv_tmp (by rfl) | exact rv_cellN (by rfl) (by repeat constructor) (by rfl) (by rfl) (by rfl) | exact rv_cell1 (by rfl) (by repeat constructor) (by rfl) (by rfl))); exact zml; exact zkp; exact ⟨rfl, .inr ⟨fun h => absurd (hs.1 h) (by decide), rfl, rfl⟩⟩)
    · refine Ct.enterV (by rfl) Tryz.func27 rfl Tryz.ntmps27 rfl (fun w0 Rest => ?_)
      (repeat' (first | refine zss ?_ | refine zsM ?_ | ((with_reducible first | apply AtM1.cr | apply AtQ.cr | apply At.cr); exact rfl; exact rfl; exact fun _ hmm => k0 _ hmm; exact ztk; kernel_rfl) | ((with_reducible first | apply AtM1.cr | apply AtQ.cr | apply At.cr); exact rfl; exact rfl; exact fun _ hmm => k1 _ hmm; exact ztk; kernel_rfl) | ((with_reducible first | apply AtM1.cr | apply AtQ.cr | apply At.cr); exact rfl; exact rfl; exact fun _ hmm => k2 _ hmm; exact ztk; kernel_rfl) | ((with_reducible first | apply At.c1 | apply At.c0); exact rfl; exact rfl; exact k3 _; exact ztk; kernel_rfl; rintro v' m' B' hm' ⟨rfl, rfl, rfl⟩; skip; (try (have hq0 : hm' = Mem.le_refl _ := rfl; clear hq0 hm'))) | ((with_reducible apply At.box (d := 2)); exact rfl; exact rfl; exact rfl; intro b2) | ((with_reducible apply At.box (d := 3)); exact rfl; exact rfl; exact rfl; intro b3) | ((with_reducible apply At.box (d := 29)); exact rfl; exact rfl; exact rfl; intro b29) | (refine zsp ?_ ?_ <;> (intro hc; (try simp only [zhcs, reduceCtorEq] at hc); (try (exfalso; first | (first | omega | exact absurd hl hc) | contradiction | omega | exact absurd rfl hc | exact absurd (by decide) hc))))))
      all_goals ((with_reducible apply At.retV (B := kb b29 k x)); exact rfl; (repeat' (first | exact RVs.nil | (with_reducible apply RVs.cons) | exact rv_tmp (by rfl) | exact rv_cellN (by rfl) (by repeat constructor) (by rfl) (by rfl) (by rfl) | exact rv_cell1 (by rfl) (by repeat constructor) (by rfl) (by rfl))); exact zml; exact zkp; exact ⟨rfl, .inl ⟨hs.2 rfl, b29, rfl, rfl⟩⟩)
  · rw [if_neg hl] at hs
    have k3 := fun q => ends q k x ho h0.1 h2
    generalize eds x k = f at k3 hs
    cases f
    · refine Ct.enterV (by rfl) Tryz.func27 rfl Tryz.ntmps27 rfl (fun w0 Rest => ?_)
      (repeat' (first | refine zss ?_ | refine zsM ?_ | ((with_reducible first | apply AtM1.cr | apply AtQ.cr | apply At.cr); exact rfl; exact rfl; exact fun _ hmm => k0 _ hmm; exact ztk; kernel_rfl) | ((with_reducible first | apply AtM1.cr | apply AtQ.cr | apply At.cr); exact rfl; exact rfl; exact fun _ hmm => k1 _ hmm; exact ztk; kernel_rfl) | ((with_reducible first | apply AtM1.cr | apply AtQ.cr | apply At.cr); exact rfl; exact rfl; exact fun _ hmm => k2 _ hmm; exact ztk; kernel_rfl) | ((with_reducible first | apply At.c1 | apply At.c0); exact rfl; exact rfl; exact k3 _; exact ztk; kernel_rfl; rintro v' m' B' hm' ⟨rfl, rfl, rfl⟩; skip; (try (have hq0 : hm' = Mem.le_refl _ := rfl; clear hq0 hm'))) | ((with_reducible apply At.box (d := 2)); exact rfl; exact rfl; exact rfl; intro b2) | ((with_reducible apply At.box (d := 3)); exact rfl; exact rfl; exact rfl; intro b3) | ((with_reducible apply At.box (d := 29)); exact rfl; exact rfl; exact rfl; intro b29) | (refine zsp ?_ ?_ <;> (intro hc; (try simp only [zhcs, reduceCtorEq] at hc); (try (exfalso; first | (first | omega | exact absurd hc hl) | contradiction | omega | exact absurd rfl hc | exact absurd (by decide) hc))))))
      all_goals ((with_reducible apply At.retV (B := [])); exact rfl; (repeat' (first | exact RVs.nil | (with_reducible apply RVs.cons) | exact rv_tmp (by rfl) | exact rv_cellN (by rfl) (by repeat constructor) (by rfl) (by rfl) (by rfl) | exact rv_cell1 (by rfl) (by repeat constructor) (by rfl) (by rfl))); exact zml; exact zkp; exact ⟨rfl, .inr ⟨fun h => absurd (hs.1 h) (by decide), rfl, rfl⟩⟩)
    · refine Ct.enterV (by rfl) Tryz.func27 rfl Tryz.ntmps27 rfl (fun w0 Rest => ?_)
      (repeat' (first | refine zss ?_ | refine zsM ?_ | ((with_reducible first | apply AtM1.cr | apply AtQ.cr | apply At.cr); exact rfl; exact rfl; exact fun _ hmm => k0 _ hmm; exact ztk; kernel_rfl) | ((with_reducible first | apply AtM1.cr | apply AtQ.cr | apply At.cr); exact rfl; exact rfl; exact fun _ hmm => k1 _ hmm; exact ztk; kernel_rfl) | ((with_reducible first | apply AtM1.cr | apply AtQ.cr | apply At.cr); exact rfl; exact rfl; exact fun _ hmm => k2 _ hmm; exact ztk; kernel_rfl) | ((with_reducible first | apply At.c1 | apply At.c0); exact rfl; exact rfl; exact k3 _; exact ztk; kernel_rfl; rintro v' m' B' hm' ⟨rfl, rfl, rfl⟩; skip; (try (have hq0 : hm' = Mem.le_refl _ := rfl; clear hq0 hm'))) | ((with_reducible apply At.box (d := 2)); exact rfl; exact rfl; exact rfl; intro b2) | ((with_reducible apply At.box (d := 3)); exact rfl; exact rfl; exact rfl; intro b3) | ((with_reducible apply At.box (d := 29)); exact rfl; exact rfl; exact rfl; intro b29) | (refine zsp ?_ ?_ <;> (intro hc; (try simp only [zhcs, reduceCtorEq] at hc); (try (exfalso; first | (first | omega | exact absurd hc hl) | contradiction | omega | exact absurd rfl hc | exact absurd (by decide) hc))))))
      all_goals ((with_reducible apply At.retV (B := kb b29 k x)); exact rfl; (repeat' (first | exact RVs.nil | (with_reducible apply RVs.cons) | exact rv_tmp (by rfl) | exact rv_cellN (by rfl) (by repeat constructor) (by rfl) (by rfl) (by rfl) | exact rv_cell1 (by rfl) (by repeat constructor) (by rfl) (by rfl))); exact zml; exact zkp; exact ⟨rfl, .inl ⟨hs.2 rfl, b29, rfl, rfl⟩⟩)
end Se
end Go.Proofs.YtjdlnckifhifbaaGreat
/- The contracts of the ring of whole numbers. -/
set_option linter.unusedSimpArgs false
set_option linter.unusedVariables false
set_option linter.unusedSectionVars false
set_option maxRecDepth 20000
set_option maxHeartbeats 4000000
namespace Go.Proofs.YtjdlnckifhifbaaGreat
open Go Go.J
attribute [local irreducible] At AtQ AtM AtM1 PR Ct Pu Rd Res.blk Res.own Res.ex

namespace RingE
abbrev Elt := Ev
abbrev val (x : Elt) : Value := x.v
abbrev fi : Elt → List Value := Ev.cells
abbrev rc (b room : Nat) (p : Option Addr) (ln c fr : Nat) (lost : Int) : Res := .blk b 188 [.int .i64 room, .slice p ln c, .int .i64 fr, .int .u64 lost]
abbrev rr (b room : Nat) (p : Option Addr) (c fr : Nat) (lost : Int) (l : List Elt) : List Res := [rc b room p l.length c fr lost, .own fi 4 31 p c l]
structure St where
  p : Option Addr
  c : Nat
  fr : Nat
  l : List Elt
def inv (room : Nat) (cont : List Elt) (s : St) : Prop := s.l.length ≤ room ∧ (s.l.length < room → s.fr = 0) ∧ (s.fr < s.l.length ∨ s.fr = 0) ∧ cont = s.l.drop s.fr ++ s.l.take s.fr
def putC (room : Nat) (cont : List Elt) (x : Elt) : List Elt := if cont.length < room then cont ++ [x] else cont.drop 1 ++ [x]
/-- a ring, by what it has -/
def R (b room : Nat) (lost : Int) (cont : List Elt) : Res := .ex (inv room cont) (fun s => rr b room s.p s.c s.fr lost s.l)
theorem inv.len {room : Nat} {cont : List Elt} {s : St} (h : inv room cont s) : s.l.length = cont.length := by
  obtain ⟨h1, h2, h3, rfl⟩ := h
  simp; omega
theorem rot_get {l : List Elt} {fr k : Nat} (hk : k < l.length) (hf : fr < l.length ∨ fr = 0) : l[(fr + k) % l.length]! = (l.drop fr ++ l.take fr)[k]! := by
  rw [List.getElem!_eq_getElem?_getD, List.getElem!_eq_getElem?_getD]
  congr 1
  by_cases h : fr + k < l.length
  · rw [Nat.mod_eq_of_lt h, List.getElem?_append_left (by simp; omega), List.getElem?_drop]
  · have : (fr + k) % l.length = fr + k - l.length := by
      rw [Nat.mod_eq_sub_mod (by omega), Nat.mod_eq_of_lt (by omega)]
    rw [this, List.getElem?_append_right (by simp; omega), List.getElem?_take, if_pos (by simp; omega)]
    congr 1; simp; omega
theorem rot_put {l : List Elt} {fr : Nat} {x : Elt} (hf : fr < l.length) : (l.set fr x).drop ((fr + 1) % l.length) ++ (l.set fr x).take ((fr + 1) % l.length) = (l.drop fr ++ l.take fr).drop 1 ++ [x] := by
  by_cases h : fr + 1 = l.length
  · rw [h, Nat.mod_self]
    apply List.ext_getElem?
    intro i
    have hd : (l.drop fr).length = 1 := by simp; omega
    rw [List.drop_append_of_le_length (by omega), List.drop_eq_nil_of_le (by omega : (l.drop fr).length ≤ 1)]
    simp only [List.drop_zero, List.take_zero, List.append_nil, List.nil_append]
    rw [List.getElem?_set]
    by_cases hi : fr = i
    · subst hi
      rw [if_pos rfl, if_pos hf, List.getElem?_append_right (by simp; omega)]
      simp [Nat.min_eq_left (Nat.le_of_lt hf)]
    · rw [if_neg hi]
      by_cases hi2 : i < fr
      · rw [List.getElem?_append_left (by simp; omega), List.getElem?_take, if_pos hi2]
      · rw [List.getElem?_eq_none (by omega), List.getElem?_eq_none (by simp; omega)]
  · have hlt : fr + 1 < l.length := by omega
    rw [Nat.mod_eq_of_lt hlt]
    rw [List.drop_append_of_le_length (by simp; omega), List.drop_drop, List.drop_set_of_lt (by omega)]
    rw [show (l.set fr x).take (fr + 1) = l.take fr ++ [x] from by
      rw [List.take_add_one, List.take_set_of_le (Nat.le_refl _)]; simp [hf]]
    rw [Nat.add_comm fr 1]; simp
abbrev ptr (b : Nat) : Value := .pointer (some ⟨b, 0, none⟩)

theorem ring_place {m : Mem} (b room : Nat) (p : Option Addr) (ln c fr : Nat) (lost : Int) (i : Nat) (h0 : 0 < ln) (h1 : ln ≤ 65536) (h2 : fr ≤ 65536) (h3 : i ≤ 65536) :
    Rd Tryz.prog 115 #[ptr b, .int .i64 (i : Int)] m [rc b room p ln c fr lost] (.int .i64 ((fr + i) % ln : Nat)) := by
  unfold Rd
  refine Ct.enterV (by rfl) Tryz.func115 rfl Tryz.ntmps115 rfl (fun w0 Rest => ?_)
  (repeat' (first | refine zss ?_ | refine zsO ?_ | (refine zsp ?_ ?_ <;> (intro hc; (try simp only [zhcs, reduceCtorEq] at hc); (try (exfalso; first | contradiction | omega | exact absurd rfl hc | exact absurd (by decide) hc))))))
  all_goals (refine At.ret1 rfl (by rfl) (Mem.le_refl _) ⟨?_, rfl, rfl⟩ (Ent.refl _))
  all_goals (congr 1)
theorem ring_put_lt {m : Mem} (b room : Nat) (p : Option Addr) (c fr : Nat) (lost : Int) (l : List Elt) (x : Elt) (h0 : l.length < room) (h1 : room ≤ 65536) :
    Ct Tryz.prog 90 #[ptr b, val x] m (rr b room p c fr lost l) (fun v m' B => v = .tuple #[Ev.z.v, .bool false] ∧ m = m' ∧ ∃ p' c', B = rr b room p' c' fr lost (l ++ [x])) := by
  refine Ct.enterV (by rfl) Tryz.func90 rfl Tryz.ntmps90 rfl (fun w0 Rest => ?_)
  (repeat' (first | ((with_reducible apply At.mixed (id := 3) 11 (.q 0 (.q 1 (.q 2 (.q 3 (.q 4 (.q 5 (.l 6 (.x 7 (.q 8 (.q 9 (.x 10 .done)))))))))))); exact rfl; kernel_rfl; kernel_rfl; kernel_rfl) | ((with_reducible apply At.mixed (id := 5) 12 (.q 0 (.q 1 (.q 2 (.q 3 (.q 4 (.q 5 (.q 6 (.q 7 (.q 8 (.q 9 (.l 10 (.x 11 .done))))))))))))); exact rfl; kernel_rfl; kernel_rfl; kernel_rfl) | ((with_reducible apply At.mixed (id := 6) 11 (.q 0 (.q 1 (.q 2 (.q 3 (.q 4 (.q 5 (.q 6 (.q 7 (.q 8 (.q 9 (.x 10 .done)))))))))))); exact rfl; kernel_rfl; kernel_rfl; kernel_rfl) | refine zsx ?_ | refine zss ?_ | ((with_reducible apply AtM.bo); exact rfl; exact rfl; exact rfl) | refine zsO ?_ | refine zxO ?_ | ((with_reducible apply At.lit fi [x]); exact inferInstance; (iterate 7 exact rfl); intro _) | ((with_reducible apply At.apW (f := fi)); exact rfl; exact rfl; exact (by repeat constructor); exact inferInstance; exact zrdl; (iterate 4 exact rfl); exact zom; exact rfl; intro _ _) | ((with_reducible apply At.box (d := 3)); exact rfl; exact rfl; exact rfl; intro b3) | ((with_reducible apply At.alloc (d := 4)); exact rfl; exact rfl; intro b4) | ((with_reducible apply At.alloc (d := 6)); exact rfl; exact rfl; intro b6) | ((with_reducible apply At.alloc (d := 7)); exact rfl; exact rfl; intro b7) | (refine zsp ?_ ?_ <;> (intro hc; (try simp only [zhcs, reduceCtorEq] at hc); (try (exfalso; first | contradiction | omega | exact absurd rfl hc | exact absurd (by decide) hc))))))
  all_goals ((with_reducible apply At.retV (B := rr b room _ _ fr lost (l ++ [x]))); exact rfl; (repeat' (first | exact RVs.nil | (with_reducible apply RVs.cons) | exact rv_tmp (by rfl) | exact rv_cellN (by rfl) (by repeat constructor) (by rfl) (by rfl) (by rfl) | exact rv_cell1 (by rfl) (by repeat constructor) (by rfl) (by rfl))); exact zml; exact zkp; exact ⟨rfl, rfl, _, _, rfl⟩)
theorem ring_put_ge {m : Mem} (b room : Nat) (p : Option Addr) (c fr : Nat) (lost : Int) (l : List Elt) (x : Elt) (h0 : ¬ l.length < room) (h1 : l.length ≤ 65536) (h2 : fr < l.length) (h3 : 0 ≤ lost ∧ lost ≤ 4611686018427387904) :
    Ct Tryz.prog 90 #[ptr b, val x] m (rr b room p c fr lost l) (fun v m' B => v = .tuple #[val l[fr]!, .bool true] ∧ m = m' ∧ B = rr b room p c ((fr + 1) % l.length) (lost + 1) (l.set fr x)) := by
  refine Ct.enterV (by rfl) Tryz.func90 rfl Tryz.ntmps90 rfl (fun w0 Rest => ?_)
  (repeat' (first | ((with_reducible apply At.mixed (id := 3) 11 (.q 0 (.q 1 (.q 2 (.q 3 (.q 4 (.q 5 (.l 6 (.x 7 (.q 8 (.q 9 (.x 10 .done)))))))))))); exact rfl; kernel_rfl; kernel_rfl; kernel_rfl) | ((with_reducible apply At.mixed (id := 5) 12 (.q 0 (.q 1 (.q 2 (.q 3 (.q 4 (.q 5 (.q 6 (.q 7 (.q 8 (.q 9 (.l 10 (.x 11 .done))))))))))))); exact rfl; kernel_rfl; kernel_rfl; kernel_rfl) | ((with_reducible apply At.mixed (id := 6) 11 (.q 0 (.q 1 (.q 2 (.q 3 (.q 4 (.q 5 (.q 6 (.q 7 (.q 8 (.q 9 (.x 10 .done)))))))))))); exact rfl; kernel_rfl; kernel_rfl; kernel_rfl) | refine zsx ?_ | refine zss ?_ | ((with_reducible apply AtM.bo); exact rfl; exact rfl; exact rfl) | refine zsO ?_ | refine zxO ?_ | ((with_reducible apply At.storeW (f := fi) (x' := x)); (case hx => exact rfl); (case hy => exact rfl); (case hv => exact rfl); (case hp => exact (by repeat constructor)); (case hr => exact rfl); (case hf => exact inferInstance); (case hk => exact zom); (case hs => exact rfl); (case hq => exact rfl); (case h1 => exact rfl)) | ((with_reducible first | apply AtM1.cr | apply AtQ.cr | apply At.cr); exact rfl; exact rfl; exact fun _ hmm => ring_place b room p l.length c fr lost 1 (by omega) (by omega) (by omega) (by omega); exact ztk; kernel_rfl) | ((with_reducible apply At.box (d := 3)); exact rfl; exact rfl; exact rfl; intro b3) | ((with_reducible apply At.alloc (d := 4)); exact rfl; exact rfl; intro b4) | ((with_reducible apply At.alloc (d := 6)); exact rfl; exact rfl; intro b6) | ((with_reducible apply At.alloc (d := 7)); exact rfl; exact rfl; intro b7) | (refine zsp ?_ ?_ <;> (intro hc; (try simp only [zhcs, reduceCtorEq] at hc); (try (exfalso; first | contradiction | omega | exact absurd rfl hc | exact absurd (by decide) hc))))))
  all_goals ((with_reducible apply At.retV (B := [rc b room p l.length c ((fr + 1) % l.length) (lost + 1), .own fi 4 31 p c (l.set fr x)])); exact rfl; (repeat' (first | exact RVs.nil | (with_reducible apply RVs.cons) | exact rv_tmp (by rfl) | exact rv_cellN (by rfl) (by repeat constructor) (by rfl) (by rfl) (by rfl) | exact rv_cell1 (by rfl) (by repeat constructor) (by rfl) (by rfl))); exact zml; exact zkp; exact ⟨rfl, rfl, by simp [rr]⟩)
theorem ring_all0 {m : Mem} (b room : Nat) (p : Option Addr) (c fr : Nat) (lost : Int) (l : List Elt) (h1 : l.length ≤ 65536) (h2 : fr ≤ l.length) :
    Ct Tryz.prog 91 #[ptr b] m (rr b room p c fr lost l) (fun v m' B => m = m' ∧ ∃ p' c', v = .slice p' (l.drop fr ++ l.take fr).length c' ∧ B = .own fi 4 31 p' c' (l.drop fr ++ l.take fr) :: rr b room p c fr lost l) := by
  have hl : ([] ++ List.drop fr (List.take l.length l) ++ List.drop 0 (List.take fr l)).length = l.length := by simp; omega
  have hl2 : ([] ++ List.drop fr (List.take l.length l) ++ List.drop 0 (List.take fr l)) = l.drop fr ++ l.take fr := by simp
  refine Ct.enterV (by rfl) Tryz.func91 rfl Tryz.ntmps91 rfl (fun w0 Rest => ?_)
  refine At.own_form (E := 31) (f := fi) (sz := 4) (p := p) (c := c) (l := l) (by repeat constructor) fun hne hle hbig => ?_
  (repeat' (first | ((with_reducible apply At.mixed (id := 2) 12 (.q 0 (.q 1 (.q 2 (.q 3 (.q 4 (.q 5 (.q 6 (.q 7 (.q 8 (.q 9 (.x 10 (.q 11 .done))))))))))))); exact rfl; kernel_rfl; kernel_rfl; kernel_rfl) | ((with_reducible apply At.mixed (id := 3) 12 (.q 0 (.q 1 (.q 2 (.q 3 (.q 4 (.q 5 (.q 6 (.q 7 (.q 8 (.q 9 (.x 10 (.q 11 .done))))))))))))); exact rfl; kernel_rfl; kernel_rfl; kernel_rfl) | refine zsx ?_ | refine zss ?_ | ((with_reducible apply AtM.bo); exact rfl; exact rfl; exact rfl) | refine zsO ?_ | refine zxO ?_ | ((with_reducible apply At.makeW (fi)); exact inferInstance; (iterate 5 exact rfl); exact zom; exact rfl; intro _) | ((with_reducible apply At.apW (f := fi)); exact rfl; exact rfl; exact (by repeat constructor); exact inferInstance; exact zrdl; (iterate 4 exact rfl); exact zom; exact rfl; intro _ _) | (refine zsp ?_ ?_ <;> (intro hc; (try simp only [zhcs, reduceCtorEq] at hc); (try (exfalso; first | contradiction | omega | exact absurd rfl hc | exact absurd (by decide) hc))))))
  all_goals ((with_reducible apply At.retB1 (B := .own fi 4 31 _ _ _ :: rr b room p c fr lost l)); exact rfl; exact rfl; exact zml; exact zkp; exact ⟨rfl, _, _, by rw [hl2], by rw [hl2]⟩)
/-! ### the same, by what a ring has -/
theorem R.openR {m : Mem} {f : FuncId} {args : Array Value} {b room : Nat} {lost : Int} {cont : List Elt} {V : Value} (h : ∀ s : St, inv room cont s → Rd Tryz.prog f args m (rr b room s.p s.c s.fr lost s.l) V) : Rd Tryz.prog f args m [R b room lost cont] V :=
  Rd.openx fun s hs => by rw [List.append_nil]; exact h s hs
theorem R.open {m : Mem} {f : FuncId} {args : Array Value} {b room : Nat} {lost : Int} {cont : List Elt} {Q : Value → Mem → List Res → Prop} (h : ∀ s : St, inv room cont s → Ct Tryz.prog f args m (rr b room s.p s.c s.fr lost s.l) Q) : Ct Tryz.prog f args m [R b room lost cont] Q :=
  Ct.openx fun s hs => by rw [List.append_nil]; exact h s hs
theorem R.close {b room : Nat} {lost : Int} {cont : List Elt} (s : St) (hs : inv room cont s) (Rest : List Res) : Ent (rr b room s.p s.c s.fr lost s.l ++ Rest) (R b room lost cont :: Rest) := Ent.closex (A := fun s => rr b room s.p s.c s.fr lost s.l) s hs

theorem ringPut {m : Mem} (b room : Nat) (lost : Int) (cont : List Elt) (x : Elt) (h0 : 1 ≤ room) (hr : room ≤ 65536) (h3 : 0 ≤ lost ∧ lost ≤ 4611686018427387904) :
    Ct Tryz.prog 90 #[ptr b, val x] m [R b room lost cont] (fun v m' B => v = (if cont.length < room then .tuple #[Ev.z.v, .bool false] else .tuple #[val cont[0]!, .bool true]) ∧ m = m' ∧
      B = [R b room (if cont.length < room then lost else lost + 1) (putC room cont x)]) :=
  R.open fun s hs => by
    have hl := hs.len
    obtain ⟨g1, g2, g3, g4⟩ := hs
    by_cases hlt : s.l.length < room
    · refine Ct.conv (ring_put_lt b room s.p s.c s.fr lost s.l x hlt hr) fun v m' B _ ⟨h1, h2, p', c', h4⟩ => ⟨_, ⟨by rw [if_pos (by omega)]; exact h1, h2, rfl⟩, fun Rest => ?_⟩
      subst h4
      have e0 := g2 hlt
      rw [if_pos (by omega)]
      refine R.close ⟨p', c', s.fr, s.l ++ [x]⟩ ⟨by simp; omega, fun _ => e0, .inr e0, ?_⟩ Rest
      unfold putC
      rw [if_pos (by omega), g4, e0]; simp
    · refine Ct.conv (ring_put_ge b room s.p s.c s.fr lost s.l x hlt (by omega) (by omega) h3) fun v m' B _ ⟨h1, h2, h4⟩ => ⟨_, ⟨?_, h2, rfl⟩, fun Rest => ?_⟩
      · rw [if_neg (by omega), h1]
        have := rot_get (l := s.l) (fr := s.fr) (k := 0) (by omega) g3
        rw [← g4, Nat.add_zero, Nat.mod_eq_of_lt (by omega)] at this
        rw [this]
      · subst h4
        rw [if_neg (by omega)]
        have hm := Nat.mod_lt (s.fr + 1) (show 0 < s.l.length by omega)
        refine R.close ⟨s.p, s.c, (s.fr + 1) % s.l.length, s.l.set s.fr x⟩ ⟨by simp; omega, fun h => by simp at h; omega, .inl (by simpa using hm), ?_⟩ Rest
        unfold putC
        rw [if_neg (by omega), g4]
        exact (rot_put (by omega)).symm
theorem ringAll {m : Mem} (b room : Nat) (lost : Int) (cont : List Elt) (hr : room ≤ 65536) :
    Ct Tryz.prog 91 #[ptr b] m [R b room lost cont] (fun v m' B => m = m' ∧ ∃ p' c', v = .slice p' cont.length c' ∧ B = [.own fi 4 31 p' c' cont, R b room lost cont]) :=
  R.open fun s hs => by
    have hs' := hs
    obtain ⟨g1, g2, g3, g4⟩ := hs'
    refine Ct.conv (ring_all0 b room s.p s.c s.fr lost s.l (by omega) (by omega)) fun v m' B _ ⟨h1, p', c', h2, h3⟩ => ⟨_, ⟨h1, p', c', by rw [g4]; exact h2, rfl⟩, fun Rest => ?_⟩
    subst h3
    rw [← g4]
    exact Ent.cons _ (R.close s hs Rest)
theorem ring_new0 {m : Mem} (room : Int) (hr : -9223372036854775808 ≤ room ∧ room ≤ 9223372036854775807) :
    Ct Tryz.prog 114 #[.int .i64 room] m [] (fun v m' B => m = m' ∧ ((1 ≤ room ∧ room ≤ 65536 ∧ ∃ b, v = .tuple #[ptr b, .int .i64 0] ∧ B = [.blk b 188 [.int .i64 room, .slice none 0 0, .int .i64 0, .int .u64 0]]) ∨ (¬ (1 ≤ room ∧ room ≤ 65536) ∧ v = .tuple #[.pointer none, .int .i64 1] ∧ B = []))) := by
  refine Ct.enterV (by rfl) Tryz.func114 rfl Tryz.ntmps114 rfl (fun w0 Rest => ?_)
  (repeat' (first | refine zss ?_ | refine zsO ?_ | ((with_reducible apply At.box (d := 12)); exact rfl; exact rfl; exact rfl; intro b12) | (refine zsp ?_ ?_ <;> (intro hc; (try simp only [zhcs, reduceCtorEq] at hc); (try (exfalso; first | contradiction | omega | exact absurd rfl hc | exact absurd (by decide) hc))))))
  all_goals first
    | ((with_reducible apply At.retB2 (B := [])); (iterate 3 exact rfl); exact zml; exact zkp; exact ⟨rfl, .inr ⟨by omega, rfl, rfl⟩⟩)
    | ((with_reducible apply At.retB2 (B := [.blk _ _ _])); (iterate 3 exact rfl); exact zml; exact zkp; exact ⟨rfl, .inl ⟨by omega, by omega, _, rfl, rfl⟩⟩)
theorem ringNew {m : Mem} (room : Int) (hr : -9223372036854775808 ≤ room ∧ room ≤ 9223372036854775807) :
    Ct Tryz.prog 114 #[.int .i64 room] m [] (fun v m' B => m = m' ∧ ((1 ≤ room ∧ room ≤ 65536 ∧ ∃ b, v = .tuple #[ptr b, .int .i64 0] ∧ B = [R b room.toNat 0 []]) ∨ (¬ (1 ≤ room ∧ room ≤ 65536) ∧ v = .tuple #[.pointer none, .int .i64 1] ∧ B = []))) :=
  Ct.conv (ring_new0 room hr) fun v m' B _ ⟨h1, h⟩ => by
    rcases h with ⟨h2, h3, b, h4, h5⟩ | ⟨h2, h3, h4⟩
    · refine ⟨_, ⟨h1, .inl ⟨h2, h3, b, h4, rfl⟩⟩, fun Rest => ?_⟩
      subst h5
      have e : ((room.toNat : Nat) : Int) = room := Int.toNat_of_nonneg (by omega)
      have := R.close (b := b) (room := room.toNat) (lost := 0) (cont := []) ⟨none, 0, 0, []⟩ ⟨by simp, fun _ => rfl, .inr rfl, by simp⟩ Rest
      simp only [rr, rc, e] at this
      exact (Ent.cons _ (own_nil_ent fi 4 31 Rest)).trans this
    · exact ⟨_, ⟨h1, .inr ⟨h2, h3, h4⟩⟩, fun Rest => by subst h4; exact Ent.refl _⟩
end RingE
end Go.Proofs.YtjdlnckifhifbaaGreat

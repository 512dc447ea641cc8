/- The contracts of matchers: Check, Pick, Same. -/
import Derived.Test.YtjncahmbllmllaaMt
import Derived.Test.YtjncahmbllmllaaJC
import Derived.Test.YtjncahmbllmllaaJT
set_option linter.unusedSimpArgs false
set_option linter.unusedVariables false
set_option linter.unusedSectionVars false
set_option maxRecDepth 20000
set_option maxHeartbeats 4000000
namespace Go.Proofs.Ytjncahmbllmllaa
open Go Go.J
attribute [local irreducible] At AtQ AtM AtM1 PR Ct Pu Rd Res.blk Res.own Res.ex RVs RV
namespace Mt
def Mid (x : Mat) : Prop := x.n.length ≤ 1000000000000 ∧ x.v.length ≤ 1000000000000
theorem Mid.lab {x : Mat} (h : Mid x) : Lb.Mid [lab x] := fun i hi => by
  have : i = 0 := by simpa using hi
  subst this; exact h
theorem rgt_no {x : Mat} (h : ¬ (1 ≤ x.k ∧ x.k ≤ 3)) : rgt x = false := decide_eq_false fun k => h k.1
theorem rgt_yes {x : Mat} (h : 1 ≤ x.k ∧ x.k ≤ 3) : rgt x = decide (Lb.chk [lab x] = 0) := by
  unfold rgt; rw [decide_eq_decide]; exact ⟨fun k => k.2, fun k => ⟨h, k⟩⟩
theorem right1 (x : Mat) (hx : Mid x) : Pu Try.prog 26 #[x.val] (.bool (rgt x)) := Pu.of_le fun m => by
  by_cases h : 1 ≤ x.k ∧ x.k ≤ 3
  · rw [rgt_yes h]
    have hch := fun (m' : Mem) (p : Option Addr) (c : Nat) => Lb.check (m := m') p c [lab x] hx.lab
    generalize Lb.chk [lab x] = r at hch
    refine Ct.enterV (by rfl) Try.func26 rfl Try.ntmps26 rfl (fun w0 Rest => ?_)
    (repeat' (first | refine zss ?_ | refine zsM ?_ | ((with_reducible apply At.litF Lb.cells [lab x]); exact inferInstance; (iterate 7 exact rfl); intro b' m' hm' sl1; skip) | ((with_reducible first | apply AtM1.cr | apply AtQ.cr | apply At.cr); exact rfl; exact rfl; exact fun _ hmm => hch _ _ _ (sl1.mono hmm); exact ztk; kernel_rfl) | ((with_reducible apply At.box (d := 1)); exact rfl; exact rfl; exact rfl; intro b1) | (refine zsp ?_ ?_ <;> (intro hc; (try simp only [zhcs, reduceCtorEq] at hc); (try (exfalso; first | omega | contradiction | omega | exact absurd rfl hc | exact absurd (by decide) hc))))))
    all_goals ((with_reducible apply At.retB1 (B := [])); exact rfl; exact rfl; exact zml; exact zkp; exact ⟨rfl, by first | exact Mem.le_refl _ | assumption, rfl⟩)
  · rw [rgt_no h]
    refine Ct.enterV (by rfl) Try.func26 rfl Try.ntmps26 rfl (fun w0 Rest => ?_)
    (repeat' (first | refine zss ?_ | refine zsM ?_ | ((with_reducible apply At.box (d := 1)); exact rfl; exact rfl; exact rfl; intro b1) | (refine zsp ?_ ?_ <;> (intro hc; (try simp only [zhcs, reduceCtorEq] at hc); (try (exfalso; first | omega | contradiction | omega | exact absurd rfl hc | exact absurd (by decide) hc))))))
    all_goals ((with_reducible apply At.retB1 (B := [])); exact rfl; exact rfl; exact zml; exact zkp; exact ⟨rfl, Mem.le_refl _, rfl⟩)
abbrev fnR : Value := .func (.func 25) #[] #[]
theorem check1 {m : Mem} (x : Mat) (w : Bool) (hx : Mid x) (h : rgt x = w) : Ct Try.prog 25 #[x.val] m [] (fun v m' B => v = .bool (!w) ∧ m = m' ∧ B = []) := by
  subst h
  have hh := right1 x hx
  refine Ct.enterV (by rfl) Try.func25 rfl Try.ntmps25 rfl (fun w0 Rest => ?_)
  (repeat' (first | refine zss ?_ | refine zs0 ?_ | ((with_reducible first | apply AtM1.callp | apply AtQ.callp | apply At.callp); kernel_rfl; exact rfl; exact rfl; exact hh) | ((with_reducible apply At.box (d := 1)); exact rfl; exact rfl; exact rfl; intro b1) | (refine zsp ?_ ?_ <;> (intro hc; (try simp only [zhcs, reduceCtorEq] at hc); (try (exfalso; first | contradiction | omega | exact absurd rfl hc | exact absurd (by decide) hc))))))
  all_goals ((with_reducible apply At.retB1 (B := [])); exact rfl; exact rfl; exact zml; exact zkp; exact ⟨rfl, rfl, rfl⟩)
theorem indexR {m : Mem} (q : Option Addr) (d : Nat) (ms : List Mat) (hm : ms.length ≤ 1000000000) (hx : ∀ i, i < ms.length → Mid ms[i]!) (sl1 : Sl m cells 3 q d ms) :
    Ct Try.prog 48 #[.slice q ms.length d, fnR] m [] (fun v m' B => m = m' ∧ B = [] ∧
      ∃ k : Int, v = .int .i64 k ∧ (0 ≤ k ↔ ¬ ∀ i, i < ms.length → rgt ms[i]! = true)) := by
  refine Ct.enterV (by rfl) Try.func48 rfl Try.ntmps48 rfl (fun w0 Rest => ?_)
  (repeat' (first | refine zss ?_ | refine zsM ?_ | (refine zsp ?_ ?_ <;> (intro hc; (try simp only [zhcs, reduceCtorEq] at hc); (try (exfalso; first | contradiction | omega | exact absurd rfl hc | exact absurd (by decide) hc))))))
  (refine At.loopk (σ := Nat) [0, 1, 7] (fun s F0 => (8, .int .i64 (s : Int)) :: F0) (fun s => m) (fun s => Rest) (fun s => s ≤ ms.length ∧ ∀ i, i < s → rgt ms[i]! = true) (fun s => ms.length - s) 0 (by rfl) ?_ zsubs zml zente ?_)
  · exact ⟨Nat.zero_le _, fun i h => absurd h (Nat.not_lt_zero i)⟩
  rintro j ⟨hs, hn⟩
  by_cases h : j < ms.length
  · cases e : rgt ms[j]! with
    | false =>
      have hcl := check1 (m := m) (ms[j]!) false (hx j h) e
      rw [Bool.not_false] at hcl
      (repeat' (first | refine zss ?_ | refine zsM ?_ | ((with_reducible apply At.callf); exact rfl; kernel_rfl; exact rfl; exact rfl; exact hcl; exact ztk; rintro v' m' B' hm' ⟨rfl, rfl, rfl⟩; (try replace sl1 := sl1.mono hm')) | (refine zsp ?_ ?_ <;> (intro hc; (try simp only [zhcs, reduceCtorEq] at hc); (try (exfalso; first | omega | contradiction | omega | exact absurd rfl hc | exact absurd (by decide) hc))))))
      all_goals ((with_reducible apply At.retB1 (B := [])); exact rfl; exact rfl; exact zml; exact zkp; exact ⟨rfl, rfl, _, rfl, ⟨fun _ hh => absurd ((hh j h).symm.trans e) (by decide), fun _ => by omega⟩⟩)
    | true =>
      have hcl := check1 (m := m) (ms[j]!) true (hx j h) e
      rw [Bool.not_true] at hcl
      have hnn : ∀ i, i < j + 1 → rgt ms[i]! = true := fun i hi => by
        by_cases e1 : i = j
        · subst e1; exact e
        · exact hn i (by omega)
      (repeat' (first | refine zss ?_ | refine zsM ?_ | ((with_reducible apply At.callf); exact rfl; kernel_rfl; exact rfl; exact rfl; exact hcl; exact ztk; rintro v' m' B' hm' ⟨rfl, rfl, rfl⟩; (try replace sl1 := sl1.mono hm')) | (refine zsp ?_ ?_ <;> (intro hc; (try simp only [zhcs, reduceCtorEq] at hc); (try (exfalso; first | omega | contradiction | omega | exact absurd rfl hc | exact absurd (by decide) hc))))))
      all_goals ((with_reducible refine At.reachk ((j + 1)) ?_ ?_ ?_ ?_); exact zsubs; exact zml; exact zente; exact ⟨⟨h, hnn⟩, by omega⟩)
  · (repeat' (first | refine zss ?_ | refine zsM ?_ | (refine zsp ?_ ?_ <;> (intro hc; (try simp only [zhcs, reduceCtorEq] at hc); (try (exfalso; first | omega | contradiction | omega | exact absurd rfl hc | exact absurd (by decide) hc))))))
    all_goals ((with_reducible apply At.retB1 (B := [])); exact rfl; exact rfl; exact zml; exact zkp; exact ⟨rfl, rfl, _, rfl, ⟨fun hh => absurd hh (by decide), fun hh => absurd (fun i hi => hn i (by omega)) hh⟩⟩)
theorem containsR {m : Mem} (q : Option Addr) (d : Nat) (ms : List Mat) (w : Bool) (hm : ms.length ≤ 1000000000) (hx : ∀ i, i < ms.length → Mid ms[i]!) (sl1 : Sl m cells 3 q d ms) (hw : decide (∀ i, i < ms.length → rgt ms[i]! = true) = w) :
    Ct Try.prog 24 #[.slice q ms.length d, fnR] m [] (fun v m' B => v = .bool (!w) ∧ m = m' ∧ B = []) := by
  subst hw
  have hi := indexR (m := m) q d ms hm hx sl1
  refine Ct.enterV (by rfl) Try.func24 rfl Try.ntmps24 rfl (fun w0 Rest => ?_)
  (repeat' (first | refine zss ?_ | refine zsM ?_ | ((with_reducible first | apply At.c1 | apply At.c0); exact rfl; exact rfl; exact hi; exact ztk; kernel_rfl; rintro v' m' B' hm' ⟨rfl, rfl, k, rfl, hk⟩; (try replace sl1 := sl1.mono hm'); (try (have hq0 : hm' = Mem.le_refl _ := rfl; clear hq0 hm'))) | (refine zsp ?_ ?_ <;> (intro hc; (try simp only [zhcs, reduceCtorEq] at hc); (try (exfalso; first | contradiction | omega | exact absurd rfl hc | exact absurd (by decide) hc))))))
  all_goals ((with_reducible apply At.retB1 (B := [])); exact rfl; exact rfl; exact zml; exact zkp; exact ⟨congrArg Value.bool (by rw [← decide_not, decide_eq_decide]; exact hk), rfl, rfl⟩)
theorem chk_long {ms : List Mat} (h : 16 < ms.length) : chk ms = 2 := if_neg fun k => by have := k.1; omega
theorem checkM {m : Mem} (q : Option Addr) (d : Nat) (ms : List Mat) (hm : ms.length ≤ 1000000000) (hx : ∀ i, i < ms.length → Mid ms[i]!) (sl1 : Sl m cells 3 q d ms) :
    Rd Try.prog 12 #[.slice q ms.length d] m [] (.int .i64 (chk ms)) := by
  unfold Rd
  by_cases h : 16 < ms.length
  · rw [chk_long h]
    refine Ct.enterV (by rfl) Try.func12 rfl Try.ntmps12 rfl (fun w0 Rest => ?_)
    (repeat' (first | refine zss ?_ | refine zsM ?_ | (refine zsp ?_ ?_ <;> (intro hc; (try simp only [zhcs, reduceCtorEq] at hc); (try (exfalso; first | omega | contradiction | omega | exact absurd rfl hc | exact absurd (by decide) hc))))))
    all_goals ((with_reducible apply At.retB1 (B := [])); exact rfl; exact rfl; exact zml; exact zkp; exact ⟨rfl, rfl, rfl⟩)
  · have hi := fun w hw => containsR (m := m) q d ms w hm hx sl1 hw
    by_cases hr : ∀ i, i < ms.length → rgt ms[i]! = true
    · rw [show chk ms = 0 from if_pos ⟨by omega, hr⟩]
      have hi := hi true (decide_eq_true hr)
      rw [Bool.not_true] at hi
      refine Ct.enterV (by rfl) Try.func12 rfl Try.ntmps12 rfl (fun w0 Rest => ?_)
      (repeat' (first | refine zss ?_ | refine zsM ?_ | ((with_reducible first | apply At.c1 | apply At.c0); exact rfl; exact rfl; exact hi; exact ztk; kernel_rfl; rintro v' m' B' hm' ⟨rfl, rfl, rfl⟩; (try replace sl1 := sl1.mono hm'); (try (have hq0 : hm' = Mem.le_refl _ := rfl; clear hq0 hm'))) | (refine zsp ?_ ?_ <;> (intro hc; (try simp only [zhcs, reduceCtorEq] at hc); (try (exfalso; first | omega | contradiction | omega | exact absurd rfl hc | exact absurd (by decide) hc))))))
      all_goals ((with_reducible apply At.retB1 (B := [])); exact rfl; exact rfl; exact zml; exact zkp; exact ⟨rfl, rfl, rfl⟩)
    · rw [show chk ms = 2 from if_neg fun k => hr k.2]
      have hi := hi false (decide_eq_false hr)
      rw [Bool.not_false] at hi
      refine Ct.enterV (by rfl) Try.func12 rfl Try.ntmps12 rfl (fun w0 Rest => ?_)
      (repeat' (first | refine zss ?_ | refine zsM ?_ | ((with_reducible first | apply At.c1 | apply At.c0); exact rfl; exact rfl; exact hi; exact ztk; kernel_rfl; rintro v' m' B' hm' ⟨rfl, rfl, rfl⟩; (try replace sl1 := sl1.mono hm'); (try (have hq0 : hm' = Mem.le_refl _ := rfl; clear hq0 hm'))) | (refine zsp ?_ ?_ <;> (intro hc; (try simp only [zhcs, reduceCtorEq] at hc); (try (exfalso; first | omega | contradiction | omega | exact absurd rfl hc | exact absurd (by decide) hc))))))
      all_goals ((with_reducible apply At.retB1 (B := [])); exact rfl; exact rfl; exact zml; exact zkp; exact ⟨rfl, rfl, rfl⟩)
end Mt
end Go.Proofs.Ytjncahmbllmllaa

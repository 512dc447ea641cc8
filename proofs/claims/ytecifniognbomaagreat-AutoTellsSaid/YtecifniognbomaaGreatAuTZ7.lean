/- Part 7 of what the law's proof needs: rules of the walk, contracts of functions, plain laws. No condition. -/
import Derived.Test.YtecifniognbomaaGreatAuTZ6
import Derived.Test.YtecifniognbomaaGreatRows
import Derived.Lib.FrozenHead
/- The contracts of the package raw: which are right, the last one, whether two are equal. -/
set_option linter.unusedSimpArgs false
set_option linter.unusedVariables false
set_option linter.unusedSectionVars false
set_option maxRecDepth 20000
set_option maxHeartbeats 4000000
namespace Go.Proofs.YtecifniognbomaaGreat
open Go Go.J
attribute [local irreducible] At AtQ AtM AtM1 PR Ct Pu Rd Res.blk Res.own Res.ex RVs RV
/-- raw events, and where they lie -/
structure Rw where
  (lost mark : Int) (p : Option Addr) (c : Nat) (l : List Ev)
abbrev rv (lost mark : Int) (p : Option Addr) (n c : Nat) : Value := .agg #[.int .i64 lost, .int .i64 mark, .slice p n c]
namespace Rw
abbrev cells (r : Rw) : List Value := [.int .i64 r.lost, .int .i64 r.mark, .slice r.p r.l.length r.c]
abbrev v (r : Rw) : Value := rv r.lost r.mark r.p r.l.length r.c
end Rw
namespace Raw
open Ev Mrg
def ris (l : List Ev) : Prop := aok l ∧ asc l
instance (l : List Ev) : Decidable (ris l) := by unfold ris; infer_instance
def mkd (lost mark : Int) (l : List Ev) (room : Int) : Prop := if lost = 0 then mark = 0 else (l.length : Int) = room ∧ 0 ≤ mark ∧ mark < (l[0]!).T
instance (lost mark : Int) (l : List Ev) (room : Int) : Decidable (mkd lost mark l room) := by unfold mkd; infer_instance
def bnd (lost : Int) (l : List Ev) (room : Int) : Prop := 1 ≤ room ∧ room ≤ 4096 ∧ (l.length : Int) ≤ room ∧ 0 ≤ lost ∧ lost ≤ 70368744177664
instance (lost : Int) (l : List Ev) (room : Int) : Decidable (bnd lost l room) := by unfold bnd; infer_instance
def rk (lost mark : Int) (l : List Ev) (room : Int) : Prop := bnd lost l room ∧ ris l ∧ mkd lost mark l room
instance (lost mark : Int) (l : List Ev) (room : Int) : Decidable (rk lost mark l room) := by unfold rk; infer_instance
def chkR (lost mark : Int) (l : List Ev) (room : Int) : Int := if rk lost mark l room then 0 else 2
def lastV (l : List Ev) : Ev := if l.length = 0 then z else l[l.length - 1]!
def lastE (l : List Ev) : Int := if l.length = 0 then 3 else 0


theorem rising {m : Mem} (p : Option Addr) (c : Nat) (l : List Ev) (hl : l.length ≤ 1000000) (sl0 : Sl m cells 4 p c l) :
    Rd Tryz.prog 100 #[.slice p l.length c] m [] (.bool (decide (ris l))) := by
  unfold Rd
  refine Ct.enterV (by rfl) Tryz.func100 rfl Tryz.ntmps100 rfl (fun w0 Rest => ?_)
  (repeat' (first | refine zss ?_ | refine zsM ?_ | ((with_reducible apply At.alloc (d := 4)); exact rfl; exact rfl; intro b4) | (refine zsp ?_ ?_ <;> (intro hc; (try simp only [zhcs, reduceCtorEq] at hc); (try (exfalso; first | contradiction | omega | exact absurd rfl hc | exact absurd (by decide) hc))))))
  (refine At.loopk (σ := Nat) [0, 5, 6] (fun s F0 => (7, .int .i64 (s : Int)) :: F0) (fun s => m) (fun s => Rest) (fun s => s ≤ l.length ∧ (∀ i, i < s → (l[i]!).ok) ∧ (∀ i, i + 1 < s → (l[i]!).T < (l[i + 1]!).T)) (fun s => l.length - s) 0 (by rfl) ?_ zsubs zml zente ?_)
  · exact ⟨Nat.zero_le _, fun i h => absurd h (Nat.not_lt_zero i), fun i h => absurd h (by omega)⟩
  rintro s ⟨hs, ha, hb⟩
  by_cases h : s < l.length
  · have hk := Ev.check (l[s]!)
    by_cases ho : (l[s]!).ok
    · rw [show (l[s]!).chk = 0 from if_pos ho] at hk
      have hn : ∀ i, i < s + 1 → (l[i]!).ok := fun i hi => by
        by_cases e : i = s
        · subst e; exact ho
        · exact ha i (by omega)
      rcases s with _ | j
      · (repeat' (first | refine zss ?_ | refine zsM ?_ | ((with_reducible first | apply AtM1.callp | apply AtQ.callp | apply At.callp); kernel_rfl; exact rfl; exact rfl; exact hk) | ((with_reducible apply At.alloc (d := 4)); exact rfl; exact rfl; intro b4) | (refine zsp ?_ ?_ <;> (intro hc; (try simp only [zhcs, reduceCtorEq] at hc); (try (exfalso; first | omega | contradiction | omega | exact absurd rfl hc | exact absurd (by decide) hc))))))
        all_goals ((with_reducible refine At.reachk (1) ?_ ?_ ?_ ?_); exact zsubs; exact zml; exact zente; exact ⟨⟨h, hn, fun i hi => absurd hi (by omega)⟩, by omega⟩)
      · have hw : IntKind.wrap .i64 (((j + 1 : Nat) : Int) - 1) = (j : Int) := by rw [show (((j + 1 : Nat) : Int) - 1) = (j : Int) by omega]; exact IntWalk.i64_in _ (by omega)
        have hf := Ev.follow (l[j]!) (l[j + 1]!)
        rw [show fol (l[j]!) (l[j + 1]!) = decide ((l[j]!).T < (l[j + 1]!).T) by unfold fol; rw [decide_eq_true (show two (l[j]!) (l[j + 1]!) from ⟨ha j (by omega), ho⟩), Bool.true_and]] at hf
        by_cases hlt : (l[j]!).T < (l[j + 1]!).T
        · have hnn : ∀ i, i + 1 < j + 2 → (l[i]!).T < (l[i + 1]!).T := fun i hi => by
            by_cases e : i = j
            · subst e; exact hlt
            · exact hb i (by omega)
          rw [decide_eq_true hlt] at hf
          (repeat' (first | refine zss ?_ | ((first | (with_reducible first | apply At.val | apply AtQ.val)); (exact pr_sub (by rfl) (by rfl) hw); exact rfl) | refine zsM ?_ | ((with_reducible first | apply AtM1.callp | apply AtQ.callp | apply At.callp); kernel_rfl; exact rfl; exact rfl; exact hk) | ((with_reducible first | apply AtM1.callp | apply AtQ.callp | apply At.callp); kernel_rfl; exact rfl; exact rfl; exact hf) | ((with_reducible apply At.alloc (d := 4)); exact rfl; exact rfl; intro b4) | (refine zsp ?_ ?_ <;> (intro hc; (try simp only [zhcs, reduceCtorEq] at hc); (try (exfalso; first | omega | contradiction | omega | exact absurd rfl hc | exact absurd (by decide) hc))))))
          all_goals ((with_reducible refine At.reachk ((j + 2)) ?_ ?_ ?_ ?_); exact zsubs; exact zml; exact zente; exact ⟨⟨by omega, hn, hnn⟩, by omega⟩)
        · rw [decide_eq_false hlt] at hf
          rw [show decide (ris l) = false from decide_eq_false fun hh => hlt (hh.2 j (by omega))]
          (repeat' (first | refine zss ?_ | ((first | (with_reducible first | apply At.val | apply AtQ.val)); (exact pr_sub (by rfl) (by rfl) hw); exact rfl) | refine zsM ?_ | ((with_reducible first | apply AtM1.callp | apply AtQ.callp | apply At.callp); kernel_rfl; exact rfl; exact rfl; exact hk) | ((with_reducible first | apply AtM1.callp | apply AtQ.callp | apply At.callp); kernel_rfl; exact rfl; exact rfl; exact hf) | ((with_reducible apply At.alloc (d := 4)); exact rfl; exact rfl; intro b4) | (refine zsp ?_ ?_ <;> (intro hc; (try simp only [zhcs, reduceCtorEq] at hc); (try (exfalso; first | omega | contradiction | omega | exact absurd rfl hc | exact absurd (by decide) hc))))))
          all_goals ((with_reducible apply At.retB1 (B := [])); exact rfl; exact rfl; exact zml; exact zkp; exact ⟨rfl, rfl, rfl⟩)
    · rw [show (l[s]!).chk = 2 from if_neg ho] at hk
      rw [show decide (ris l) = false from decide_eq_false fun hh => ho (hh.1 s h)]
      (repeat' (first | refine zss ?_ | refine zsM ?_ | ((with_reducible first | apply AtM1.callp | apply AtQ.callp | apply At.callp); kernel_rfl; exact rfl; exact rfl; exact hk) | ((with_reducible apply At.alloc (d := 4)); exact rfl; exact rfl; intro b4) | (refine zsp ?_ ?_ <;> (intro hc; (try simp only [zhcs, reduceCtorEq] at hc); (try (exfalso; first | omega | contradiction | omega | exact absurd rfl hc | exact absurd (by decide) hc))))))
      all_goals ((with_reducible apply At.retB1 (B := [])); exact rfl; exact rfl; exact zml; exact zkp; exact ⟨rfl, rfl, rfl⟩)
  · rw [show decide (ris l) = true from decide_eq_true ⟨fun i hi => ha i (by omega), fun i hi => hb i (by omega)⟩]
    (repeat' (first | refine zss ?_ | refine zsM ?_ | ((with_reducible apply At.alloc (d := 4)); exact rfl; exact rfl; intro b4) | (refine zsp ?_ ?_ <;> (intro hc; (try simp only [zhcs, reduceCtorEq] at hc); (try (exfalso; first | omega | contradiction | omega | exact absurd rfl hc | exact absurd (by decide) hc))))))
    all_goals ((with_reducible apply At.retB1 (B := [])); exact rfl; exact rfl; exact zml; exact zkp; exact ⟨rfl, rfl, rfl⟩)

theorem marked {m : Mem} (lost mark : Int) (p : Option Addr) (c : Nat) (l : List Ev) (room : Int) (hr : 1 ≤ room) (hl : l.length ≤ 1000000) (sl0 : Sl m cells 4 p c l) :
    Rd Tryz.prog 101 #[rv lost mark p l.length c, .int .i64 room] m [] (.bool (decide (mkd lost mark l room))) := by
  unfold Rd
  by_cases h0 : lost = 0
  · rw [show decide (mkd lost mark l room) = decide (mark = 0) by unfold mkd; simp only [if_pos h0]]
    refine Ct.enterV (by rfl) Tryz.func101 rfl Tryz.ntmps101 rfl (fun w0 Rest => ?_)
    (repeat' (first | refine zss ?_ | refine zsM ?_ | ((with_reducible apply At.box (d := 2)); exact rfl; exact rfl; exact rfl; intro b2) | (refine zsp ?_ ?_ <;> (intro hc; (try simp only [zhcs, reduceCtorEq] at hc); (try (exfalso; first | (first | omega | exact absurd h0 hc) | contradiction | omega | exact absurd rfl hc | exact absurd (by decide) hc))))))
    all_goals ((with_reducible apply At.retB1 (B := [])); exact rfl; exact rfl; exact zml; exact zkp; exact ⟨rfl, rfl, rfl⟩)
  · by_cases h1 : (l.length : Int) = room
    · by_cases h2 : 0 ≤ mark
      · rw [show decide (mkd lost mark l room) = decide (mark < (l[0]!).T) by unfold mkd; simp only [if_neg h0, h1, h2, true_and]]
        refine Ct.enterV (by rfl) Tryz.func101 rfl Tryz.ntmps101 rfl (fun w0 Rest => ?_)
        (repeat' (first | refine zss ?_ | ((first | (with_reducible first | apply At.val | apply AtQ.val)); (exact pr_fieldAddr_at (k := 0 * 4) (by rfl) (by rfl)); exact rfl) | refine zsM ?_ | ((with_reducible apply At.box (d := 2)); exact rfl; exact rfl; exact rfl; intro b2) | (refine zsp ?_ ?_ <;> (intro hc; (try simp only [zhcs, reduceCtorEq] at hc); (try (exfalso; first | (first | omega | exact absurd hc h0) | contradiction | omega | exact absurd rfl hc | exact absurd (by decide) hc))))))
        all_goals ((with_reducible apply At.retB1 (B := [])); exact rfl; exact rfl; exact zml; exact zkp; exact ⟨rfl, rfl, rfl⟩)
      · rw [show decide (mkd lost mark l room) = false from decide_eq_false (by unfold mkd; rw [if_neg h0]; exact fun h => h2 h.2.1)]
        refine Ct.enterV (by rfl) Tryz.func101 rfl Tryz.ntmps101 rfl (fun w0 Rest => ?_)
        (repeat' (first | refine zss ?_ | ((first | (with_reducible first | apply At.val | apply AtQ.val)); (exact pr_fieldAddr_at (k := 0 * 4) (by rfl) (by rfl)); exact rfl) | refine zsM ?_ | ((with_reducible apply At.box (d := 2)); exact rfl; exact rfl; exact rfl; intro b2) | (refine zsp ?_ ?_ <;> (intro hc; (try simp only [zhcs, reduceCtorEq] at hc); (try (exfalso; first | (first | omega | exact absurd hc h0) | contradiction | omega | exact absurd rfl hc | exact absurd (by decide) hc))))))
        all_goals ((with_reducible apply At.retB1 (B := [])); exact rfl; exact rfl; exact zml; exact zkp; exact ⟨rfl, rfl, rfl⟩)
    · rw [show decide (mkd lost mark l room) = false from decide_eq_false (by unfold mkd; rw [if_neg h0]; exact fun h => h1 h.1)]
      refine Ct.enterV (by rfl) Tryz.func101 rfl Tryz.ntmps101 rfl (fun w0 Rest => ?_)
      (repeat' (first | refine zss ?_ | ((first | (with_reducible first | apply At.val | apply AtQ.val)); (exact pr_fieldAddr_at (k := 0 * 4) (by rfl) (by rfl)); exact rfl) | refine zsM ?_ | ((with_reducible apply At.box (d := 2)); exact rfl; exact rfl; exact rfl; intro b2) | (refine zsp ?_ ?_ <;> (intro hc; (try simp only [zhcs, reduceCtorEq] at hc); (try (exfalso; first | (first | omega | exact absurd hc h0) | contradiction | omega | exact absurd rfl hc | exact absurd (by decide) hc))))))
      all_goals ((with_reducible apply At.retB1 (B := [])); exact rfl; exact rfl; exact zml; exact zkp; exact ⟨rfl, rfl, rfl⟩)
theorem check {m : Mem} (lost mark : Int) (p : Option Addr) (c : Nat) (l : List Ev) (room : Int) (hl : l.length ≤ 1000000) (sl0 : Sl m cells 4 p c l) :
    Rd Tryz.prog 86 #[rv lost mark p l.length c, .int .i64 room] m [] (.int .i64 (chkR lost mark l room)) := by
  unfold Rd
  by_cases h0 : bnd lost l room
  · have hk : ∀ m', m.le m' → Rd Tryz.prog 100 #[.slice p l.length c] m' [] (.bool (decide (ris l))) := fun m' hm => rising p c l hl (sl0.mono hm)
    have hj : ∀ m', m.le m' → Rd Tryz.prog 101 #[rv lost mark p l.length c, .int .i64 room] m' [] (.bool (decide (mkd lost mark l room))) := fun m' hm => marked lost mark p c l room h0.1 hl (sl0.mono hm)
    have g0 := h0
    obtain ⟨g1, g2, g3, g4, g5⟩ := g0
    by_cases h1 : ris l
    · rw [decide_eq_true h1] at hk
      by_cases h2 : mkd lost mark l room
      · rw [decide_eq_true h2] at hj
        rw [show chkR lost mark l room = 0 from if_pos ⟨h0, h1, h2⟩]
        refine Ct.enterV (by rfl) Tryz.func86 rfl Tryz.ntmps86 rfl (fun w0 Rest => ?_)
        (repeat' (first | refine zss ?_ | refine zsM ?_ | ((with_reducible first | apply AtM1.cr | apply AtQ.cr | apply At.cr); exact rfl; exact rfl; exact fun _ hmm => hk _ hmm; exact ztk; kernel_rfl) | ((with_reducible first | apply AtM1.cr | apply AtQ.cr | apply At.cr); exact rfl; exact rfl; exact fun _ hmm => hj _ hmm; exact ztk; kernel_rfl) | ((with_reducible apply At.box (d := 2)); exact rfl; exact rfl; exact rfl; intro b2) | (refine zsp ?_ ?_ <;> (intro hc; (try simp only [zhcs, reduceCtorEq] at hc); (try (exfalso; first | omega | contradiction | omega | exact absurd rfl hc | exact absurd (by decide) hc))))))
        all_goals ((with_reducible apply At.retB1 (B := [])); exact rfl; exact rfl; exact zml; exact zkp; exact ⟨rfl, rfl, rfl⟩)
      · rw [decide_eq_false h2] at hj
        rw [show chkR lost mark l room = 2 from if_neg (fun h => h2 h.2.2)]
        refine Ct.enterV (by rfl) Tryz.func86 rfl Tryz.ntmps86 rfl (fun w0 Rest => ?_)
        (repeat' (first | refine zss ?_ | refine zsM ?_ | ((with_reducible first | apply AtM1.cr | apply AtQ.cr | apply At.cr); exact rfl; exact rfl; exact fun _ hmm => hk _ hmm; exact ztk; kernel_rfl) | ((with_reducible first | apply AtM1.cr | apply AtQ.cr | apply At.cr); exact rfl; exact rfl; exact fun _ hmm => hj _ hmm; exact ztk; kernel_rfl) | ((with_reducible apply At.box (d := 2)); exact rfl; exact rfl; exact rfl; intro b2) | (refine zsp ?_ ?_ <;> (intro hc; (try simp only [zhcs, reduceCtorEq] at hc); (try (exfalso; first | omega | contradiction | omega | exact absurd rfl hc | exact absurd (by decide) hc))))))
        all_goals ((with_reducible apply At.retB1 (B := [])); exact rfl; exact rfl; exact zml; exact zkp; exact ⟨rfl, rfl, rfl⟩)
    · rw [decide_eq_false h1] at hk
      rw [show chkR lost mark l room = 2 from if_neg (fun h => h1 h.2.1)]
      refine Ct.enterV (by rfl) Tryz.func86 rfl Tryz.ntmps86 rfl (fun w0 Rest => ?_)
      (repeat' (first | refine zss ?_ | refine zsM ?_ | ((with_reducible first | apply AtM1.cr | apply AtQ.cr | apply At.cr); exact rfl; exact rfl; exact fun _ hmm => hk _ hmm; exact ztk; kernel_rfl) | ((with_reducible apply At.box (d := 2)); exact rfl; exact rfl; exact rfl; intro b2) | (refine zsp ?_ ?_ <;> (intro hc; (try simp only [zhcs, reduceCtorEq] at hc); (try (exfalso; first | omega | contradiction | omega | exact absurd rfl hc | exact absurd (by decide) hc))))))
      all_goals ((with_reducible apply At.retB1 (B := [])); exact rfl; exact rfl; exact zml; exact zkp; exact ⟨rfl, rfl, rfl⟩)
  · rw [show chkR lost mark l room = 2 from if_neg (fun h => h0 h.1)]
    unfold bnd at h0
    refine Ct.enterV (by rfl) Tryz.func86 rfl Tryz.ntmps86 rfl (fun w0 Rest => ?_)
    (repeat' (first | refine zss ?_ | refine zsM ?_ | ((with_reducible apply At.box (d := 2)); exact rfl; exact rfl; exact rfl; intro b2) | (refine zsp ?_ ?_ <;> (intro hc; (try simp only [zhcs, reduceCtorEq] at hc); (try (exfalso; first | omega | contradiction | omega | exact absurd rfl hc | exact absurd (by decide) hc))))))
    all_goals ((with_reducible apply At.retB1 (B := [])); exact rfl; exact rfl; exact zml; exact zkp; exact ⟨rfl, rfl, rfl⟩)
theorem last {m : Mem} (lost mark : Int) (p : Option Addr) (c : Nat) (l : List Ev) (hl : l.length ≤ 1000000) (sl0 : Sl m cells 4 p c l) :
    Rd Tryz.prog 103 #[rv lost mark p l.length c] m [] (.tuple #[(lastV l).v, .int .i64 (lastE l)]) := by
  unfold Rd
  by_cases h : l.length = 0
  · rw [show lastV l = z from if_pos h, show lastE l = 3 from if_pos h]
    refine Ct.enterV (by rfl) Tryz.func103 rfl Tryz.ntmps103 rfl (fun w0 Rest => ?_)
    (repeat' (first | refine zss ?_ | refine zsM ?_ | ((with_reducible apply At.box (d := 1)); exact rfl; exact rfl; exact rfl; intro b1) | ((with_reducible apply At.alloc (d := 2)); exact rfl; exact rfl; intro b2) | (refine zsp ?_ ?_ <;> (intro hc; (try simp only [zhcs, reduceCtorEq] at hc); (try (exfalso; first | omega | contradiction | omega | exact absurd rfl hc | exact absurd (by decide) hc))))))
    all_goals ((with_reducible apply At.retV (B := [])); exact rfl; (repeat' (first | exact RVs.nil | (with_reducible apply RVs.cons) | exact rv_tmp (by rfl) | exact rv_cellN (by rfl) (by repeat constructor) (by rfl) (by rfl) (by rfl) | exact rv_cell1 (by rfl) (by repeat constructor) (by rfl) (by rfl))); exact zml; exact zkp; exact ⟨rfl, rfl, rfl⟩)
  · obtain ⟨j, hj⟩ : ∃ j, l.length - 1 = j := ⟨_, rfl⟩
    have hw : IntKind.wrap .i64 ((l.length : Int) - 1) = (j : Int) := by rw [show (l.length : Int) - 1 = (j : Int) by omega]; exact IntWalk.i64_in _ (by omega)
    rw [show lastV l = l[j]! by unfold lastV; rw [if_neg h, hj], show lastE l = 0 from if_neg h]
    refine Ct.enterV (by rfl) Tryz.func103 rfl Tryz.ntmps103 rfl (fun w0 Rest => ?_)
    (repeat' (first | refine zss ?_ | ((first | (with_reducible first | apply At.val | apply AtQ.val)); (exact pr_sub (by rfl) (by rfl) hw); exact rfl) | refine zsM ?_ | ((with_reducible apply At.box (d := 1)); exact rfl; exact rfl; exact rfl; intro b1) | ((with_reducible apply At.alloc (d := 2)); exact rfl; exact rfl; intro b2) | (refine zsp ?_ ?_ <;> (intro hc; (try simp only [zhcs, reduceCtorEq] at hc); (try (exfalso; first | omega | contradiction | omega | exact absurd rfl hc | exact absurd (by decide) hc))))))
    all_goals ((with_reducible apply At.retV (B := [])); exact rfl; (repeat' (first | exact RVs.nil | (with_reducible apply RVs.cons) | exact rv_tmp (by rfl) | exact rv_cellN (by rfl) (by repeat constructor) (by rfl) (by rfl) (by rfl) | exact rv_cell1 (by rfl) (by repeat constructor) (by rfl) (by rfl))); exact zml; exact zkp; exact ⟨rfl, rfl, rfl⟩)
theorem equal {m : Mem} (p : Option Addr) (c : Nat) (a : List Ev) (q : Option Addr) (d : Nat) (b : List Ev) (hl : a.length ≤ 1000000) (hlb : b.length ≤ 1000000) (sl0 : Sl m cells 4 p c a) (sl1 : Sl m cells 4 q d b) :
    Rd Tryz.prog 97 #[.slice p a.length c, .slice q b.length d] m [] (.bool (decide (a = b))) := by
  unfold Rd
  by_cases hlen : a.length = b.length
  · refine Ct.enterV (by rfl) Tryz.func97 rfl Tryz.ntmps97 rfl (fun w0 Rest => ?_)
    (repeat' (first | refine zss ?_ | refine zsM ?_ | (refine zsp ?_ ?_ <;> (intro hc; (try simp only [zhcs, reduceCtorEq] at hc); (try (exfalso; first | omega | contradiction | omega | exact absurd rfl hc | exact absurd (by decide) hc))))))
    (refine At.loopk (σ := Nat) [0, 1, 12] (fun s F0 => (13, .int .i64 (s : Int)) :: F0) (fun s => m) (fun s => Rest) (fun s => s ≤ a.length ∧ ∀ i, i < s → a[i]! = b[i]!) (fun s => a.length - s) 0 (by rfl) ?_ zsubs zml zente ?_)
    · exact ⟨Nat.zero_le _, fun i h => absurd h (Nat.not_lt_zero i)⟩
    rintro s ⟨hs, hn⟩
    by_cases h : s < a.length
    · by_cases e : a[s]! = b[s]!
      · have hnn : ∀ i, i < s + 1 → a[i]! = b[i]! := fun i hi => by
          by_cases e1 : i = s
          · subst e1; exact e
          · exact hn i (by omega)
        (repeat' (first | refine zss ?_ | ((first | (with_reducible first | apply At.val | apply AtQ.val)); (exact pr_evne (by rfl) (by rfl)); exact rfl) | refine zsM ?_ | (refine zsp ?_ ?_ <;> (intro hc; (try simp only [zhcs, reduceCtorEq] at hc); (try (exfalso; first | (first | omega | exact absurd e hc) | contradiction | omega | exact absurd rfl hc | exact absurd (by decide) hc))))))
        all_goals ((with_reducible refine At.reachk ((s + 1)) ?_ ?_ ?_ ?_); exact zsubs; exact zml; exact zente; exact ⟨⟨h, hnn⟩, by omega⟩)
      · rw [decide_eq_false (show ¬ a = b from fun h => e (by rw [h]))]
        (repeat' (first | refine zss ?_ | ((first | (with_reducible first | apply At.val | apply AtQ.val)); (exact pr_evne (by rfl) (by rfl)); exact rfl) | refine zsM ?_ | (refine zsp ?_ ?_ <;> (intro hc; (try simp only [zhcs, reduceCtorEq] at hc); (try (exfalso; first | (first | omega | exact absurd hc e) | contradiction | omega | exact absurd rfl hc | exact absurd (by decide) hc))))))
        all_goals ((with_reducible apply At.retB1 (B := [])); exact rfl; exact rfl; exact zml; exact zkp; exact ⟨rfl, rfl, rfl⟩)
    · rw [decide_eq_true (show a = b from List.ext_getElem hlen fun i h1 h2 => by have := hn i (by omega); rwa [getElem!_pos a i h1, getElem!_pos b i h2] at this)]
      (repeat' (first | refine zss ?_ | refine zsM ?_ | (refine zsp ?_ ?_ <;> (intro hc; (try simp only [zhcs, reduceCtorEq] at hc); (try (exfalso; first | omega | contradiction | omega | exact absurd rfl hc | exact absurd (by decide) hc))))))
      all_goals ((with_reducible apply At.retB1 (B := [])); exact rfl; exact rfl; exact zml; exact zkp; exact ⟨rfl, rfl, rfl⟩)
  · rw [decide_eq_false (show ¬ a = b from fun h => hlen (by rw [h]))]
    refine Ct.enterV (by rfl) Tryz.func97 rfl Tryz.ntmps97 rfl (fun w0 Rest => ?_)
    (repeat' (first | refine zss ?_ | refine zsM ?_ | (refine zsp ?_ ?_ <;> (intro hc; (try simp only [zhcs, reduceCtorEq] at hc); (try (exfalso; first | omega | contradiction | omega | exact absurd rfl hc | exact absurd (by decide) hc))))))
    all_goals ((with_reducible apply At.retB1 (B := [])); exact rfl; exact rfl; exact zml; exact zkp; exact ⟨rfl, rfl, rfl⟩)
def eqR (r o : Rw) : Bool := decide (r.lost = o.lost ∧ r.mark = o.mark ∧ r.l = o.l)
theorem eqR_1 {r o : Rw} (h : ¬ r.lost = o.lost) : eqR r o = false := decide_eq_false fun e => h e.1
theorem eqR_2 {r o : Rw} (h : ¬ r.mark = o.mark) : eqR r o = false := decide_eq_false fun e => h e.2.1
theorem eqR_3 {r o : Rw} (h1 : r.lost = o.lost) (h2 : r.mark = o.mark) : eqR r o = decide (r.l = o.l) := by unfold eqR; simp [h1, h2]
theorem same {m : Mem} (r o : Rw) (hr : r.l.length ≤ 1000000) (ho : o.l.length ≤ 1000000) (sl0 : Sl m cells 4 r.p r.c r.l) (sl1 : Sl m cells 4 o.p o.c o.l) :
    Rd Tryz.prog 82 #[r.v, o.v] m [] (.bool (eqR r o)) := by
  unfold Rd
  by_cases h1 : r.lost = o.lost
  · by_cases h2 : r.mark = o.mark
    · rw [eqR_3 h1 h2]
      refine Ct.enterV (by rfl) Tryz.func82 rfl Tryz.ntmps82 rfl (fun w0 Rest => ?_)
      (repeat' (first | refine zss ?_ | refine zsM ?_ | ((with_reducible first | apply AtM1.cr | apply AtQ.cr | apply At.cr); exact rfl; exact rfl; exact fun _ hmm => equal r.p r.c r.l o.p o.c o.l hr ho (sl0.mono hmm) (sl1.mono hmm); exact ztk; kernel_rfl) | ((with_reducible apply At.box (d := 2)); exact rfl; exact rfl; exact rfl; intro b2) | ((with_reducible apply At.box (d := 3)); exact rfl; exact rfl; exact rfl; intro b3) | (refine zsp ?_ ?_ <;> (intro hc; (try simp only [zhcs, reduceCtorEq] at hc); (try (exfalso; first | omega | contradiction | omega | exact absurd rfl hc | exact absurd (by decide) hc))))))
      all_goals ((with_reducible apply At.retB1 (B := [])); exact rfl; exact rfl; exact zml; exact zkp; exact ⟨rfl, rfl, rfl⟩)
    · rw [eqR_2 h2]
      refine Ct.enterV (by rfl) Tryz.func82 rfl Tryz.ntmps82 rfl (fun w0 Rest => ?_)
      (repeat' (first | refine zss ?_ | refine zsM ?_ | ((with_reducible apply At.box (d := 2)); exact rfl; exact rfl; exact rfl; intro b2) | ((with_reducible apply At.box (d := 3)); exact rfl; exact rfl; exact rfl; intro b3) | (refine zsp ?_ ?_ <;> (intro hc; (try simp only [zhcs, reduceCtorEq] at hc); (try (exfalso; first | omega | contradiction | omega | exact absurd rfl hc | exact absurd (by decide) hc))))))
      all_goals ((with_reducible apply At.retB1 (B := [])); exact rfl; exact rfl; exact zml; exact zkp; exact ⟨rfl, rfl, rfl⟩)
  · rw [eqR_1 h1]
    refine Ct.enterV (by rfl) Tryz.func82 rfl Tryz.ntmps82 rfl (fun w0 Rest => ?_)
    (repeat' (first | refine zss ?_ | refine zsM ?_ | ((with_reducible apply At.box (d := 2)); exact rfl; exact rfl; exact rfl; intro b2) | ((with_reducible apply At.box (d := 3)); exact rfl; exact rfl; exact rfl; intro b3) | (refine zsp ?_ ?_ <;> (intro hc; (try simp only [zhcs, reduceCtorEq] at hc); (try (exfalso; first | omega | contradiction | omega | exact absurd rfl hc | exact absurd (by decide) hc))))))
    all_goals ((with_reducible apply At.retB1 (B := [])); exact rfl; exact rfl; exact zml; exact zkp; exact ⟨rfl, rfl, rfl⟩)
theorem rsame {m : Mem} (r o : Rw) (hr : r.l.length ≤ 1000000) (ho : o.l.length ≤ 1000000) (sl0 : Sl m cells 4 r.p r.c r.l) (sl1 : Sl m cells 4 o.p o.c o.l) :
    Rd Tryz.prog 75 #[r.v, o.v] m [] (.bool (eqR r o)) := by
  unfold Rd
  by_cases h1 : r.lost = o.lost
  · by_cases h2 : r.mark = o.mark
    · rw [eqR_3 h1 h2]
      refine Ct.enterV (by rfl) Tryz.func75 rfl Tryz.ntmps75 rfl (fun w0 Rest => ?_)
      (repeat' (first | refine zss ?_ | refine zsM ?_ | ((with_reducible first | apply AtM1.cr | apply AtQ.cr | apply At.cr); exact rfl; exact rfl; exact fun _ hmm => Mrg.same r.p r.c r.l o.p o.c o.l hr ho (sl0.mono hmm) (sl1.mono hmm); exact ztk; kernel_rfl) | ((with_reducible apply At.box (d := 2)); exact rfl; exact rfl; exact rfl; intro b2) | ((with_reducible apply At.box (d := 3)); exact rfl; exact rfl; exact rfl; intro b3) | (refine zsp ?_ ?_ <;> (intro hc; (try simp only [zhcs, reduceCtorEq] at hc); (try (exfalso; first | omega | contradiction | omega | exact absurd rfl hc | exact absurd (by decide) hc))))))
      all_goals ((with_reducible apply At.retB1 (B := [])); exact rfl; exact rfl; exact zml; exact zkp; exact ⟨rfl, rfl, rfl⟩)
    · rw [eqR_2 h2]
      refine Ct.enterV (by rfl) Tryz.func75 rfl Tryz.ntmps75 rfl (fun w0 Rest => ?_)
      (repeat' (first | refine zss ?_ | refine zsM ?_ | ((with_reducible apply At.box (d := 2)); exact rfl; exact rfl; exact rfl; intro b2) | ((with_reducible apply At.box (d := 3)); exact rfl; exact rfl; exact rfl; intro b3) | (refine zsp ?_ ?_ <;> (intro hc; (try simp only [zhcs, reduceCtorEq] at hc); (try (exfalso; first | omega | contradiction | omega | exact absurd rfl hc | exact absurd (by decide) hc))))))
      all_goals ((with_reducible apply At.retB1 (B := [])); exact rfl; exact rfl; exact zml; exact zkp; exact ⟨rfl, rfl, rfl⟩)
  · rw [eqR_1 h1]
    refine Ct.enterV (by rfl) Tryz.func75 rfl Tryz.ntmps75 rfl (fun w0 Rest => ?_)
    (repeat' (first | refine zss ?_ | refine zsM ?_ | ((with_reducible apply At.box (d := 2)); exact rfl; exact rfl; exact rfl; intro b2) | ((with_reducible apply At.box (d := 3)); exact rfl; exact rfl; exact rfl; intro b3) | (refine zsp ?_ ?_ <;> (intro hc; (try simp only [zhcs, reduceCtorEq] at hc); (try (exfalso; first | omega | contradiction | omega | exact absurd rfl hc | exact absurd (by decide) hc))))))
    all_goals ((with_reducible apply At.retB1 (B := [])); exact rfl; exact rfl; exact zml; exact zkp; exact ⟨rfl, rfl, rfl⟩)
end Raw
end Go.Proofs.YtecifniognbomaaGreat
/- The order of texts. -/
set_option linter.unusedSimpArgs false
set_option linter.unusedVariables false
set_option linter.unusedSectionVars false
set_option maxRecDepth 20000
namespace Go.J
open Go
abbrev ltB : List UInt8 → List UInt8 → Bool := Op.bytesLess
theorem u8_lt_irrefl (a : UInt8) : ¬ a < a := by rw [UInt8.lt_iff_toNat_lt]; omega
theorem u8_lt_trans {a b c : UInt8} (h : a < b) (k : b < c) : a < c := by rw [UInt8.lt_iff_toNat_lt] at *; omega
theorem u8_tri (a b : UInt8) : a < b ∨ a = b ∨ b < a := by
  rw [UInt8.lt_iff_toNat_lt, UInt8.lt_iff_toNat_lt]
  rcases Nat.lt_trichotomy a.toNat b.toNat with h | h | h
  · exact .inl h
  · exact .inr (.inl (UInt8.toNat_inj.1 h))
  · exact .inr (.inr h)
theorem ltB_cons (a b : UInt8) (x y : List UInt8) : ltB (a :: x) (b :: y) = true ↔ a < b ∨ (a = b ∧ ltB x y = true) := by
  simp [ltB, Op.bytesLess]
theorem ltB_nil (x : List UInt8) : ltB x [] = false := by cases x <;> rfl
theorem ltB_nil_cons (b : UInt8) (y : List UInt8) : ltB [] (b :: y) = true := rfl
theorem ltB_irrefl : ∀ x : List UInt8, ltB x x = false
  | [] => rfl
  | a :: x => by
    have := ltB_irrefl x
    cases h : ltB (a :: x) (a :: x) with
    | false => rfl
    | true => rcases (ltB_cons a a x x).1 h with h | ⟨_, h⟩
              · exact absurd h (u8_lt_irrefl a)
              · rw [this] at h; cases h
theorem ltB_trans : ∀ {x y z : List UInt8}, ltB x y = true → ltB y z = true → ltB x z = true
  | x, [], _, h, _ => by rw [ltB_nil] at h; cases h
  | _, _ :: _, [], _, k => by rw [ltB_nil] at k; cases k
  | [], _ :: _, _ :: _, _, _ => rfl
  | a :: x, b :: y, c :: z, h, k => by
    rw [ltB_cons] at h k ⊢
    rcases h with h | ⟨rfl, h⟩
    · rcases k with k | ⟨rfl, k⟩
      · exact .inl (u8_lt_trans h k)
      · exact .inl h
    · rcases k with k | ⟨rfl, k⟩
      · exact .inl k
      · exact .inr ⟨rfl, ltB_trans h k⟩
theorem ltB_tri : ∀ x y : List UInt8, ltB x y = true ∨ x = y ∨ ltB y x = true
  | [], [] => .inr (.inl rfl)
  | [], _ :: _ => .inl rfl
  | _ :: _, [] => .inr (.inr rfl)
  | a :: x, b :: y => by
    rw [ltB_cons, ltB_cons]
    rcases u8_tri a b with h | rfl | h
    · exact .inl (.inl h)
    · rcases ltB_tri x y with h | rfl | h
      · exact .inl (.inr ⟨rfl, h⟩)
      · exact .inr (.inl rfl)
      · exact .inr (.inr (.inr ⟨rfl, h⟩))
    · exact .inr (.inr (.inl h))
theorem ltB_asymm {x y : List UInt8} (h : ltB x y = true) : ltB y x = false := by
  cases k : ltB y x with
  | false => rfl
  | true => have := ltB_trans h k; rw [ltB_irrefl] at this; cases this
theorem ltB_ne {x y : List UInt8} (h : ltB x y = true) : x ≠ y := fun e => by subst e; rw [ltB_irrefl] at h; cases h
theorem gtB (x y : List UInt8) : (!(ltB x y || x == y)) = ltB y x := by
  rcases ltB_tri x y with h | rfl | h
  · rw [h, ltB_asymm h]; rfl
  · rw [ltB_irrefl]; simp
  · rw [h, ltB_asymm h]
    have : (x == y) = false := by simpa using (ltB_ne h).symm
    rw [this]; rfl
/-- what begins so does not come ahead of it -/
theorem pre_not_lt : ∀ {f s : List UInt8}, f <+: s → ltB s f = false
  | [], s, _ => ltB_nil s
  | a :: f, [], h => by cases (List.prefix_nil.1 h)
  | a :: f, b :: s, h => by
    rw [List.cons_prefix_cons] at h
    obtain ⟨rfl, h⟩ := h
    have ih := pre_not_lt h
    cases k : ltB (a :: s) (a :: f) with
    | false => rfl
    | true => rcases (ltB_cons a a s f).1 k with k | ⟨_, k⟩
              · exact absurd k (u8_lt_irrefl a)
              · rw [ih] at k; cases k
/-- where one begins so no more, none behind it does -/
theorem pre_gone : ∀ {f s t : List UInt8}, ltB s f = false → ¬ f <+: s → ltB s t = true → ¬ f <+: t
  | [], s, _, _, h, _ => absurd (List.nil_prefix) h
  | a :: f, [], _, h, _, _ => by cases h
  | a :: f, b :: s, [], _, _, h => by rw [ltB_nil] at h; cases h
  | a :: f, b :: s, c :: t, h1, h2, h3 => fun h4 => by
    rw [List.cons_prefix_cons] at h2 h4
    obtain ⟨rfl, h4⟩ := h4
    have h1' : ¬ (b < a ∨ (b = a ∧ ltB s f = true)) := fun e => by rw [(ltB_cons b a s f).2 e] at h1; cases h1
    rcases (ltB_cons b a s t).1 h3 with k3 | ⟨rfl, k3⟩
    · exact h1' (.inl k3)
    · refine pre_gone (f := f) (s := s) (t := t) ?_ (fun e => h2 ⟨rfl, e⟩) k3 h4
      cases k : ltB s f with
      | false => rfl
      | true => exact absurd (.inr ⟨rfl, k⟩) h1'
section
variable {P : Program} {n : Nat} {F : Fr} {C : World → Prop} {x y : Operand} {p q : List UInt8} {t u : TypeId} {r : Bool}
theorem run_strcmp (op : BinOp) (hop : op = .lss ∨ op = .leq ∨ op = .gtr ∨ op = .geq) {v : Bool} (hx : ev F x = some (.string (str p))) (hy : ev F y = some (.string (str q)))
    (hv : (Op.stringOp op (str p) (str q)) = pure (.bool v)) : PR P n F C (.binOp op t x y u) (.bool v) := fun _ _ _ _ _ a w ha _ => by
  have hg : ∀ w, (eqGuard op t x y (.string (str p)) (.string (str q))).run P w = .ok () w := fun w => by rcases hop with rfl | rfl | rfl | rfl <;> rfl
  have hb : binOp op t (.string (str p)) (.string (str q)) = Op.stringOp op (str p) (str q) := by rcases hop with rfl | rfl | rfl | rfl <;> rfl
  simp only [execOp, ha.ev hx, ha.ev hy, hb, Sem.run_bind, hg, Result.andThen]
  rw [hv]
  rfl
theorem pr_strlss (hx : ev F x = some (.string (str p))) (hy : ev F y = some (.string (str q))) (h : ltB p q = r) : PR P n F C (.binOp .lss t x y u) (.bool r) :=
  run_strcmp .lss (.inl rfl) hx hy (by subst h; simp [Op.stringOp, str])
theorem pr_strgtr (hx : ev F x = some (.string (str p))) (hy : ev F y = some (.string (str q))) (h : ltB q p = r) : PR P n F C (.binOp .gtr t x y u) (.bool r) :=
  run_strcmp .gtr (.inr (.inr (.inl rfl))) hx hy (by subst h; rw [← gtB]; simp [Op.stringOp, str])
theorem pr_strleq (hx : ev F x = some (.string (str p))) (hy : ev F y = some (.string (str q))) (h : ltB q p = r) : PR P n F C (.binOp .leq t x y u) (.bool (!r)) :=
  run_strcmp .leq (.inr (.inl rfl)) hx hy (by subst h; rw [← gtB, Bool.not_not]; simp [Op.stringOp, str])
theorem pr_strgeq (hx : ev F x = some (.string (str p))) (hy : ev F y = some (.string (str q))) (h : ltB p q = r) : PR P n F C (.binOp .geq t x y u) (.bool (!r)) :=
  run_strcmp .geq (.inr (.inr (.inr rfl))) hx hy (by subst h; simp [Op.stringOp, str])
end
end Go.J
/- Labels (plain): which are right, what a name has, their order. -/
set_option linter.unusedSimpArgs false
set_option linter.unusedVariables false
set_option linter.unusedSectionVars false
set_option maxRecDepth 20000
set_option maxHeartbeats 4000000
namespace Go.Proofs.YtecifniognbomaaGreat
open Go Go.J
/-- a label -/
structure Lab where
  (n v : List UInt8)
deriving DecidableEq, Inhabited
abbrev Lab.val (x : Lab) : Value := .agg #[.string (str x.n), .string (str x.v)]
namespace Lb
abbrev cells : Lab → List Value := fun x => [.string (str x.n), .string (str x.v)]
instance : Fl cells 2 := ⟨fun _ => rfl, fun _ v h => by simp at h; rcases h with rfl | rfl <;> rfl, by decide⟩
def dig (c : UInt8) : Bool := decide (48 ≤ bI c ∧ bI c ≤ 57)
def sgn (c : UInt8) : Bool := decide ((97 ≤ bI c ∧ bI c ≤ 122) ∨ (65 ≤ bI c ∧ bI c ≤ 90) ∨ (48 ≤ bI c ∧ bI c ≤ 57) ∨ bI c = 95)
def nameB (s : List UInt8) : Bool := decide (1 ≤ s.length ∧ s.length ≤ 64 ∧ dig s[0]! = false ∧ ∀ i, i < s.length → sgn s[i]! = true)
def okAt (l : List Lab) (i : Nat) : Bool := decide (nameB l[i]!.n = true ∧ l[i]!.v.length ≤ 128 ∧ (0 < i → ltB l[i - 1]!.n l[i]!.n = true))
def tot (l : List Lab) : Nat := (l.map fun x => x.n.length + x.v.length).sum
def right (l : List Lab) : Prop := 1 ≤ l.length ∧ l.length ≤ 16 ∧ (∀ i, i < l.length → okAt l i = true) ∧ tot l ≤ 256
instance (l : List Lab) : Decidable (right l) := by unfold right; infer_instance
def chk (l : List Lab) : Int := if right l then 0 else 8
def few (l : List Lab) : Prop := l.length ≤ 40 ∧ ∀ i, i < l.length → l[i]!.n.length ≤ 1000 ∧ l[i]!.v.length ≤ 1000
instance (l : List Lab) : Decidable (few l) := by unfold few; infer_instance
def val (l : List Lab) (t : List UInt8) : List UInt8 := match l.find? fun x => decide (x.n = t) with
  | some x => x.v
  | none => []
theorem or_letter : ∀ n : Nat, n < 256 → (decide (97 ≤ bits .or .u8 (n : Int) 32 ∧ bits .or .u8 (n : Int) 32 ≤ 122)) = decide ((97 ≤ (n : Int) ∧ (n : Int) ≤ 122) ∨ (65 ≤ (n : Int) ∧ (n : Int) ≤ 90)) := by decide +kernel
theorem or_let (c : UInt8) : (97 ≤ bits .or .u8 (bI c) 32 ∧ bits .or .u8 (bI c) 32 ≤ 122) ↔ ((97 ≤ bI c ∧ bI c ≤ 122) ∨ (65 ≤ bI c ∧ bI c ≤ 90)) := by
  have := or_letter c.toNat c.toNat_lt
  rwa [decide_eq_decide] at this
theorem lab_ext {a b : Lab} (h1 : a.n = b.n) (h2 : a.v = b.v) : a = b := by cases a; cases b; cases h1; cases h2; rfl
theorem and_lab (a b : Lab) : andL [decide (str a.n = str b.n), decide (str a.v = str b.v)] = decide (a = b) := by
  by_cases h : a = b
  · subst h; simp [andL_cons, andL_nil]
  · rw [decide_eq_false h]
    cases hb : andL [decide (str a.n = str b.n), decide (str a.v = str b.v)] with
    | false => rfl
    | true =>
      simp only [andL_cons, andL_nil, Bool.and_eq_true, decide_eq_true_eq] at hb
      exact absurd (lab_ext (str_inj.1 hb.1) (str_inj.1 hb.2.1)) h
theorem pr_lbne {n : Nat} {F : Fr} {C : World → Prop} {x y : Operand} {u : TypeId} {a b : Lab} (hx : ev F x = some a.val) (hy : ev F y = some b.val) : PR Tryz.prog n F C (.binOp .neq 75 x y u) (.bool (!decide (a = b))) := by
  rw [← and_lab]
  exact pr_aggne2 hx hy (by rfl) (by kernel_rfl) (by kernel_rfl) (by rfl)
theorem pr_lbeq {n : Nat} {F : Fr} {C : World → Prop} {x y : Operand} {u : TypeId} {a b : Lab} (hx : ev F x = some a.val) (hy : ev F y = some b.val) : PR Tryz.prog n F C (.binOp .eql 75 x y u) (.bool (decide (a = b))) := by
  rw [← and_lab]
  exact pr_aggeq2 hx hy (by rfl) (by kernel_rfl) (by kernel_rfl) (by rfl)
theorem tot_take {l : List Lab} {i : Nat} (h : i < l.length) : tot (l.take (i + 1)) = tot (l.take i) + (l[i]!.n.length + l[i]!.v.length) := by
  rw [Ls.take_snoc h]; simp [tot]
theorem tot_take_le (l : List Lab) (i : Nat) : tot (l.take i) ≤ tot l := by
  conv => rhs; rw [← List.take_append_drop i l]
  unfold tot
  rw [List.map_append, List.sum_append]
  omega
theorem bad_at {l : List Lab} {i : Nat} (hi : i < l.length) (h : ¬ (nameB l[i]!.n = true ∧ l[i]!.v.length ≤ 128 ∧ (0 < i → ltB l[i - 1]!.n l[i]!.n = true))) : chk l = 8 := by
  unfold chk
  rw [if_neg fun k => h (of_decide_eq_true (k.2.2.1 i hi))]
theorem bad_tot {l : List Lab} {i : Nat} (h : 256 < tot (l.take i)) : chk l = 8 := by
  unfold chk
  have := tot_take_le l i
  rw [if_neg fun k => by have := k.2.2.2; omega]
theorem bad_len {l : List Lab} (h : l.length < 1 ∨ 16 < l.length) : chk l = 8 := by
  unfold chk
  rw [if_neg fun k => by have := k.1; have := k.2.1; omega]
theorem chk_ok {l : List Lab} (h : right l) : chk l = 0 := if_pos h
theorem chk_right {l : List Lab} : chk l = 0 ↔ right l := by
  unfold chk; split
  · simp [*]
  · simp [*]
theorem val_none {l : List Lab} {t : List UInt8} (h : ∀ i, i < l.length → l[i]!.n ≠ t) : val l t = [] := by
  unfold val
  rw [List.find?_eq_none.2]
  intro x hx
  obtain ⟨i, hi, rfl⟩ := List.mem_iff_getElem.1 hx
  have := h i hi
  rw [getElem!_pos l i hi] at this
  simpa using this
theorem val_at : ∀ {l : List Lab} {t : List UInt8} {i : Nat}, i < l.length → l[i]!.n = t → (∀ k, k < i → l[k]!.n ≠ t) → val l t = l[i]!.v
  | [], _, _, h, _, _ => absurd h (Nat.not_lt_zero _)
  | x :: l, t, 0, _, h, _ => by unfold val; rw [List.find?_cons, show decide (x.n = t) = true from decide_eq_true h]; rfl
  | x :: l, t, i + 1, hi, h, hk => by
    have h0 : x.n ≠ t := hk 0 (by omega)
    have := val_at (l := l) (t := t) (i := i) (by simpa using hi) (by simpa using h) (fun k hk' => by simpa using hk (k + 1) (by omega))
    unfold val at this ⊢
    rw [List.find?_cons, show decide (x.n = t) = false from decide_eq_false h0]
    simpa using this
theorem nameB_no {s : List UInt8} (h : ¬ (1 ≤ s.length ∧ s.length ≤ 64 ∧ dig s[0]! = false ∧ ∀ i, i < s.length → sgn s[i]! = true)) : nameB s = false := decide_eq_false h
end Lb
end Go.Proofs.YtecifniognbomaaGreat
/- The bytes of a text that may be written; an array as a slice. -/
set_option linter.unusedSimpArgs false
set_option linter.unusedVariables false
set_option linter.unusedSectionVars false
set_option maxRecDepth 20000
namespace Go.J
open Go
/-- the bytes of a text, that may be written -/
def Res.byt (E : TypeId) (p : Option Addr) (c : Nat) (L : List Int) : Res where
  p w s := ∃ g cur, p = some ⟨g, 0, none⟩ ∧ w.heap[g]? = some (.cells cur E (cur.size, cur.size + 1)) ∧ L.length ≤ c ∧ c ≤ maxLen ∧ c ≤ cur.size ∧ (∀ j, j < L.length → cur[j]? = some (.int .u8 L[j]!)) ∧ ∀ k, s k ↔ k = g
  loc := fun {w w' s} h he => by
    obtain ⟨g, cur, h1, h2, h3, h4, h5, h6, h7⟩ := h
    exact ⟨g, cur, h1, by rw [he g ((h7 g).2 rfl)]; exact h2, h3, h4, h5, h6, h7⟩
  dom := fun {w s k} h hk => by
    obtain ⟨g, cur, h1, h2, h3, h4, h5, h6, h7⟩ := h
    rw [(h7 k).1 hk]; exact (Array.getElem?_eq_some_iff.1 h2).1
section
variable {P : Program} {n : Nat} {w0 : World} {F : Fr} {m : Mem} {Rs Rs' : List Res} {Q : Exit → Act → World → Prop} {K : Act → World → Prop} {E : TypeId} {p : Option Addr} {c : Nat} {L : List Int}
theorem byt_rdb (hp : Pick Rs (.byt E p c L) Rs') : Rdb (HW w0 m Rs) fb 1 p c L := by
  refine ⟨inferInstance, fun w hw hl => ?_, fun w hw => ?_, fun w hw i j hi hj => ?_⟩
  · obtain ⟨_, g, cur, h1, _⟩ := hw.get hp
    exact ⟨g, 0, h1⟩
  · obtain ⟨_, g, cur, h1, h2, h3, _⟩ := hw.get hp
    exact h3
  · obtain ⟨_, g, cur, h1, h2, h3, h4, h5, h6, h7⟩ := hw.get hp
    subst h1
    have hj0 : j = 0 := by omega
    subst hj0
    show w.cell? ⟨g, 0 + (i * 1 + 0), none⟩ = _
    rw [World.cell_of h2, show 0 + (i * 1 + 0) = i by omega, h6 i hi]
    rfl
theorem At.byt_freeze (hp : Pick Rs (.byt E p c L) Rs') (h : ∀ m' : Mem, m.le m' → Sl m' fb 1 p c L → At n w0 F m' Rs' K) : At n w0 F m Rs K := fun a w ha hw => by
  obtain ⟨s, ⟨s1, s2, h1, h2, hd, he⟩, hm⟩ := (hw.ent (Ent.of_pick hp)).res
  obtain ⟨g, cur, rfl, h4, h5, h6, h7, h8, hg⟩ := h1
  have hmb : m g = none := hm g ((he g).2 (.inl ((hg g).2 rfl)))
  refine h (fun k => if k = g then some (.cells cur E (cur.size, cur.size + 1)) else m k) (fun k o hk => ?_) ⟨inferInstance, h5, h6, (fun e => by cases e), fun a' ha' _ => ?_⟩ a w ha
    ⟨hw.os, hw.tape, hw.output, hw.size, fun k o hk => ?_, s2, h2, fun k hk => ?_⟩
  · show (if k = g then _ else _) = _
    rw [if_neg (fun e => by subst e; rw [hmb] at hk; cases hk)]; exact hk
  · cases ha'
    refine ⟨rfl, E, cur, _, if_pos rfl, by show 0 + c * 1 ≤ _; omega, fun i j hi hj => ?_⟩
    have hj0 : j = 0 := by omega
    subst hj0
    show cur[0 + (i * 1 + 0)]? = _
    rw [show 0 + (i * 1 + 0) = i by omega, h8 i hi]
    rfl
  · by_cases e : k = g
    · subst e
      rw [if_pos rfl] at hk; cases hk; exact h4
    · rw [if_neg e] at hk; exact hw.mem k o hk
  · show (if k = g then _ else _) = _
    rw [if_neg (fun e => hd k ⟨(hg k).2 e, hk⟩)]
    exact hm k ((he k).2 (.inr hk))
theorem At.str_own {ops : Array Oper} {rest : List Oper} {d : Nat} {x : Operand} {s t e : TypeId} {ty : TypeId} {pos : String} {aft : Array Edge} {l : List UInt8}
    (hs : P.underlying s = some .string) (ht : P.underlying t = some (.slice e)) (he : P.underlying e = some (.int .u8)) (hx : ev F x = some (.string (str l))) (hl : l.length ≤ 34359738368) (hd : Nat.blt d n = true)
    (h : ∀ p c, At n w0 ((d, .slice p (l.map bI).length c) :: F) m (.byt e p c (l.map bI) :: Rs) (wpList P ops Q rest)) : At n w0 F m Rs (wpList P ops Q (⟨some d, .convert s t x, ty, pos, aft, none⟩ :: rest)) := fun a w ha hw =>
  wpList_plain rfl fun K hK => by
    have hrun := run_bytes_of_string (P := P) w s t e (str l) hs ht he
    have hge := grownCap_ge w (str l).size 0 e
    have hle := grownCap_le_maxLen w (str l).size 0 e (by rw [str_size]; simp only [maxLen]; omega)
    generalize grownCap w (str l).size 0 e = c at hrun hge hle
    rw [str_size] at hrun hge
    have hsize : (bytesRow (str l) c).size = c := by rw [bytesRow_str]; simp; omega
    unfold Oper.wp
    have hex : (execOp a.eval ⟨some d, .convert s t x, ty, pos, aft, none⟩).run P w = .ok (.value (.slice (some ⟨w.heap.size, 0, none⟩) l.length c)) (w.drew.alloc (.cells (bytesRow (str l) c) e ((bytesRow (str l) c).size, (bytesRow (str l) c).size + 1))) := by
      simp only [execOp, ha.ev hx, Sem.run_bind, hrun, Result.andThen]
      rfl
    rw [hex]
    refine hK _ _ (h (some ⟨w.heap.size, 0, none⟩) c _ _ (by rw [List.length_map]; exact ha.put hd) (hw.add rfl rfl rfl (by show w.heap.size ≤ (w.heap.push _).size; simp) (fun k hk => by show (w.heap.push _)[k]? = _; rw [Array.getElem?_push, if_neg (by omega)])
      ⟨fun k => k = w.heap.size, ⟨w.heap.size, bytesRow (str l) c, rfl, by show (w.heap.push _)[w.heap.size]? = _; simp, by simpa using hge, hle, by rw [hsize]; exact Nat.le_refl _, fun j hj => ?_, fun _ => Iff.rfl⟩, fun k hk => by omega⟩))
    have hj' : j < l.length := by simpa using hj
    rw [bytesRow_str, Array.getElem?_append_left (by simp; omega)]
    simp [hj']
theorem At.store_byt {ops : Array Oper} {rest : List Oper} {t : TypeId} {x y : Operand} {ty : TypeId} {pos : String} {aft : Array Edge} {k : Nat} {v : Int}
    (hx : ev F x = some (.pointer (some (at_ p (k * 1))))) (hy : ev F y = some (.int .u8 v)) (hp : Pick Rs (.byt E p c L) Rs') (hs : sizeB P t = some 1) (hk : k < L.length)
    (h : At n w0 F m (.byt E p c (L.set k v) :: Rs') (wpList P ops Q rest)) : At n w0 F m Rs (wpList P ops Q (⟨none, .store t x y, ty, pos, aft, none⟩ :: rest)) := fun a w ha hw =>
  wpList_plain rfl fun K hK => by
    have hrow : ∀ s, (Res.byt E p c L).p w s → ∃ w', (storeVar t (at_ p (k * 1)) (.int .u8 v)).run P w = .ok () w' ∧ (Res.byt E p c (L.set k v)).p w' s ∧ w'.os = w.os ∧ w'.tape = w.tape ∧ w'.output = w.output ∧ w.heap.size ≤ w'.heap.size ∧ (∀ k, k < w.heap.size → ¬ s k → w'.heap[k]? = w.heap[k]?) := fun s hown => by
      obtain ⟨g, cur, rfl, h4, h5, h6, h7, h8, hgs⟩ := hown
      have hkc : k < cur.size := by omega
      have e0 : at_ (some ⟨g, 0, none⟩) (k * 1) = ⟨g, k, none⟩ := by show (⟨g, 0 + k * 1, none⟩ : Addr) = _; congr 1; omega
      have hcell : w.cell? ⟨g, k, none⟩ = some cur[k] := by simp [World.cell?, h4, hkc]
      have hfro : w.frozen? ⟨g, k, none⟩ = false := by
        simp only [World.frozen?, h4, Bool.and_eq_false_iff, decide_eq_false_iff_not]
        left
        omega
      have hst : (storeVar t (at_ (some ⟨g, 0, none⟩) (k * 1)) (.int .u8 v)).run P w = .ok () (w.setRow g (cur.setIfInBounds k (.int .u8 v))) := by
        have hs1 : (_root_.Go.store (⟨g, k, none⟩ : Addr) (.int .u8 v)).run P w = .ok () (w.setRow g (cur.setIfInBounds k (.int .u8 v))) := by
          rw [run_store P w _ _ _ rfl, hcell]
          simp [hfro, setCell_eq_setRow w g k cur E _ (.int .u8 v) h4]
        have ha0 : (⟨g, k, none⟩ : Addr).add 0 = ⟨g, k, none⟩ := addr_add0 _
        rw [e0]
        simp only [storeVar, Sem.run_bind, run_sizeOf hs, Result.andThen]
        simp only [Value.cells, storeCells, Sem.run_bind, ha0, hs1, Result.andThen]
        rw [if_neg (show ¬ ((#[Value.int .u8 v] : Array Value).size ≠ 1) by simp)]
        simp only [Sem.run_bind, hs1, Result.andThen]
        rfl
      refine ⟨_, hst, ⟨g, cur.setIfInBounds k (.int .u8 v), rfl, by rw [Array.size_setIfInBounds]; exact setRow_heap w g cur _ E _ h4, by rw [List.length_set]; exact h5, h6, by rw [Array.size_setIfInBounds]; exact h7, fun j hj => ?_, hgs⟩, rfl, rfl, rfl, by simp, fun i _ hi => setRow_other w g i _ (fun e => hi ((hgs i).2 e))⟩
      rw [List.length_set] at hj
      by_cases e : j = k
      · subst e
        rw [Array.getElem?_setIfInBounds_self_of_lt hkc, List.getElem!_eq_getElem?_getD, List.getElem?_set_self hj]; rfl
      · rw [Array.getElem?_setIfInBounds_ne (Ne.symm e), h8 j hj, List.getElem!_eq_getElem?_getD, List.getElem!_eq_getElem?_getD, List.getElem?_set_ne (Ne.symm e)]
    obtain ⟨s0, hown⟩ := hw.get hp
    obtain ⟨w', hr', _⟩ := hrow s0 hown
    have hrun' : (execOp a.eval ⟨none, .store t x y, ty, pos, aft, none⟩).run P w = .ok .skip w' := by
      have e0 : (Pure.pure (at_ p (k * 1)) : Sem Addr).run P w = .ok (at_ p (k * 1)) w := rfl
      simp only [execOp, ha.ev hx, ha.ev hy, Instr.storeAt, Instr.sureAddr, Sem.run_bind, e0, Result.andThen, hr']
      rfl
    unfold Oper.wp
    rw [hrun']
    refine hK _ _ (h _ _ ha (hw.turn hp fun s hs => ?_))
    obtain ⟨w2, hr2, h2, g1, g2, g3, g4, g5⟩ := hrow s hs
    rw [hr'] at hr2
    injection hr2 with _ e2
    subst e2
    exact ⟨s, h2, g1, g2, g3, g4, g5, fun k hk => .inl hk⟩
theorem pr_index_byt {x y : Operand} {t : TypeId} {ln k : Nat} {ki : IntKind} (hx : ev F x = some (.slice p ln c)) (hy : ev F y = some (.int ki (k : Int))) (hp : Pick Rs (.byt E p c L) Rs')
    (ht : P.underlying t = some (.slice E)) (hs : sizeB P E = some 1) (hl : ln = L.length) (hk : k < L.length) : PR P n F (HW w0 m Rs) (.indexAddr t x y) (.pointer (some (at_ p (k * 1)))) :=
  pr_indexAddr (byt_rdb hp) ht hs hx hy hl hk
theorem pr_load_byt {x : Operand} {t : TypeId} {k : Nat} (hx : ev F x = some (.pointer (some (at_ p (k * 1))))) (hp : Pick Rs (.byt E p c L) Rs') (hk : k < L.length) (ht : isAggB P t = some false) : PR P n F (HW w0 m Rs) (.load t x) (.int .u8 L[k]!) :=
  pr_load_sl1 (byt_rdb hp) hk ht hx rfl
/-- an array that is a block, as a slice -/
theorem pr_slice_arr {C : World → Prop} {x : Operand} {t e : TypeId} {len b sz : Nat} (hx : ev F x = some (.pointer (some ⟨b, 0, none⟩))) (ht : P.underlying t = some (.array len e)) (hs : sizeB P e = some sz) :
    PR P n F C (.slice t x none none none) (.slice (some ⟨b, 0, none⟩) len len) := fun _ _ _ _ _ a w ha hC => by
  have hr : ∀ w, (underlying t).run P w = .ok (.array len e) w := fun w => by simp only [underlying, program, bind, Sem.bind, Sem.run, ht]; rfl
  have hb : (Instr.sliceBounds false len len none none none).run P w = .ok (0, len, len) w := by
    unfold Instr.sliceBounds Instr.sliceBound
    simp [pure, Sem.run, bind, Sem.bind]
  have e0 : (Pure.pure (⟨b, 0, none⟩ : Addr) : Sem Addr).run P w = .ok ⟨b, 0, none⟩ w := rfl
  have hz : (if len = 0 then (⟨b, 0, none⟩ : Addr) else (⟨b, 0, none⟩ : Addr).add (0 * sz)) = ⟨b, 0, none⟩ := by
    split
    · rfl
    · rw [Nat.zero_mul]; exact addr_add0 _
  simp only [execOp, ha.ev hx, Option.map_none, Sem.run_bind]
  unfold Instr.sliceAt
  simp only [Sem.run_bind, hr, Result.andThen, Instr.sureAddr, e0, hb, run_sizeOf hs, pure, Sem.run, hz, Nat.sub_zero]
/-- such a slice can be read -/
theorem blk_rdb {b c : Nat} {L : List Int} (hp : Pick Rs (.blk b E (L.map (fun x => Value.int .u8 x))) Rs') (hc : L.length = c) : Rdb (HW w0 m Rs) fb 1 (some ⟨b, 0, none⟩) c L := by
  refine ⟨inferInstance, fun w hw hl => ⟨b, 0, rfl⟩, fun w hw => by omega, fun w hw i j hi hj => ?_⟩
  have hj0 : j = 0 := by omega
  subst hj0
  have hb := hw.blk hp
  show w.cell? ⟨b, 0 + (i * 1 + 0), none⟩ = _
  rw [World.cell_of hb, show 0 + (i * 1 + 0) = i by omega]
  simp [hi, fb]
theorem Pu.ct {f : FuncId} {args : Array Value} {V : Value} (h : Pu P f args V) (m : Mem) : Ct P f args m [] (fun v m' B => v = V ∧ m = m' ∧ B = []) := (h m).mono fun _ _ _ _ ⟨a, b, c⟩ => ⟨a, b.symm, c⟩
end
end Go.J
/- The contracts of labels: names, Check, Value, Same, Small; the document's. -/
set_option linter.unusedSimpArgs false
set_option linter.unusedVariables false
set_option linter.unusedSectionVars false
set_option maxRecDepth 20000
set_option maxHeartbeats 4000000
namespace Go.Proofs.YtecifniognbomaaGreat
open Go Go.J
attribute [local irreducible] At AtQ AtM AtM1 PR Ct Pu Rd Res.blk Res.own Res.ex RVs RV
namespace Lb
theorem digit (c : UInt8) : Pu Tryz.prog 109 #[.int .u8 (bI c)] (.bool (dig c)) := Pu.intro fun m => by
  refine Ct.enterV (by rfl) Tryz.func109 rfl Tryz.ntmps109 rfl (fun w0 Rest => ?_)
  (repeat' (first | refine zss ?_ | refine zs0 ?_ | (refine zsp ?_ ?_ <;> (intro hc; (try simp only [zhcs, reduceCtorEq] at hc); (try (exfalso; first | contradiction | omega | exact absurd rfl hc | exact absurd (by decide) hc))))))
  all_goals ((with_reducible apply At.retB1 (B := [])); exact rfl; exact rfl; exact zml; exact zkp; exact ⟨congrArg Value.bool (by unfold dig; first | (rw [decide_eq_decide]; omega) | (symm; rw [decide_eq_false_iff_not]; omega) | (symm; rw [decide_eq_true_eq]; omega)), rfl, rfl⟩)
theorem sign (c : UInt8) : Pu Tryz.prog 112 #[.int .u8 (bI c)] (.bool (sgn c)) := Pu.intro fun m => by
  have ho := or_let c
  have hd := digit c
  cases h : dig c with
  | true =>
    have h' := of_decide_eq_true h
    rw [h] at hd
    rw [show sgn c = true by unfold sgn; rw [decide_eq_true_eq]; omega]
    refine Ct.enterV (by rfl) Tryz.func112 rfl Tryz.ntmps112 rfl (fun w0 Rest => ?_)
    (repeat' (first | refine zss ?_ | ((first | (with_reducible first | apply At.val | apply AtQ.val)); (exact pr_or (by rfl) (by rfl) rfl); exact rfl) | refine zs0 ?_ | ((with_reducible first | apply AtM1.callp | apply AtQ.callp | apply At.callp); kernel_rfl; exact rfl; exact rfl; exact hd) | (refine zsp ?_ ?_ <;> (intro hc; (try simp only [zhcs, reduceCtorEq] at hc); (try (exfalso; first | contradiction | omega | exact absurd rfl hc | exact absurd (by decide) hc))))))
    all_goals ((with_reducible apply At.retB1 (B := [])); exact rfl; exact rfl; exact zml; exact zkp; exact ⟨rfl, rfl, rfl⟩)
  | false =>
    have h' := of_decide_eq_false h
    rw [h] at hd
    have hs : sgn c = decide ((97 ≤ bits .or .u8 (bI c) 32 ∧ bits .or .u8 (bI c) 32 ≤ 122) ∨ bI c = 95) := by unfold sgn; rw [decide_eq_decide]; omega
    obtain ⟨o, eo⟩ : ∃ o, bits .or .u8 (bI c) 32 = o := ⟨_, rfl⟩
    rw [hs, eo]
    refine Ct.enterV (by rfl) Tryz.func112 rfl Tryz.ntmps112 rfl (fun w0 Rest => ?_)
    (repeat' (first | refine zss ?_ | ((first | (with_reducible first | apply At.val | apply AtQ.val)); (exact pr_or (by rfl) (by rfl) eo); exact rfl) | refine zs0 ?_ | ((with_reducible first | apply AtM1.callp | apply AtQ.callp | apply At.callp); kernel_rfl; exact rfl; exact rfl; exact hd) | (refine zsp ?_ ?_ <;> (intro hc; (try simp only [zhcs, reduceCtorEq] at hc); (try (exfalso; first | contradiction | omega | exact absurd rfl hc | exact absurd (by decide) hc))))))
    all_goals ((with_reducible apply At.retB1 (B := [])); exact rfl; exact rfl; exact zml; exact zkp; exact ⟨congrArg Value.bool (by first | (rw [decide_eq_decide]; omega) | (symm; rw [decide_eq_false_iff_not]; omega) | (symm; rw [decide_eq_true_eq]; omega)), rfl, rfl⟩)
theorem name1 (c : UInt8) : Pu Tryz.prog 111 #[.int .u8 (bI c)] (.bool (!sgn c)) := Pu.intro fun m => by
  refine Ct.enterV (by rfl) Tryz.func111 rfl Tryz.ntmps111 rfl (fun w0 Rest => ?_)
  (repeat' (first | refine zss ?_ | refine zs0 ?_ | ((with_reducible first | apply AtM1.callp | apply AtQ.callp | apply At.callp); kernel_rfl; exact rfl; exact rfl; exact sign c) | (refine zsp ?_ ?_ <;> (intro hc; (try simp only [zhcs, reduceCtorEq] at hc); (try (exfalso; first | contradiction | omega | exact absurd rfl hc | exact absurd (by decide) hc))))))
  all_goals ((with_reducible apply At.retB1 (B := [])); exact rfl; exact rfl; exact zml; exact zkp; exact ⟨rfl, rfl, rfl⟩)
theorem map_get {l : List UInt8} {s : Nat} (h : s < l.length) : (l.map bI)[s]! = bI (l[s]!) := by
  rw [getElem!_pos _ s (by rw [List.length_map]; exact h), getElem!_pos l s h, List.getElem_map]
theorem indexN {m : Mem} (p : Option Addr) (c : Nat) (l : List UInt8) (hl : l.length ≤ 1000000) (sl0 : Sl m fb 1 p c (l.map bI)) :
    Ct Tryz.prog 121 #[.slice p (l.map bI).length c, .func (.func 111) #[] #[]] m [] (fun r m' B => m = m' ∧ B = [] ∧ ∃ k : Int, r = .int .i64 k ∧ (0 ≤ k ↔ ¬ ∀ i, i < l.length → sgn (l[i]!) = true)) := by
  have hml : (l.map bI).length = l.length := by simp
  refine Ct.enterV (by rfl) Tryz.func121 rfl Tryz.ntmps121 rfl (fun w0 Rest => ?_)
  (repeat' (first | refine zss ?_ | refine zsM ?_ | (refine zsp ?_ ?_ <;> (intro hc; (try simp only [zhcs, reduceCtorEq] at hc); (try (exfalso; first | contradiction | omega | exact absurd rfl hc | exact absurd (by decide) hc))))))
  (refine At.loopk (σ := Nat) [0, 1, 7] (fun s F0 => (8, .int .i64 (s : Int)) :: F0) (fun s => m) (fun s => Rest) (fun s => s ≤ l.length ∧ ∀ i, i < s → sgn (l[i]!) = true) (fun s => l.length - s) 0 (by rfl) ?_ zsubs zml zente ?_)
  · exact ⟨Nat.zero_le _, fun i h => absurd h (Nat.not_lt_zero i)⟩
  rintro s ⟨hs, hn⟩
  by_cases h : s < l.length
  · have hg : (l.map bI)[s]! = bI (l[s]!) := map_get h
    have hlp := name1 (l[s]!)
    rw [← hg] at hlp
    cases e : sgn (l[s]!) with
    | false =>
      rw [e, Bool.not_false] at hlp
      (repeat' (first | refine zss ?_ | refine zsM ?_ | ((with_reducible apply At.callf); exact rfl; kernel_rfl; exact rfl; exact rfl; exact Pu.ct hlp _; exact ztk; rintro v' m' B' hm' ⟨rfl, rfl, rfl⟩; (try replace sl0 := sl0.mono hm')) | (refine zsp ?_ ?_ <;> (intro hc; (try simp only [zhcs, reduceCtorEq] at hc); (try (exfalso; first | omega | contradiction | omega | exact absurd rfl hc | exact absurd (by decide) hc))))))
      all_goals ((with_reducible apply At.retB1 (B := [])); exact rfl; exact rfl; exact zml; exact zkp; exact ⟨rfl, rfl, _, rfl, ⟨fun _ hh => absurd ((hh s h).symm.trans e) (by decide), fun _ => by omega⟩⟩)
    | true =>
      rw [e, Bool.not_true] at hlp
      have hnn : ∀ i, i < s + 1 → sgn (l[i]!) = true := fun i hi => by
        by_cases e1 : i = s
        · subst e1; exact e
        · exact hn i (by omega)
      (repeat' (first | refine zss ?_ | refine zsM ?_ | ((with_reducible apply At.callf); exact rfl; kernel_rfl; exact rfl; exact rfl; exact Pu.ct hlp _; exact ztk; rintro v' m' B' hm' ⟨rfl, rfl, rfl⟩; (try replace sl0 := sl0.mono hm')) | (refine zsp ?_ ?_ <;> (intro hc; (try simp only [zhcs, reduceCtorEq] at hc); (try (exfalso; first | omega | contradiction | omega | exact absurd rfl hc | exact absurd (by decide) hc))))))
      all_goals ((with_reducible refine At.reachk ((s + 1)) ?_ ?_ ?_ ?_); exact zsubs; exact zml; exact zente; exact ⟨⟨h, hnn⟩, by omega⟩)
  · (repeat' (first | refine zss ?_ | refine zsM ?_ | (refine zsp ?_ ?_ <;> (intro hc; (try simp only [zhcs, reduceCtorEq] at hc); (try (exfalso; first | omega | contradiction | omega | exact absurd rfl hc | exact absurd (by decide) hc))))))
    all_goals ((with_reducible apply At.retB1 (B := [])); exact rfl; exact rfl; exact zml; exact zkp; exact ⟨rfl, rfl, _, rfl, ⟨fun hh => absurd hh (by decide), fun hh => absurd (fun i hi => hn i (by omega)) hh⟩⟩)
theorem containsN {m : Mem} (p : Option Addr) (c : Nat) (l : List UInt8) (hl : l.length ≤ 1000000) (sl0 : Sl m fb 1 p c (l.map bI)) :
    Rd Tryz.prog 110 #[.slice p (l.map bI).length c, .func (.func 111) #[] #[]] m [] (.bool (!decide (∀ i, i < l.length → sgn (l[i]!) = true))) := by
  unfold Rd
  refine Ct.enterV (by rfl) Tryz.func110 rfl Tryz.ntmps110 rfl (fun w0 Rest => ?_)
  (repeat' (first | refine zss ?_ | refine zsM ?_ | ((with_reducible first | apply At.c1 | apply At.c0); exact rfl; exact rfl; exact indexN p c l hl sl0; exact ztk; kernel_rfl; rintro v' m' B' hm' ⟨rfl, rfl, k, rfl, hk⟩; (try replace sl0 := sl0.mono hm'); (try (have hq0 : hm' = Mem.le_refl _ := rfl; clear hq0 hm'))) | (refine zsp ?_ ?_ <;> (intro hc; (try simp only [zhcs, reduceCtorEq] at hc); (try (exfalso; first | contradiction | omega | exact absurd rfl hc | exact absurd (by decide) hc))))))
  all_goals ((with_reducible apply At.retB1 (B := [])); exact rfl; exact rfl; exact zml; exact zkp; exact ⟨congrArg Value.bool (by rw [← decide_not, decide_eq_decide]; exact hk), rfl, rfl⟩)
theorem name (s : List UInt8) : Pu Tryz.prog 99 #[.string (str s)] (.bool (nameB s)) := by
  by_cases h0 : s = []
  · subst h0
    refine Pu.intro fun m => ?_
    refine Ct.enterV (by rfl) Tryz.func99 rfl Tryz.ntmps99 rfl (fun w0 Rest => ?_)
    (repeat' (first | refine zss ?_ | refine zs0 ?_ | (refine zsp ?_ ?_ <;> (intro hc; (try simp only [zhcs, reduceCtorEq] at hc); (try (exfalso; first | contradiction | omega | exact absurd rfl hc | exact absurd (by decide) hc))))))
    all_goals ((with_reducible apply At.retB1 (B := [])); exact rfl; exact rfl; exact zml; exact zkp; exact ⟨rfl, rfl, rfl⟩)
  have hl0 : 1 ≤ s.length := by cases s with
    | nil => exact absurd rfl h0
    | cons x s => simp
  have hs0 : str s ≠ str [] := fun e => h0 (str_inj.1 e)
  by_cases h1 : s.length ≤ 64
  · have hd := digit (s[0]!)
    cases e : dig (s[0]!) with
    | true =>
      rw [e] at hd
      rw [nameB_no fun k => absurd (k.2.2.1.symm.trans e) (by decide)]
      refine Pu.intro fun m => ?_
      refine Ct.enterV (by rfl) Tryz.func99 rfl Tryz.ntmps99 rfl (fun w0 Rest => ?_)
      (repeat' (first | refine zss ?_ | refine zs0 ?_ | ((with_reducible first | apply AtM1.callp | apply AtQ.callp | apply At.callp); kernel_rfl; exact rfl; exact rfl; exact hd) | (refine zsp ?_ ?_ <;> (intro hc; (try simp only [zhcs, reduceCtorEq] at hc); (try (exfalso; first | (first | omega | exact absurd hc hs0) | contradiction | omega | exact absurd rfl hc | exact absurd (by decide) hc))))))
      all_goals ((with_reducible apply At.retB1 (B := [])); exact rfl; exact rfl; exact zml; exact zkp; exact ⟨rfl, rfl, rfl⟩)
    | false =>
      rw [e] at hd
      have hv : nameB s = decide (∀ i, i < s.length → sgn (s[i]!) = true) := by unfold nameB; rw [decide_eq_decide]; exact ⟨fun k => k.2.2.2, fun k => ⟨hl0, h1, e, k⟩⟩
      rw [hv]
      have hq : (!(!decide (∀ i, i < s.length → sgn (s[i]!) = true))) = decide (∀ i, i < s.length → sgn (s[i]!) = true) := Bool.not_not _
      refine Pu.of_le fun m => ?_
      have hle : m.le m := Mem.le_refl m
      refine Ct.enterV (by rfl) Tryz.func99 rfl Tryz.ntmps99 rfl (fun w0 Rest => ?_)
      (repeat' (first | refine zss ?_ | refine zsM ?_ | ((with_reducible first | apply AtM1.callp | apply AtQ.callp | apply At.callp); kernel_rfl; exact rfl; exact rfl; exact hd) | ((with_reducible apply At.str_bytes); (iterate 4 exact rfl); exact zom; exact rfl; intro p' c' m' hm' sl1; skip) | ((with_reducible first | apply AtM1.cr | apply AtQ.cr | apply At.cr); exact rfl; exact rfl; exact fun _ hmm => containsN _ _ s (by omega) (sl1.mono hmm); exact ztk; kernel_rfl) | (refine zsp ?_ ?_ <;> (intro hc; (try simp only [zhcs, reduceCtorEq] at hc); (try (exfalso; first | (first | omega | exact absurd hc hs0) | contradiction | omega | exact absurd rfl hc | exact absurd (by decide) hc))))))
      all_goals ((with_reducible apply At.retB1 (B := [])); exact rfl; exact rfl; exact zml; exact zkp; exact ⟨congrArg Value.bool hq, by assumption, rfl⟩)
  · rw [nameB_no fun k => by omega]
    refine Pu.intro fun m => ?_
    refine Ct.enterV (by rfl) Tryz.func99 rfl Tryz.ntmps99 rfl (fun w0 Rest => ?_)
    (repeat' (first | refine zss ?_ | refine zs0 ?_ | (refine zsp ?_ ?_ <;> (intro hc; (try simp only [zhcs, reduceCtorEq] at hc); (try (exfalso; first | (first | omega | exact absurd hc hs0) | contradiction | omega | exact absurd rfl hc | exact absurd (by decide) hc))))))
    all_goals ((with_reducible apply At.retB1 (B := [])); exact rfl; exact rfl; exact zml; exact zkp; exact ⟨rfl, rfl, rfl⟩)
theorem rname (tx : List UInt8) : Pu Tryz.prog 77 #[.string (str tx)] (.bool (nameB tx)) := by
  refine Pu.intro fun m => ?_
  by_cases h1 : 1 ≤ tx.length ∧ tx.length ≤ 64
  · cases e : dig (tx[0]!) with
    | true =>
      have e' := of_decide_eq_true e
      rw [nameB_no fun k => absurd (k.2.2.1.symm.trans e) (by decide)]
      refine Ct.enterV (by rfl) Tryz.func77 rfl Tryz.ntmps77 rfl (fun w0 Rest => ?_)
      (repeat' (first | refine zss ?_ | refine zs0 ?_ | (refine zsp ?_ ?_ <;> (intro hc; (try simp only [zhcs, reduceCtorEq] at hc); (try (exfalso; first | omega | contradiction | omega | exact absurd rfl hc | exact absurd (by decide) hc))))))
      all_goals ((with_reducible apply At.retB1 (B := [])); exact rfl; exact rfl; exact zml; exact zkp; exact ⟨rfl, rfl, rfl⟩)
    | false =>
      have e' := of_decide_eq_false e
      refine Ct.enterV (by rfl) Tryz.func77 rfl Tryz.ntmps77 rfl (fun w0 Rest => ?_)
      (repeat' (first | refine zss ?_ | refine zs0 ?_ | (refine zsp ?_ ?_ <;> (intro hc; (try simp only [zhcs, reduceCtorEq] at hc); (try (exfalso; first | omega | contradiction | omega | exact absurd rfl hc | exact absurd (by decide) hc))))))
      all_goals
        (refine At.loopk (σ := Nat) [0] (fun s F0 => (3, .int .i64 (s : Int)) :: F0) (fun s => m) (fun s => Rest) (fun s => s ≤ tx.length ∧ ∀ i, i < s → sgn (tx[i]!) = true) (fun s => tx.length - s) 0 (by rfl) ?_ zsubs zml zente ?_)
        · exact ⟨Nat.zero_le _, fun i h => absurd h (Nat.not_lt_zero i)⟩
        rintro j ⟨hj, hn⟩
        by_cases h : j < tx.length
        · cases hk : sgn (tx[j]!) with
          | true =>
            have hk' := of_decide_eq_true hk
            (repeat' (first | refine zss ?_ | refine zs0 ?_ | (refine zsp ?_ ?_ <;> (intro hc; (try simp only [zhcs, reduceCtorEq] at hc); (try (exfalso; first | omega | contradiction | omega | exact absurd rfl hc | exact absurd (by decide) hc))))))
            all_goals ((with_reducible refine At.reachk ((j + 1)) ?_ ?_ ?_ ?_); exact zsubs; exact zml; exact zente; exact ⟨⟨h, fun i hi => by
              by_cases e1 : i = j
              · subst e1; exact hk
              · exact hn i (by omega)⟩, by omega⟩)
          | false =>
            have hk' := of_decide_eq_false hk
            rw [nameB_no fun k => absurd ((k.2.2.2 j h).symm.trans hk) (by decide)]
            (repeat' (first | refine zss ?_ | refine zs0 ?_ | (refine zsp ?_ ?_ <;> (intro hc; (try simp only [zhcs, reduceCtorEq] at hc); (try (exfalso; first | omega | contradiction | omega | exact absurd rfl hc | exact absurd (by decide) hc))))))
            all_goals ((with_reducible apply At.retB1 (B := [])); exact rfl; exact rfl; exact zml; exact zkp; exact ⟨rfl, rfl, rfl⟩)
        · rw [show nameB tx = true from decide_eq_true ⟨h1.1, h1.2, e, fun i hi => hn i (by omega)⟩]
          (repeat' (first | refine zss ?_ | refine zs0 ?_ | (refine zsp ?_ ?_ <;> (intro hc; (try simp only [zhcs, reduceCtorEq] at hc); (try (exfalso; first | omega | contradiction | omega | exact absurd rfl hc | exact absurd (by decide) hc))))))
          all_goals ((with_reducible apply At.retB1 (B := [])); exact rfl; exact rfl; exact zml; exact zkp; exact ⟨rfl, rfl, rfl⟩)
  · rw [nameB_no fun k => h1 ⟨k.1, k.2.1⟩]
    refine Ct.enterV (by rfl) Tryz.func77 rfl Tryz.ntmps77 rfl (fun w0 Rest => ?_)
    (repeat' (first | refine zss ?_ | refine zs0 ?_ | (refine zsp ?_ ?_ <;> (intro hc; (try simp only [zhcs, reduceCtorEq] at hc); (try (exfalso; first | omega | contradiction | omega | exact absurd rfl hc | exact absurd (by decide) hc))))))
    all_goals ((with_reducible apply At.retB1 (B := [])); exact rfl; exact rfl; exact zml; exact zkp; exact ⟨rfl, rfl, rfl⟩)
end Lb
end Go.Proofs.YtecifniognbomaaGreat
/- The contracts of labels: Check, Value, Same, Small; the document's. -/
set_option linter.unusedSimpArgs false
set_option linter.unusedVariables false
set_option linter.unusedSectionVars false
set_option maxRecDepth 20000
set_option maxHeartbeats 4000000
namespace Go.Proofs.YtecifniognbomaaGreat
open Go Go.J
attribute [local irreducible] At AtQ AtM AtM1 PR Ct Pu Rd Res.blk Res.own Res.ex RVs RV
namespace Lb
/-- texts no longer than any can be -/
def Mid (l : List Lab) : Prop := ∀ i, i < l.length → l[i]!.n.length ≤ 1000000000000 ∧ l[i]!.v.length ≤ 1000000000000
theorem check {m : Mem} (p : Option Addr) (c : Nat) (l : List Lab) (hb : Mid l) (sl0 : Sl m cells 2 p c l) :
    Rd Tryz.prog 85 #[.slice p l.length c] m [] (.int .i64 (chk l)) := by
  unfold Rd
  by_cases hlen : l.length < 1 ∨ 16 < l.length
  · rw [bad_len hlen]
    refine Ct.enterV (by rfl) Tryz.func85 rfl Tryz.ntmps85 rfl (fun w0 Rest => ?_)
    (repeat' (first | refine zss ?_ | refine zsM ?_ | ((with_reducible apply At.alloc (d := 5)); exact rfl; exact rfl; intro b5) | (refine zsp ?_ ?_ <;> (intro hc; (try simp only [zhcs, reduceCtorEq] at hc); (try (exfalso; first | omega | contradiction | omega | exact absurd rfl hc | exact absurd (by decide) hc))))))
    all_goals ((with_reducible apply At.retB1 (B := [])); exact rfl; exact rfl; exact zml; exact zkp; exact ⟨rfl, rfl, rfl⟩)
  refine Ct.enterV (by rfl) Tryz.func85 rfl Tryz.ntmps85 rfl (fun w0 Rest => ?_)
  (repeat' (first | refine zss ?_ | refine zsM ?_ | ((with_reducible apply At.alloc (d := 5)); exact rfl; exact rfl; intro b5) | (refine zsp ?_ ?_ <;> (intro hc; (try simp only [zhcs, reduceCtorEq] at hc); (try (exfalso; first | omega | contradiction | omega | exact absurd rfl hc | exact absurd (by decide) hc))))))
  all_goals
    (refine At.loopk (σ := Nat) [0, 14, 15] (fun s F0 => (3, .int .i64 (256 - (tot (l.take s) : Int))) :: (16, .int .i64 (s : Int)) :: F0) (fun s => m) (fun s => Rest) (fun s => s ≤ l.length ∧ (∀ i, i < s → okAt l i = true) ∧ tot (l.take s) ≤ 256) (fun s => l.length - s) 0 (by rfl) ?_ zsubs zml zente ?_)
    · exact ⟨Nat.zero_le _, fun i h => absurd h (Nat.not_lt_zero i), by simp [tot]⟩
    rintro j ⟨hj, hn, ht⟩
    by_cases h : j < l.length
    · have hp := name (l[j]!.n)
      have hb1 := (hb j h).1
      have hb2 := (hb j h).2
      have htt := tot_take h
      cases e1 : nameB l[j]!.n with
      | false =>
        rw [e1] at hp
        rw [bad_at h fun k => absurd (k.1.symm.trans e1) (by decide)]
        (repeat' (first | refine zss ?_ | refine zsM ?_ | ((with_reducible first | apply AtM1.callp | apply AtQ.callp | apply At.callp); kernel_rfl; exact rfl; exact rfl; exact hp) | ((with_reducible apply At.alloc (d := 5)); exact rfl; exact rfl; intro b5) | (refine zsp ?_ ?_ <;> (intro hc; (try simp only [zhcs, reduceCtorEq] at hc); (try (exfalso; first | omega | contradiction | omega | exact absurd rfl hc | exact absurd (by decide) hc))))))
        all_goals ((with_reducible apply At.retB1 (B := [])); exact rfl; exact rfl; exact zml; exact zkp; exact ⟨rfl, rfl, rfl⟩)
      | true =>
        rw [e1] at hp
        by_cases e2 : l[j]!.v.length ≤ 128
        · by_cases e3 : tot (l.take (j + 1)) ≤ 256
          · cases j with
            | zero =>
              (repeat' (first | refine zss ?_ | refine zsM ?_ | ((with_reducible first | apply AtM1.callp | apply AtQ.callp | apply At.callp); kernel_rfl; exact rfl; exact rfl; exact hp) | ((with_reducible apply At.alloc (d := 5)); exact rfl; exact rfl; intro b5) | (refine zsp ?_ ?_ <;> (intro hc; (try simp only [zhcs, reduceCtorEq] at hc); (try (exfalso; first | omega | contradiction | omega | exact absurd rfl hc | exact absurd (by decide) hc))))))
              all_goals ((with_reducible refine At.reachk ((0 + 1)) ?_ ?_ ?_ ?_); exact zsubs; exact zml; exact zente; exact ⟨⟨h, fun i hi => by
                obtain rfl : i = 0 := by omega
                exact decide_eq_true ⟨e1, e2, fun k => absurd k (Nat.lt_irrefl 0)⟩, e3⟩, by omega⟩)
            | succ k =>
              have hw : IntKind.wrap .i64 (((k + 1 : Nat) : Int) - 1) = (k : Int) := by rw [show ((k + 1 : Nat) : Int) - 1 = (k : Int) by omega]; exact IntWalk.i64_in _ (by omega)
              cases e4 : ltB l[k]!.n l[k + 1]!.n with
              | true =>
                (repeat' (first | refine zss ?_ | ((first | (with_reducible first | apply At.val | apply AtQ.val)); (first | exact pr_sub (by rfl) (by rfl) hw | exact pr_strgeq (by rfl) (by rfl) e4); exact rfl) | refine zsM ?_ | ((with_reducible first | apply AtM1.callp | apply AtQ.callp | apply At.callp); kernel_rfl; exact rfl; exact rfl; exact hp) | ((with_reducible apply At.alloc (d := 5)); exact rfl; exact rfl; intro b5) | (refine zsp ?_ ?_ <;> (intro hc; (try simp only [zhcs, reduceCtorEq] at hc); (try (exfalso; first | omega | contradiction | omega | exact absurd rfl hc | exact absurd (by decide) hc))))))
                all_goals ((with_reducible refine At.reachk ((k + 1 + 1)) ?_ ?_ ?_ ?_); exact zsubs; exact zml; exact zente; exact ⟨⟨h, fun i hi => by
                  by_cases e : i = k + 1
                  · subst e; exact decide_eq_true ⟨e1, e2, fun _ => e4⟩
                  · exact hn i (by omega), e3⟩, by omega⟩)
              | false =>
                rw [bad_at h fun q => absurd ((q.2.2 (by omega)).symm.trans e4) (by decide)]
                (repeat' (first | refine zss ?_ | ((first | (with_reducible first | apply At.val | apply AtQ.val)); (first | exact pr_sub (by rfl) (by rfl) hw | exact pr_strgeq (by rfl) (by rfl) e4); exact rfl) | refine zsM ?_ | ((with_reducible first | apply AtM1.callp | apply AtQ.callp | apply At.callp); kernel_rfl; exact rfl; exact rfl; exact hp) | ((with_reducible apply At.alloc (d := 5)); exact rfl; exact rfl; intro b5) | (refine zsp ?_ ?_ <;> (intro hc; (try simp only [zhcs, reduceCtorEq] at hc); (try (exfalso; first | omega | contradiction | omega | exact absurd rfl hc | exact absurd (by decide) hc))))))
                all_goals ((with_reducible apply At.retB1 (B := [])); exact rfl; exact rfl; exact zml; exact zkp; exact ⟨rfl, rfl, rfl⟩)
          · rw [bad_tot (show 256 < tot (l.take (j + 1)) by omega)]
            (repeat' (first | refine zss ?_ | refine zsM ?_ | ((with_reducible first | apply AtM1.callp | apply AtQ.callp | apply At.callp); kernel_rfl; exact rfl; exact rfl; exact hp) | ((with_reducible apply At.alloc (d := 5)); exact rfl; exact rfl; intro b5) | (refine zsp ?_ ?_ <;> (intro hc; (try simp only [zhcs, reduceCtorEq] at hc); (try (exfalso; first | omega | contradiction | omega | exact absurd rfl hc | exact absurd (by decide) hc))))))
            all_goals ((with_reducible apply At.retB1 (B := [])); exact rfl; exact rfl; exact zml; exact zkp; exact ⟨rfl, rfl, rfl⟩)
        · rw [bad_at h fun k => e2 k.2.1]
          (repeat' (first | refine zss ?_ | refine zsM ?_ | ((with_reducible first | apply AtM1.callp | apply AtQ.callp | apply At.callp); kernel_rfl; exact rfl; exact rfl; exact hp) | ((with_reducible apply At.alloc (d := 5)); exact rfl; exact rfl; intro b5) | (refine zsp ?_ ?_ <;> (intro hc; (try simp only [zhcs, reduceCtorEq] at hc); (try (exfalso; first | omega | contradiction | omega | exact absurd rfl hc | exact absurd (by decide) hc))))))
          all_goals ((with_reducible apply At.retB1 (B := [])); exact rfl; exact rfl; exact zml; exact zkp; exact ⟨rfl, rfl, rfl⟩)
    · have hlj : l.take j = l := List.take_of_length_le (by omega)
      rw [chk_ok ⟨by omega, by omega, fun i hi => hn i (by omega), by rw [← hlj]; exact ht⟩]
      (repeat' (first | refine zss ?_ | refine zsM ?_ | ((with_reducible apply At.alloc (d := 5)); exact rfl; exact rfl; intro b5) | (refine zsp ?_ ?_ <;> (intro hc; (try simp only [zhcs, reduceCtorEq] at hc); (try (exfalso; first | omega | contradiction | omega | exact absurd rfl hc | exact absurd (by decide) hc))))))
      all_goals ((with_reducible apply At.retB1 (B := [])); exact rfl; exact rfl; exact zml; exact zkp; exact ⟨rfl, rfl, rfl⟩)
theorem rcheck {m : Mem} (p : Option Addr) (c : Nat) (l : List Lab) (hb : Mid l) (sl0 : Sl m cells 2 p c l) :
    Rd Tryz.prog 59 #[.slice p l.length c] m [] (.int .i64 (chk l)) := by
  unfold Rd
  by_cases hlen : l.length < 1 ∨ 16 < l.length
  · rw [bad_len hlen]
    refine Ct.enterV (by rfl) Tryz.func59 rfl Tryz.ntmps59 rfl (fun w0 Rest => ?_)
    (repeat' (first | refine zss ?_ | refine zsM ?_ | ((with_reducible apply At.alloc (d := 5)); exact rfl; exact rfl; intro b5) | (refine zsp ?_ ?_ <;> (intro hc; (try simp only [zhcs, reduceCtorEq] at hc); (try (exfalso; first | omega | contradiction | omega | exact absurd rfl hc | exact absurd (by decide) hc))))))
    all_goals ((with_reducible apply At.retB1 (B := [])); exact rfl; exact rfl; exact zml; exact zkp; exact ⟨rfl, rfl, rfl⟩)
  refine Ct.enterV (by rfl) Tryz.func59 rfl Tryz.ntmps59 rfl (fun w0 Rest => ?_)
  (repeat' (first | refine zss ?_ | refine zsM ?_ | ((with_reducible apply At.alloc (d := 5)); exact rfl; exact rfl; intro b5) | (refine zsp ?_ ?_ <;> (intro hc; (try simp only [zhcs, reduceCtorEq] at hc); (try (exfalso; first | omega | contradiction | omega | exact absurd rfl hc | exact absurd (by decide) hc))))))
  all_goals
    (refine At.loopk (σ := Nat) [0, 14, 15] (fun s F0 => (3, .int .i64 (tot (l.take s) : Int)) :: (16, .int .i64 (s : Int)) :: F0) (fun s => m) (fun s => Rest) (fun s => s ≤ l.length ∧ (∀ i, i < s → okAt l i = true) ∧ tot (l.take s) ≤ 200 * s) (fun s => l.length - s) 0 (by rfl) ?_ zsubs zml zente ?_)
    · exact ⟨Nat.zero_le _, fun i h => absurd h (Nat.not_lt_zero i), by simp [tot]⟩
    rintro j ⟨hj, hn, ht⟩
    by_cases h : j < l.length
    · have hp := rname (l[j]!.n)
      have hb1 := (hb j h).1
      have hb2 := (hb j h).2
      have htt := tot_take h
      cases e1 : nameB l[j]!.n with
      | false =>
        rw [e1] at hp
        rw [bad_at h fun k => absurd (k.1.symm.trans e1) (by decide)]
        (repeat' (first | refine zss ?_ | refine zsM ?_ | ((with_reducible first | apply AtM1.callp | apply AtQ.callp | apply At.callp); kernel_rfl; exact rfl; exact rfl; exact hp) | ((with_reducible apply At.alloc (d := 5)); exact rfl; exact rfl; intro b5) | (refine zsp ?_ ?_ <;> (intro hc; (try simp only [zhcs, reduceCtorEq] at hc); (try (exfalso; first | omega | contradiction | omega | exact absurd rfl hc | exact absurd (by decide) hc))))))
        all_goals ((with_reducible apply At.retB1 (B := [])); exact rfl; exact rfl; exact zml; exact zkp; exact ⟨rfl, rfl, rfl⟩)
      | true =>
        rw [e1] at hp
        have e0 := (of_decide_eq_true e1).2.1
        by_cases e2 : l[j]!.v.length ≤ 128
        · cases j with
          | zero =>
            (repeat' (first | refine zss ?_ | refine zsM ?_ | ((with_reducible first | apply AtM1.callp | apply AtQ.callp | apply At.callp); kernel_rfl; exact rfl; exact rfl; exact hp) | ((with_reducible apply At.alloc (d := 5)); exact rfl; exact rfl; intro b5) | (refine zsp ?_ ?_ <;> (intro hc; (try simp only [zhcs, reduceCtorEq] at hc); (try (exfalso; first | omega | contradiction | omega | exact absurd rfl hc | exact absurd (by decide) hc))))))
            all_goals ((with_reducible refine At.reachk ((0 + 1)) ?_ ?_ ?_ ?_); exact zsubs; exact zml; exact zente; exact ⟨⟨h, fun i hi => by
              obtain rfl : i = 0 := by omega
              exact decide_eq_true ⟨e1, e2, fun k => absurd k (Nat.lt_irrefl 0)⟩, by omega⟩, by omega⟩)
          | succ k =>
            have hw : IntKind.wrap .i64 (((k + 1 : Nat) : Int) - 1) = (k : Int) := by rw [show ((k + 1 : Nat) : Int) - 1 = (k : Int) by omega]; exact IntWalk.i64_in _ (by omega)
            cases e4 : ltB l[k]!.n l[k + 1]!.n with
            | true =>
              (repeat' (first | refine zss ?_ | ((first | (with_reducible first | apply At.val | apply AtQ.val)); (first | exact pr_sub (by rfl) (by rfl) hw | exact pr_strgeq (by rfl) (by rfl) e4); exact rfl) | refine zsM ?_ | ((with_reducible first | apply AtM1.callp | apply AtQ.callp | apply At.callp); kernel_rfl; exact rfl; exact rfl; exact hp) | ((with_reducible apply At.alloc (d := 5)); exact rfl; exact rfl; intro b5) | (refine zsp ?_ ?_ <;> (intro hc; (try simp only [zhcs, reduceCtorEq] at hc); (try (exfalso; first | omega | contradiction | omega | exact absurd rfl hc | exact absurd (by decide) hc))))))
              all_goals ((with_reducible refine At.reachk ((k + 1 + 1)) ?_ ?_ ?_ ?_); exact zsubs; exact zml; exact zente; exact ⟨⟨h, fun i hi => by
                by_cases e : i = k + 1
                · subst e; exact decide_eq_true ⟨e1, e2, fun _ => e4⟩
                · exact hn i (by omega), by omega⟩, by omega⟩)
            | false =>
              rw [bad_at h fun q => absurd ((q.2.2 (by omega)).symm.trans e4) (by decide)]
              (repeat' (first | refine zss ?_ | ((first | (with_reducible first | apply At.val | apply AtQ.val)); (first | exact pr_sub (by rfl) (by rfl) hw | exact pr_strgeq (by rfl) (by rfl) e4); exact rfl) | refine zsM ?_ | ((with_reducible first | apply AtM1.callp | apply AtQ.callp | apply At.callp); kernel_rfl; exact rfl; exact rfl; exact hp) | ((with_reducible apply At.alloc (d := 5)); exact rfl; exact rfl; intro b5) | (refine zsp ?_ ?_ <;> (intro hc; (try simp only [zhcs, reduceCtorEq] at hc); (try (exfalso; first | omega | contradiction | omega | exact absurd rfl hc | exact absurd (by decide) hc))))))
              all_goals ((with_reducible apply At.retB1 (B := [])); exact rfl; exact rfl; exact zml; exact zkp; exact ⟨rfl, rfl, rfl⟩)
        · rw [bad_at h fun k => e2 k.2.1]
          (repeat' (first | refine zss ?_ | refine zsM ?_ | ((with_reducible first | apply AtM1.callp | apply AtQ.callp | apply At.callp); kernel_rfl; exact rfl; exact rfl; exact hp) | ((with_reducible apply At.alloc (d := 5)); exact rfl; exact rfl; intro b5) | (refine zsp ?_ ?_ <;> (intro hc; (try simp only [zhcs, reduceCtorEq] at hc); (try (exfalso; first | omega | contradiction | omega | exact absurd rfl hc | exact absurd (by decide) hc))))))
          all_goals ((with_reducible apply At.retB1 (B := [])); exact rfl; exact rfl; exact zml; exact zkp; exact ⟨rfl, rfl, rfl⟩)
    · have hlj : l.take j = l := List.take_of_length_le (by omega)
      by_cases e3 : tot (l.take j) ≤ 256
      · rw [chk_ok ⟨by omega, by omega, fun i hi => hn i (by omega), by rw [← hlj]; exact e3⟩]
        (repeat' (first | refine zss ?_ | refine zsM ?_ | ((with_reducible apply At.alloc (d := 5)); exact rfl; exact rfl; intro b5) | (refine zsp ?_ ?_ <;> (intro hc; (try simp only [zhcs, reduceCtorEq] at hc); (try (exfalso; first | omega | contradiction | omega | exact absurd rfl hc | exact absurd (by decide) hc))))))
        all_goals ((with_reducible apply At.retB1 (B := [])); exact rfl; exact rfl; exact zml; exact zkp; exact ⟨rfl, rfl, rfl⟩)
      · rw [bad_tot (show 256 < tot (l.take j) by omega)]
        (repeat' (first | refine zss ?_ | refine zsM ?_ | ((with_reducible apply At.alloc (d := 5)); exact rfl; exact rfl; intro b5) | (refine zsp ?_ ?_ <;> (intro hc; (try simp only [zhcs, reduceCtorEq] at hc); (try (exfalso; first | omega | contradiction | omega | exact absurd rfl hc | exact absurd (by decide) hc))))))
        all_goals ((with_reducible apply At.retB1 (B := [])); exact rfl; exact rfl; exact zml; exact zkp; exact ⟨rfl, rfl, rfl⟩)
abbrev pt (b : Nat) : Value := .pointer (some ⟨b, 0, none⟩)
abbrev bx (b : Nat) (t : List UInt8) : List Res := [.blk b 9 [.string (str t)]]
theorem rsame {m : Mem} (p : Option Addr) (c : Nat) (a : List Lab) (q : Option Addr) (d : Nat) (b : List Lab) (hl : a.length ≤ 1000000000) (hlb : b.length ≤ 1000000000) (sl0 : Sl m cells 2 p c a) (sl1 : Sl m cells 2 q d b) :
    Rd Tryz.prog 44 #[.slice p a.length c, .slice q b.length d] m [] (.bool (decide (a = b))) := by
  unfold Rd
  by_cases hlen : a.length = b.length
  · refine Ct.enterV (by rfl) Tryz.func44 rfl Tryz.ntmps44 rfl (fun w0 Rest => ?_)
    (repeat' (first | refine zss ?_ | refine zsM ?_ | (refine zsp ?_ ?_ <;> (intro hc; (try simp only [zhcs, reduceCtorEq] at hc); (try (exfalso; first | omega | contradiction | omega | exact absurd rfl hc | exact absurd (by decide) hc))))))
    (refine At.loopk (σ := Nat) [0, 1, 12] (fun s F0 => (13, .int .i64 (s : Int)) :: F0) (fun s => m) (fun s => Rest) (fun s => s ≤ a.length ∧ ∀ i, i < s → a[i]! = b[i]!) (fun s => a.length - s) 0 (by rfl) ?_ zsubs zml zente ?_)
    · exact ⟨Nat.zero_le _, fun i h => absurd h (Nat.not_lt_zero i)⟩
    rintro s ⟨hs, hn⟩
    by_cases h : s < a.length
    · by_cases e : a[s]! = b[s]!
      · have hnn : ∀ i, i < s + 1 → a[i]! = b[i]! := fun i hi => by
          by_cases e1 : i = s
          · subst e1; exact e
          · exact hn i (by omega)
        (repeat' (first | refine zss ?_ | ((first | (with_reducible first | apply At.val | apply AtQ.val)); (exact pr_lbne (by rfl) (by rfl)); exact rfl) | refine zsM ?_ | (refine zsp ?_ ?_ <;> (intro hc; (try simp only [zhcs, reduceCtorEq] at hc); (try (exfalso; first | (first | omega | exact absurd e hc) | contradiction | omega | exact absurd rfl hc | exact absurd (by decide) hc))))))
        all_goals ((with_reducible refine At.reachk ((s + 1)) ?_ ?_ ?_ ?_); exact zsubs; exact zml; exact zente; exact ⟨⟨h, hnn⟩, by omega⟩)
      · rw [decide_eq_false (show ¬ a = b from fun h => e (by rw [h]))]
        (repeat' (first | refine zss ?_ | ((first | (with_reducible first | apply At.val | apply AtQ.val)); (exact pr_lbne (by rfl) (by rfl)); exact rfl) | refine zsM ?_ | (refine zsp ?_ ?_ <;> (intro hc; (try simp only [zhcs, reduceCtorEq] at hc); (try (exfalso; first | (first | omega | exact absurd hc e) | contradiction | omega | exact absurd rfl hc | exact absurd (by decide) hc))))))
        all_goals ((with_reducible apply At.retB1 (B := [])); exact rfl; exact rfl; exact zml; exact zkp; exact ⟨rfl, rfl, rfl⟩)
    · rw [decide_eq_true (show a = b from Ls.ext! hlen fun i hi => hn i (by omega))]
      (repeat' (first | refine zss ?_ | refine zsM ?_ | (refine zsp ?_ ?_ <;> (intro hc; (try simp only [zhcs, reduceCtorEq] at hc); (try (exfalso; first | omega | contradiction | omega | exact absurd rfl hc | exact absurd (by decide) hc))))))
      all_goals ((with_reducible apply At.retB1 (B := [])); exact rfl; exact rfl; exact zml; exact zkp; exact ⟨rfl, rfl, rfl⟩)
  · rw [decide_eq_false (show ¬ a = b from fun h => hlen (by rw [h]))]
    refine Ct.enterV (by rfl) Tryz.func44 rfl Tryz.ntmps44 rfl (fun w0 Rest => ?_)
    (repeat' (first | refine zss ?_ | refine zsM ?_ | (refine zsp ?_ ?_ <;> (intro hc; (try simp only [zhcs, reduceCtorEq] at hc); (try (exfalso; first | omega | contradiction | omega | exact absurd rfl hc | exact absurd (by decide) hc))))))
    all_goals ((with_reducible apply At.retB1 (B := [])); exact rfl; exact rfl; exact zml; exact zkp; exact ⟨rfl, rfl, rfl⟩)
theorem small {m : Mem} (p : Option Addr) (c : Nat) (l : List Lab) (sl0 : Sl m cells 2 p c l) :
    Rd Tryz.prog 20 #[.slice p l.length c] m [] (.int .i64 (if few l then 1 else 0)) := by
  unfold Rd
  refine Ct.enterV (by rfl) Tryz.func20 rfl Tryz.ntmps20 rfl (fun w0 Rest => ?_)
  (repeat' (first | refine zss ?_ | refine zsM ?_ | ((with_reducible apply At.alloc (d := 4)); exact rfl; exact rfl; intro b4) | (refine zsp ?_ ?_ <;> (intro hc; (try simp only [zhcs, reduceCtorEq] at hc); (try (exfalso; first | contradiction | omega | exact absurd rfl hc | exact absurd (by decide) hc))))))
  (refine At.loopk (σ := Nat) [5, 6] (fun s F0 => (7, .int .i64 (s : Int)) :: F0) (fun s => m) (fun s => Rest) (fun s => s ≤ l.length ∧ s ≤ 40 ∧ ∀ i, i < s → l[i]!.n.length ≤ 1000 ∧ l[i]!.v.length ≤ 1000) (fun s => l.length - s) 0 (by rfl) ?_ zsubs zml zente ?_)
  · exact ⟨Nat.zero_le _, Nat.zero_le _, fun i h => absurd h (Nat.not_lt_zero i)⟩
  rintro j ⟨hj, h40, hn⟩
  by_cases h : j < l.length
  · by_cases e0 : j = 40
    · rw [if_neg (show ¬ few l from fun k => by have := k.1; omega)]
      (repeat' (first | refine zss ?_ | refine zsM ?_ | ((with_reducible apply At.alloc (d := 4)); exact rfl; exact rfl; intro b4) | (refine zsp ?_ ?_ <;> (intro hc; (try simp only [zhcs, reduceCtorEq] at hc); (try (exfalso; first | omega | contradiction | omega | exact absurd rfl hc | exact absurd (by decide) hc))))))
      all_goals ((with_reducible apply At.retB1 (B := [])); exact rfl; exact rfl; exact zml; exact zkp; exact ⟨rfl, rfl, rfl⟩)
    by_cases e : l[j]!.n.length ≤ 1000 ∧ l[j]!.v.length ≤ 1000
    · (repeat' (first | refine zss ?_ | refine zsM ?_ | ((with_reducible apply At.alloc (d := 4)); exact rfl; exact rfl; intro b4) | (refine zsp ?_ ?_ <;> (intro hc; (try simp only [zhcs, reduceCtorEq] at hc); (try (exfalso; first | omega | contradiction | omega | exact absurd rfl hc | exact absurd (by decide) hc))))))
      all_goals ((with_reducible refine At.reachk ((j + 1)) ?_ ?_ ?_ ?_); exact zsubs; exact zml; exact zente; exact ⟨⟨h, by omega, fun i hi => by
        by_cases e1 : i = j
        · subst e1; exact e
        · exact hn i (by omega)⟩, by omega⟩)
    · rw [if_neg (show ¬ few l from fun k => e (k.2 j h))]
      (repeat' (first | refine zss ?_ | refine zsM ?_ | ((with_reducible apply At.alloc (d := 4)); exact rfl; exact rfl; intro b4) | (refine zsp ?_ ?_ <;> (intro hc; (try simp only [zhcs, reduceCtorEq] at hc); (try (exfalso; first | omega | contradiction | omega | exact absurd rfl hc | exact absurd (by decide) hc))))))
      all_goals ((with_reducible apply At.retB1 (B := [])); exact rfl; exact rfl; exact zml; exact zkp; exact ⟨rfl, rfl, rfl⟩)
  · rw [if_pos (show few l from ⟨by omega, fun i hi => hn i (by omega)⟩)]
    (repeat' (first | refine zss ?_ | refine zsM ?_ | ((with_reducible apply At.alloc (d := 4)); exact rfl; exact rfl; intro b4) | (refine zsp ?_ ?_ <;> (intro hc; (try simp only [zhcs, reduceCtorEq] at hc); (try (exfalso; first | omega | contradiction | omega | exact absurd rfl hc | exact absurd (by decide) hc))))))
    all_goals ((with_reducible apply At.retB1 (B := [])); exact rfl; exact rfl; exact zml; exact zkp; exact ⟨rfl, rfl, rfl⟩)
theorem Mid.of {l : List Lab} (h : ∀ x ∈ l, x.n.length ≤ 1000000000000 ∧ x.v.length ≤ 1000000000000) : Mid l := fun i hi => h _ (Ls.mem! hi)
theorem few.mid {l : List Lab} (h : few l) : Mid l := fun i hi => by have := h.2 i hi; omega
end Lb
end Go.Proofs.YtecifniognbomaaGreat
/- Configurations: parts, place. -/
set_option linter.unusedSimpArgs false
set_option linter.unusedVariables false
set_option linter.unusedSectionVars false
set_option maxRecDepth 20000
set_option maxHeartbeats 4000000
namespace Go.Proofs.YtecifniognbomaaGreat
open Go Go.J
attribute [local irreducible] At AtQ AtM AtM1 PR Ct Pu Rd Res.blk Res.own Res.ex RVs RV
namespace Conf
abbrev gi : Int → Value := fun x => .int .i64 x
abbrev cv (L : List Int) : Value := .agg (L.map gi).toArray
theorem in_ (n a b : Int) : Pu Tryz.prog 46 #[.int .i64 n, .int .i64 a, .int .i64 b] (.bool (decide (a ≤ n ∧ n ≤ b))) := Pu.intro fun m => by
  refine Ct.enterV (by rfl) Tryz.func46 rfl Tryz.ntmps46 rfl (fun w0 Rest => ?_)
  (repeat' (first | refine zss ?_ | refine zs0 ?_ | (refine zsp ?_ ?_ <;> (intro hc; (try simp only [zhcs, reduceCtorEq] at hc); (try (exfalso; first | contradiction | omega | exact absurd rfl hc | exact absurd (by decide) hc))))))
  all_goals ((with_reducible apply At.retB1 (B := [])); exact rfl; exact rfl; exact zml; exact zkp; exact ⟨congrArg Value.bool (by simp [hc]), rfl, rfl⟩)
theorem in64 (n a b : Int) : Pu Tryz.prog 47 #[.int .i64 n, .int .i64 a, .int .i64 b] (.bool (decide (a ≤ n ∧ n ≤ b))) := Pu.intro fun m => by
  refine Ct.enterV (by rfl) Tryz.func47 rfl Tryz.ntmps47 rfl (fun w0 Rest => ?_)
  (repeat' (first | refine zss ?_ | refine zs0 ?_ | (refine zsp ?_ ?_ <;> (intro hc; (try simp only [zhcs, reduceCtorEq] at hc); (try (exfalso; first | contradiction | omega | exact absurd rfl hc | exact absurd (by decide) hc))))))
  all_goals ((with_reducible apply At.retB1 (B := [])); exact rfl; exact rfl; exact zml; exact zkp; exact ⟨congrArg Value.bool (by simp [hc]), rfl, rfl⟩)
theorem parts (n by_ : Int) (h1 : 1 ≤ n) (h2 : n ≤ 100000) (h3 : 1 ≤ by_) (h4 : by_ ≤ 1000) : Pu Tryz.prog 66 #[.int .i64 n, .int .i64 by_] (.int .i64 ((n + by_ - 1) / by_)) := Pu.intro fun m => by
  refine Ct.enterV (by rfl) Tryz.func66 rfl Tryz.ntmps66 rfl (fun w0 Rest => ?_)
  (repeat' (first | refine zss ?_ | refine zs0 ?_ | (refine zsp ?_ ?_ <;> (intro hc; (try simp only [zhcs, reduceCtorEq] at hc); (try (exfalso; first | omega | contradiction | omega | exact absurd rfl hc | exact absurd (by decide) hc))))))
  all_goals ((with_reducible apply At.retB1 (B := [])); exact rfl; exact rfl; exact zml; exact zkp; exact ⟨rfl, rfl, rfl⟩)
def acc (L : List Int) : Nat → Int
  | 0 => 1 + (L[0]! + 16 - 1) / 16
  | s + 1 => acc L s + (L[4 + s]! + 4 - 1) / 4
def plc (L : List Int) : Int := acc L 3
/-- numbers that may be -/
def okA (L : List Int) (s : Nat) : Prop := (1 ≤ L[0]! ∧ L[0]! ≤ 4096) ∧ (1 ≤ L[7]! ∧ L[7]! ≤ 65536) ∧ (1 ≤ L[8]! ∧ L[8]! ≤ 8192) ∧ ∀ i, i < s → (1 ≤ L[1 + i]! ∧ L[1 + i]! ≤ 1099511627776) ∧ (1 ≤ L[4 + i]! ∧ L[4 + i]! ≤ 4096)
instance (L : List Int) (s : Nat) : Decidable (okA L s) := by unfold okA; infer_instance
theorem okA_succ (L : List Int) (s : Nat) : okA L (s + 1) ↔ okA L s ∧ (1 ≤ L[1 + s]! ∧ L[1 + s]! ≤ 1099511627776) ∧ (1 ≤ L[4 + s]! ∧ L[4 + s]! ≤ 4096) := by
  unfold okA
  constructor
  · rintro ⟨h1, h2, h3, h4⟩
    exact ⟨⟨h1, h2, h3, fun i hi => h4 i (by omega)⟩, h4 s (by omega)⟩
  · rintro ⟨⟨h1, h2, h3, h4⟩, h5⟩
    refine ⟨h1, h2, h3, fun i hi => ?_⟩
    by_cases e : i = s
    · subst e; exact h5
    · exact h4 i (by omega)
theorem place (L : List Int) (hL : L.length = 9) (h : okA L 3) : Pu Tryz.prog 48 #[cv L] (.int .i64 (plc L)) := Pu.intro fun m => by
  obtain ⟨r, a, b, d, x, y, w, c, g, rfl⟩ := nine hL
  obtain ⟨⟨r1, r2⟩, _, _, h4⟩ := h
  obtain ⟨_, x1, x2⟩ := h4 0 (by decide)
  obtain ⟨_, y1, y2⟩ := h4 1 (by decide)
  obtain ⟨_, w1, w2⟩ := h4 2 (by decide)
  replace x1 : 1 ≤ x := x1
  replace x2 : x ≤ 4096 := x2
  replace y1 : 1 ≤ y := y1
  replace y2 : y ≤ 4096 := y2
  replace w1 : 1 ≤ w := w1
  replace w2 : w ≤ 4096 := w2
  replace r1 : 1 ≤ r := r1
  replace r2 : r ≤ 4096 := r2
  have e0 : acc [r, a, b, d, x, y, w, c, g] 0 = 1 + (r + 16 - 1) / 16 := rfl
  have e1 : acc [r, a, b, d, x, y, w, c, g] 1 = acc [r, a, b, d, x, y, w, c, g] 0 + (x + 4 - 1) / 4 := rfl
  have e2 : acc [r, a, b, d, x, y, w, c, g] 2 = acc [r, a, b, d, x, y, w, c, g] 1 + (y + 4 - 1) / 4 := rfl
  have e3 : acc [r, a, b, d, x, y, w, c, g] 3 = acc [r, a, b, d, x, y, w, c, g] 2 + (w + 4 - 1) / 4 := rfl
  have p0 := parts r 16 r1 (by omega) (by decide) (by decide)
  have p1 := parts x 4 x1 (by omega) (by decide) (by decide)
  have p2 := parts y 4 y1 (by omega) (by decide) (by decide)
  have p3 := parts w 4 w1 (by omega) (by decide) (by decide)
  show Ct _ _ _ _ _ (fun v m' B => v = .int .i64 (acc [r, a, b, d, x, y, w, c, g] 3) ∧ _ ∧ _)
  unfold cv
  simp only [List.map]
  refine Ct.enterV (by rfl) Tryz.func48 rfl Tryz.ntmps48 rfl (fun w0 Rest => ?_)
  (repeat' (first | refine zss ?_ | refine zs0 ?_ | ((with_reducible first | apply AtM1.callp | apply AtQ.callp | apply At.callp); kernel_rfl; exact rfl; exact rfl; exact p0) | ((with_reducible apply At.box (d := 1)); exact rfl; exact rfl; exact rfl; intro b1) | (refine zsp ?_ ?_ <;> (intro hc; (try simp only [zhcs, reduceCtorEq] at hc); (try (exfalso; first | omega | contradiction | omega | exact absurd rfl hc | exact absurd (by decide) hc))))))
  trace_state
  (refine At.loopk (σ := Nat) [11] (fun s F0 => (12, .int .i64 (s : Int)) :: (3, .int .i64 (acc [r, a, b, d, x, y, w, c, g] s)) :: F0) (fun s => m) (fun s => .blk b1 25 [gi r, gi a, gi b, gi d, gi x, gi y, gi w, gi c, gi g] :: Rest) (fun s => s ≤ 3) (fun s => 3 - s) 0 (by rfl) ?_ zsubs zml zente ?_)
  · exact Nat.zero_le _
  intro s hs
  rcases (show s = 0 ∨ s = 1 ∨ s = 2 ∨ s = 3 by omega) with rfl | rfl | rfl | rfl
  · (repeat' (first | refine zss ?_ | ((first | (with_reducible first | apply At.val | apply AtQ.val)); (exact pr_index_agg (k := 0) (by rfl) (by rfl) (by rfl) (by rfl) (by rfl) (by rfl) (by rfl)); exact rfl) | refine zs0 ?_ | ((with_reducible first | apply AtM1.callp | apply AtQ.callp | apply At.callp); kernel_rfl; exact rfl; exact rfl; exact p1) | ((with_reducible apply At.box (d := 1)); exact rfl; exact rfl; exact rfl; intro b1) | (refine zsp ?_ ?_ <;> (intro hc; (try simp only [zhcs, reduceCtorEq] at hc); (try (exfalso; first | omega | contradiction | omega | exact absurd rfl hc | exact absurd (by decide) hc))))))
    all_goals ((with_reducible refine At.reachk (1) ?_ ?_ ?_ ?_); exact zsubs; exact zml; exact zente; exact ⟨by decide, by decide⟩)
  · (repeat' (first | refine zss ?_ | ((first | (with_reducible first | apply At.val | apply AtQ.val)); (exact pr_index_agg (k := 1) (by rfl) (by rfl) (by rfl) (by rfl) (by rfl) (by rfl) (by rfl)); exact rfl) | refine zs0 ?_ | ((with_reducible first | apply AtM1.callp | apply AtQ.callp | apply At.callp); kernel_rfl; exact rfl; exact rfl; exact p2) | ((with_reducible apply At.box (d := 1)); exact rfl; exact rfl; exact rfl; intro b1) | (refine zsp ?_ ?_ <;> (intro hc; (try simp only [zhcs, reduceCtorEq] at hc); (try (exfalso; first | omega | contradiction | omega | exact absurd rfl hc | exact absurd (by decide) hc))))))
    all_goals ((with_reducible refine At.reachk (2) ?_ ?_ ?_ ?_); exact zsubs; exact zml; exact zente; exact ⟨by decide, by decide⟩)
  · (repeat' (first | refine zss ?_ | ((first | (with_reducible first | apply At.val | apply AtQ.val)); (exact pr_index_agg (k := 2) (by rfl) (by rfl) (by rfl) (by rfl) (by rfl) (by rfl) (by rfl)); exact rfl) | refine zs0 ?_ | ((with_reducible first | apply AtM1.callp | apply AtQ.callp | apply At.callp); kernel_rfl; exact rfl; exact rfl; exact p3) | ((with_reducible apply At.box (d := 1)); exact rfl; exact rfl; exact rfl; intro b1) | (refine zsp ?_ ?_ <;> (intro hc; (try simp only [zhcs, reduceCtorEq] at hc); (try (exfalso; first | omega | contradiction | omega | exact absurd rfl hc | exact absurd (by decide) hc))))))
    all_goals ((with_reducible refine At.reachk (3) ?_ ?_ ?_ ?_); exact zsubs; exact zml; exact zente; exact ⟨by decide, by decide⟩)
  · (repeat' (first | refine zss ?_ | refine zs0 ?_ | ((with_reducible apply At.box (d := 1)); exact rfl; exact rfl; exact rfl; intro b1) | (refine zsp ?_ ?_ <;> (intro hc; (try simp only [zhcs, reduceCtorEq] at hc); (try (exfalso; first | omega | contradiction | omega | exact absurd rfl hc | exact absurd (by decide) hc))))))
    all_goals ((with_reducible apply At.retB1 (B := [])); exact rfl; exact rfl; exact zml; exact zkp; exact ⟨rfl, rfl, rfl⟩)
end Conf
end Go.Proofs.YtecifniognbomaaGreat

/- Part 5 of what the law's proof needs: rules of the walk, contracts of functions, plain laws. No condition. -/
import Derived.Test.YtkoijdmlehkhbaaGreatDoorQmAWZ4
import Derived.Test.YtkoijdmlehkhbaaGreatDoorRows
set_option linter.unusedSimpArgs false
set_option linter.unusedVariables false
set_option linter.unusedSectionVars false
set_option maxRecDepth 20000
set_option maxHeartbeats 4000000
namespace Go.Proofs.YtkoijdmlehkhbaaGreatDoor
open Go Go.J
attribute [local irreducible] At AtQ AtM AtM1 PR Ct Pu Rd Res.blk Res.own Res.ex RVs RV
structure Ev where
  (T : Int) (V : Nat) (C : Int) (S : Bool)
namespace Ev
open Wide
abbrev cells (e : Ev) : List Value := [.int .i64 e.T, .int .u64 (e.V : Int), .int .i64 e.C, .bool e.S]
abbrev v (e : Ev) : Value := .agg (cells e).toArray
instance : Fl cells 4 := ⟨fun _ => rfl, fun x v h => by simp at h; rcases h with rfl | rfl | rfl | rfl <;> rfl, by decide⟩
def ok (e : Ev) : Prop := 0 ≤ e.T ∧ e.T < 35184372088832 ∧ 0 ≤ e.C ∧ e.C ≤ e.T ∧ (e.S = true → e.V = 0 ∧ e.C = 0)
instance (e : Ev) : Decidable e.ok := by unfold ok; infer_instance
abbrev z : Ev := ⟨0, 0, 0, false⟩
instance : Inhabited Ev := ⟨z⟩
def chk (e : Ev) : Int := if e.ok then 0 else 2
theorem ok_t {e : Ev} (hS : e.S = true) : e.ok ↔ (0 ≤ e.T ∧ e.T < 35184372088832 ∧ e.V = 0 ∧ e.C = 0) := by
  unfold ok; rw [hS]; simp only [true_implies]; omega
theorem ok_f {e : Ev} (hS : e.S = false) : e.ok ↔ (0 ≤ e.T ∧ e.T < 35184372088832 ∧ 0 ≤ e.C ∧ e.C ≤ e.T) := by
  unfold ok; rw [hS]; simp
theorem check (e : Ev) : Pu Tryz.prog 52 #[e.v] (.int .i64 e.chk) := Pu.intro fun m => by
  unfold chk
  cases hS : e.S
  all_goals split
  all_goals rename_i h
  all_goals first | rw [ok_t hS] at h | rw [ok_f hS] at h
  all_goals refine Ct.enterV (by rfl) Tryz.func52 rfl Tryz.ntmps52 rfl (fun w0 Rest => ?_)
  all_goals (repeat' (first | refine zss ?_ | ((first | (with_reducible first | apply At.val | apply AtQ.val)); (exact zprA); exact rfl) | refine zs0 ?_ | ((with_reducible apply At.box (d := 1)); exact rfl; exact rfl; exact rfl; intro b1) | (refine zsp ?_ ?_ <;> (intro hc; (try simp only [zhcs, reduceCtorEq] at hc); (try (exfalso; first | (first | omega | exact absurd (hS.symm.trans hc) (by decide) | (simp [hS] at hc; omega)) | contradiction | omega | exact absurd rfl hc | exact absurd (by decide) hc))))))
  all_goals ((with_reducible apply At.retB1 (B := [])); exact rfl; exact rfl; exact zml; exact zkp; exact ⟨rfl, rfl, rfl⟩)
theorem right {m : Mem} (p : Option Addr) (c : Nat) (l : List Ev) (hl : l.length ≤ 1000000) (sl0 : Sl m cells 4 p c l) :
    Rd Tryz.prog 195 #[.slice p l.length c] m [] (.bool (decide (∀ i, i < l.length → (l[i]!).ok))) := by
  unfold Rd
  refine Ct.enterV (by rfl) Tryz.func195 rfl Tryz.ntmps195 rfl (fun w0 Rest => ?_)
  (repeat' (first | refine zss ?_ | ((first | (with_reducible first | apply At.val | apply AtQ.val)); (exact zprA); exact rfl) | refine zsM ?_ | ((with_reducible apply At.alloc (d := 4)); exact rfl; exact rfl; intro b4) | (refine zsp ?_ ?_ <;> (intro hc; (try simp only [zhcs, reduceCtorEq] at hc); (try (exfalso; first | contradiction | omega | exact absurd rfl hc | exact absurd (by decide) hc))))))
  (refine At.loopk (σ := Nat) [5, 6] (fun s F0 => (7, .int .i64 (s : Int)) :: F0) (fun s => m) (fun s => Rest) (fun s => s ≤ l.length ∧ ∀ i, i < s → (l[i]!).ok) (fun s => l.length - s) 0 (by rfl) ?_ zsubs zml zente ?_)
  · exact ⟨Nat.zero_le _, fun i h => absurd h (Nat.not_lt_zero i)⟩
  rintro s ⟨hs, ha⟩
  by_cases h : s < l.length
  · by_cases ho : (l[s]!).ok
    · have hk := check (l[s]!)
      rw [show (l[s]!).chk = 0 from if_pos ho] at hk
      have hn : ∀ i, i < s + 1 → (l[i]!).ok := fun i hi => by
        by_cases e : i = s
        · subst e; exact ho
        · exact ha i (by omega)
      (repeat' (first | refine zss ?_ | ((first | (with_reducible first | apply At.val | apply AtQ.val)); (exact zprA); exact rfl) | refine zsM ?_ | ((with_reducible first | apply AtM1.callp | apply AtQ.callp | apply At.callp); kernel_rfl; exact rfl; exact rfl; exact hk) | ((with_reducible apply At.alloc (d := 4)); exact rfl; exact rfl; intro b4) | (refine zsp ?_ ?_ <;> (intro hc; (try simp only [zhcs, reduceCtorEq] at hc); (try (exfalso; first | omega | contradiction | omega | exact absurd rfl hc | exact absurd (by decide) hc))))))
      all_goals ((with_reducible refine At.reachk ((s + 1)) ?_ ?_ ?_ ?_); exact zsubs; exact zml; exact zente; exact ⟨⟨h, hn⟩, by omega⟩)
    · have hk := check (l[s]!)
      rw [show (l[s]!).chk = 2 from if_neg ho] at hk
      rw [show decide (∀ i, i < l.length → (l[i]!).ok) = false from decide_eq_false fun hh => ho (hh s h)]
      (repeat' (first | refine zss ?_ | ((first | (with_reducible first | apply At.val | apply AtQ.val)); (exact zprA); exact rfl) | refine zsM ?_ | ((with_reducible first | apply AtM1.callp | apply AtQ.callp | apply At.callp); kernel_rfl; exact rfl; exact rfl; exact hk) | ((with_reducible apply At.alloc (d := 4)); exact rfl; exact rfl; intro b4) | (refine zsp ?_ ?_ <;> (intro hc; (try simp only [zhcs, reduceCtorEq] at hc); (try (exfalso; first | omega | contradiction | omega | exact absurd rfl hc | exact absurd (by decide) hc))))))
      all_goals ((with_reducible apply At.retB1 (B := [])); exact rfl; exact rfl; exact zml; exact zkp; exact ⟨rfl, rfl, rfl⟩)
  · rw [show decide (∀ i, i < l.length → (l[i]!).ok) = true from decide_eq_true fun i hi => ha i (by omega)]
    (repeat' (first | refine zss ?_ | ((first | (with_reducible first | apply At.val | apply AtQ.val)); (exact zprA); exact rfl) | refine zsM ?_ | ((with_reducible apply At.alloc (d := 4)); exact rfl; exact rfl; intro b4) | (refine zsp ?_ ?_ <;> (intro hc; (try simp only [zhcs, reduceCtorEq] at hc); (try (exfalso; first | omega | contradiction | omega | exact absurd rfl hc | exact absurd (by decide) hc))))))
    all_goals ((with_reducible apply At.retB1 (B := [])); exact rfl; exact rfl; exact zml; exact zkp; exact ⟨rfl, rfl, rfl⟩)
def two (p c : Ev) : Prop := p.ok ∧ c.ok
instance (p c : Ev) : Decidable (two p c) := by unfold two; infer_instance
theorem right2 {m : Mem} (a b : Ev) (p : Option Addr) (c : Nat) (sl0 : Sl m cells 4 p c [a, b]) (k : Nat) (hk : k = 2) :
    Rd Tryz.prog 195 #[.slice p k c] m [] (.bool (decide (two a b))) := by
  subst hk
  have := right p c [a, b] (by show 2 ≤ _; decide) sl0
  have e : (∀ i, i < [a, b].length → ([a, b][i]!).ok) ↔ two a b := by
    constructor
    · intro h; exact ⟨h 0 (by show 0 < 2; decide), h 1 (by show 1 < 2; decide)⟩
    · rintro ⟨h1, h2⟩ i hi
      rcases i with _ | _ | i
      · exact h1
      · exact h2
      · have : i + 1 + 1 < 2 := hi; omega
  rw [show decide (∀ i, i < [a, b].length → ([a, b][i]!).ok) = decide (two a b) by rw [decide_eq_decide]; exact e] at this
  exact this
def fol (p c : Ev) : Bool := decide (two p c) && decide (p.T < c.T)
theorem follow (p c : Ev) : Pu Tryz.prog 169 #[p.v, c.v] (.bool (fol p c)) := Pu.of_le fun m => by
  by_cases h : two p c
  · refine Ct.enterV (by rfl) Tryz.func169 rfl Tryz.ntmps169 rfl (fun w0 Rest => ?_)
    rw [show fol p c = decide (p.T < c.T) by unfold fol; rw [decide_eq_true h, Bool.true_and]]
    (repeat' (first | refine zss ?_ | ((first | (with_reducible first | apply At.val | apply AtQ.val)); (first | exact pr_move (by rw [decide_eq_true h]; rfl) | exact zprA); exact rfl) | refine zsM ?_ | ((with_reducible apply At.lit cells [p, c]); exact inferInstance; (iterate 7 exact rfl); intro _) | (refine At.own_freeze inferInstance (by repeat constructor) fun m' hm' sl0 => ?_; skip) | ((with_reducible first | apply AtM1.cr | apply AtQ.cr | apply At.cr); exact rfl; exact rfl; exact fun _ hmm => right2 p c _ _ (Sl.mono sl0 hmm) 2 rfl; exact ztk; kernel_rfl) | ((with_reducible apply At.box (d := 2)); exact rfl; exact rfl; exact rfl; intro b2) | ((with_reducible apply At.box (d := 3)); exact rfl; exact rfl; exact rfl; intro b3) | (refine zsp ?_ ?_ <;> (intro hc; (try simp only [zhcs, reduceCtorEq] at hc); (try (exfalso; first | contradiction | omega | exact absurd rfl hc | exact absurd (by decide) hc))))))
    all_goals ((with_reducible apply At.retB1 (B := [])); exact rfl; exact rfl; exact zml; exact zkp; exact ⟨rfl, by assumption, rfl⟩)
  · refine Ct.enterV (by rfl) Tryz.func169 rfl Tryz.ntmps169 rfl (fun w0 Rest => ?_)
    rw [show fol p c = false by unfold fol; rw [decide_eq_false h, Bool.false_and]]
    (repeat' (first | refine zss ?_ | ((first | (with_reducible first | apply At.val | apply AtQ.val)); (first | exact pr_move (by rw [decide_eq_false h]; rfl) | exact zprA); exact rfl) | refine zsM ?_ | ((with_reducible apply At.lit cells [p, c]); exact inferInstance; (iterate 7 exact rfl); intro _) | (refine At.own_freeze inferInstance (by repeat constructor) fun m' hm' sl0 => ?_; skip) | ((with_reducible first | apply AtM1.cr | apply AtQ.cr | apply At.cr); exact rfl; exact rfl; exact fun _ hmm => right2 p c _ _ (Sl.mono sl0 hmm) 2 rfl; exact ztk; kernel_rfl) | ((with_reducible apply At.box (d := 2)); exact rfl; exact rfl; exact rfl; intro b2) | ((with_reducible apply At.box (d := 3)); exact rfl; exact rfl; exact rfl; intro b3) | (refine zsp ?_ ?_ <;> (intro hc; (try simp only [zhcs, reduceCtorEq] at hc); (try (exfalso; first | contradiction | omega | exact absurd rfl hc | exact absurd (by decide) hc))))))
    all_goals ((with_reducible apply At.retB1 (B := [])); exact rfl; exact rfl; exact zml; exact zkp; exact ⟨rfl, by assumption, rfl⟩)
end Ev
structure Cell where
  (n : Int) (F : Ev) (L : Ev) (I : Nat) (R : Int) (G : Int) (X : Int)
namespace Cell
open Wide
abbrev cells (c : Cell) : List Value := [.int .i64 c.n, .int .i64 c.F.T, .int .u64 (c.F.V : Int), .int .i64 c.F.C, .bool c.F.S, .int .i64 c.L.T, .int .u64 (c.L.V : Int), .int .i64 c.L.C, .bool c.L.S,
  .int .u64 ((c.I / 18446744073709551616 : Nat) : Int), .int .u64 ((c.I % 18446744073709551616 : Nat) : Int), .int .i64 c.R, .int .i64 c.G, .int .i64 c.X]
abbrev v (c : Cell) : Value := .agg (cells c).toArray
instance : Fl cells 14 := ⟨fun _ => rfl, fun x v h => by simp at h; rcases h with rfl | rfl | rfl | rfl | rfl | rfl | rfl | rfl | rfl | rfl | rfl | rfl | rfl | rfl <;> rfl, by decide⟩
abbrev mk' (I : Nat) (R G X : Int) : Cell := ⟨0, Ev.z, Ev.z, I, R, G, X⟩
abbrev z : Cell := mk' 0 0 0 0
end Cell
namespace Ev
def btw (p c : Ev) : Cell × Int :=
  if ¬ two p c then (Cell.z, 2) else if c.T ≤ p.T then (Cell.z, 9) else if c.S = true then (Cell.z, 0) else if p.T < c.C then (Cell.mk' c.V 1 0 (c.T - c.C), 0)
  else if p.S = true then (Cell.mk' 0 0 1 0, 0) else if c.V < p.V then (Cell.mk' c.V 1 0 (c.T - p.T), 0) else (Cell.mk' (c.V - p.V) 0 0 (c.T - p.T), 0)
theorem anew (c : Ev) (x : Int) (hV : c.V < 18446744073709551616) : Pu Tryz.prog 196 #[c.v, .int .i64 x] (Cell.mk' c.V 1 0 x).v := Pu.intro fun m => by
  refine Ct.enterV (by rfl) Tryz.func196 rfl Tryz.ntmps196 rfl (fun w0 Rest => ?_)
  (repeat' (first | refine zss ?_ | ((first | (with_reducible first | apply At.val | apply AtQ.val)); (exact zprA); exact rfl) | refine zs0 ?_ | ((with_reducible first | apply AtM1.callp | apply AtQ.callp | apply At.callp); kernel_rfl; exact rfl; exact rfl; exact Wide.of_ c.V hV) | ((with_reducible apply At.box (d := 2)); exact rfl; exact rfl; exact rfl; intro b2) | ((with_reducible apply At.alloc (d := 4)); exact rfl; exact rfl; intro b4) | (refine zsp ?_ ?_ <;> (intro hc; (try simp only [zhcs, reduceCtorEq] at hc); (try (exfalso; first | contradiction | omega | exact absurd rfl hc | exact absurd (by decide) hc))))))
  all_goals ((with_reducible apply At.retV (B := [])); exact rfl; (repeat' (first | exact RVs.nil | (with_reducible apply RVs.cons) | exact rv_tmp (by rfl) | exact rv_cellN (by rfl) (by repeat constructor) (by rfl) (by rfl) (by rfl) | exact rv_cell1 (by rfl) (by repeat constructor) (by rfl) (by rfl) | exact rv_cellA (by rfl) (by repeat constructor) (by rfl) (by rfl) zlq)); exact zml; exact zkp; exact ⟨rfl, rfl, rfl⟩)
theorem between (p c : Ev) (hp : p.V < 18446744073709551616) (hc : c.V < 18446744073709551616) : Pu Tryz.prog 153 #[p.v, c.v] (.tuple #[(btw p c).1.v, .int .i64 (btw p c).2]) := Pu.of_le fun m => by
  have hV := hc
  clear hc
  rcases hb : btw p c with ⟨x, w⟩
  unfold btw at hb
  refine Ct.enterV (by rfl) Tryz.func153 rfl Tryz.ntmps153 rfl (fun w0 Rest => ?_)
  by_cases h : two p c
  · rw [if_neg (not_not_intro h)] at hb
    have ⟨h1, h2⟩ := h
    unfold ok at h1 h2
    obtain ⟨h11, h12, h13, h14, h15⟩ := h1
    obtain ⟨h21, h22, h23, h24, h25⟩ := h2
    repeat' split at hb
    all_goals cases hb
    all_goals (repeat' (first | ((with_reducible apply At.mixed (id := 13) 14 (.q 0 (.q 1 (.q 2 (.q 3 (.q 4 (.q 5 (.q 6 (.q 7 (.q 8 (.q 9 (.q 10 (.q 11 (.x 12 (.q 13 .done))))))))))))))); exact rfl; kernel_rfl; kernel_rfl; kernel_rfl) | refine zsx ?_ | refine zss ?_ | ((with_reducible apply AtM.bo); exact rfl; exact rfl; exact rfl) | ((first | (with_reducible first | apply At.val | apply AtQ.val) | ((with_reducible first | apply AtM1.valz | apply AtM1.val); exact rfl) | ((with_reducible apply AtM1.val); exact rfl)); (first | exact pr_not (by rw [decide_eq_true h]; rfl) | exact zprA); exact rfl) | refine zsM ?_ | refine zxM ?_ | ((with_reducible apply At.lit cells [p, c]); exact inferInstance; (iterate 7 exact rfl); intro _) | (refine At.own_freeze inferInstance (by repeat constructor) fun m' hm' sl0 => ?_; skip) | ((with_reducible first | apply AtM1.cr | apply AtQ.cr | apply At.cr); exact rfl; exact rfl; exact fun _ hmm => right2 p c _ _ (Sl.mono sl0 hmm) 2 rfl; exact ztk; kernel_rfl) | ((with_reducible first | apply AtM1.callp | apply AtQ.callp | apply At.callp); kernel_rfl; exact rfl; exact rfl; exact anew c _ hV) | ((with_reducible first | apply AtM1.callp | apply AtQ.callp | apply At.callp); kernel_rfl; exact rfl; exact rfl; exact Wide.of_ (c.V - p.V) (by omega)) | ((with_reducible first | apply AtM1.callp | apply AtQ.callp | apply At.callp); kernel_rfl; exact rfl; exact rfl; exact Wide.ofI _ (by omega) (by omega)) | ((with_reducible apply At.box (d := 2)); exact rfl; exact rfl; exact rfl; intro b2) | ((with_reducible apply At.box (d := 3)); exact rfl; exact rfl; exact rfl; intro b3) | ((with_reducible apply At.alloc (d := 4)); exact rfl; exact rfl; intro b4) | (refine zsp ?_ ?_ <;> (intro hc; (try simp only [zhcs, reduceCtorEq] at hc); (try (exfalso; first | (first | omega | (exact absurd hc (by assumption)) | (simp_all; done)) | contradiction | omega | exact absurd rfl hc | exact absurd (by decide) hc))))))
    all_goals ((with_reducible apply At.retV (B := [])); exact rfl; (repeat' (first | exact RVs.nil | (with_reducible apply RVs.cons) | exact rv_tmp (by rfl) | exact rv_cellN (by rfl) (by repeat constructor) (by rfl) (by rfl) (by rfl) | exact rv_cell1 (by rfl) (by repeat constructor) (by rfl) (by rfl) | exact rv_cellA (by rfl) (by repeat constructor) (by rfl) (by rfl) zlq)); exact zml; exact zkp; exact ⟨by first | rfl | (rw [Int.toNat_sub]; rfl), by assumption, rfl⟩)
  · rw [if_pos h] at hb
    cases hb
    (repeat' (first | refine zss ?_ | ((first | (with_reducible first | apply At.val | apply AtQ.val)); (first | exact pr_not (by rw [decide_eq_false h]; rfl) | exact zprA); exact rfl) | refine zsM ?_ | ((with_reducible apply At.lit cells [p, c]); exact inferInstance; (iterate 7 exact rfl); intro _) | (refine At.own_freeze inferInstance (by repeat constructor) fun m' hm' sl0 => ?_; skip) | ((with_reducible first | apply AtM1.cr | apply AtQ.cr | apply At.cr); exact rfl; exact rfl; exact fun _ hmm => right2 p c _ _ (Sl.mono sl0 hmm) 2 rfl; exact ztk; kernel_rfl) | ((with_reducible apply At.box (d := 2)); exact rfl; exact rfl; exact rfl; intro b2) | ((with_reducible apply At.box (d := 3)); exact rfl; exact rfl; exact rfl; intro b3) | ((with_reducible apply At.alloc (d := 4)); exact rfl; exact rfl; intro b4) | (refine zsp ?_ ?_ <;> (intro hc; (try simp only [zhcs, reduceCtorEq] at hc); (try (exfalso; first | contradiction | omega | exact absurd rfl hc | exact absurd (by decide) hc))))))
    all_goals ((with_reducible apply At.retV (B := [])); exact rfl; (repeat' (first | exact RVs.nil | (with_reducible apply RVs.cons) | exact rv_tmp (by rfl) | exact rv_cellN (by rfl) (by repeat constructor) (by rfl) (by rfl) (by rfl) | exact rv_cell1 (by rfl) (by repeat constructor) (by rfl) (by rfl) | exact rv_cellA (by rfl) (by repeat constructor) (by rfl) (by rfl) zlq)); exact zml; exact zkp; exact ⟨rfl, by assumption, rfl⟩)
end Ev
end Go.Proofs.YtkoijdmlehkhbaaGreatDoor
namespace Go.Proofs.YtkoijdmlehkhbaaGreatDoor
open Go Go.J
attribute [local irreducible] At AtQ AtM AtM1 PR Ct Pu Rd Res.blk Res.own Res.ex RVs RV
namespace Mrg
open Ev
def aok (l : List Ev) : Prop := ∀ i, i < l.length → (l[i]!).ok
def asc (l : List Ev) : Prop := ∀ i, i < l.length - 1 → (l[i]!).T < (l[i + 1]!).T
instance (l : List Ev) : Decidable (aok l) := by unfold aok; infer_instance
instance (l : List Ev) : Decidable (asc l) := by unfold asc; infer_instance
def chk (l : List Ev) : Int := if aok l then (if asc l then 0 else 9) else 2
theorem ev_ext {a b : Ev} (h1 : a.T = b.T) (h2 : a.V = b.V) (h3 : a.C = b.C) (h4 : a.S = b.S) : a = b := by
  cases a; cases b; cases h1; cases h2; cases h3; cases h4; rfl
instance : DecidableEq Ev := fun a b => decidable_of_iff (a.T = b.T ∧ a.V = b.V ∧ a.C = b.C ∧ a.S = b.S) ⟨fun h => ev_ext h.1 h.2.1 h.2.2.1 h.2.2.2, fun h => h ▸ ⟨rfl, rfl, rfl, rfl⟩⟩
theorem and_ev (a b : Ev) : andL [decide (a.T = b.T), decide ((a.V : Int) = (b.V : Int)), decide (a.C = b.C), a.S == b.S] = decide (a = b) := by
  by_cases h : a = b
  · subst h; simp [andL_cons, andL_nil]
  · rw [decide_eq_false h]
    cases hb : andL [decide (a.T = b.T), decide ((a.V : Int) = (b.V : Int)), decide (a.C = b.C), a.S == b.S] with
    | false => rfl
    | true =>
      simp only [andL_cons, andL_nil, Bool.and_eq_true, decide_eq_true_eq, beq_iff_eq] at hb
      exact absurd (ev_ext hb.1 (by omega) hb.2.2.1 hb.2.2.2.1) h
theorem pr_evne {n : Nat} {F : Fr} {C : World → Prop} {x y : Operand} {u : TypeId} {a b : Ev} (hx : ev F x = some a.v) (hy : ev F y = some b.v) : PR Tryz.prog n F C (.binOp .neq 57 x y u) (.bool (!decide (a = b))) := by
  rw [← and_ev]
  exact pr_aggne2 hx hy (by rfl) (by kernel_rfl) (by kernel_rfl) (by rfl)
theorem pr_eveq {n : Nat} {F : Fr} {C : World → Prop} {x y : Operand} {u : TypeId} {a b : Ev} (hx : ev F x = some a.v) (hy : ev F y = some b.v) : PR Tryz.prog n F C (.binOp .eql 57 x y u) (.bool (decide (a = b))) := by
  rw [← and_ev]
  exact pr_aggeq2 hx hy (by rfl) (by kernel_rfl) (by kernel_rfl) (by rfl)
abbrev Asc (l : List Ev) : Prop := l.Pairwise (fun x y => x.T < y.T)
theorem asc_of : ∀ {l : List Ev}, asc l → Asc l
  | [], _ => .nil
  | [x], _ => List.pairwise_singleton _ _
  | x :: y :: l, h => by
    have h1 : x.T < y.T := h 0 (by simp)
    have h2 : Asc (y :: l) := asc_of fun i hi => h (i + 1) (by simp at hi ⊢; omega)
    refine List.Pairwise.cons (fun z hz => ?_) h2
    rcases List.mem_cons.1 hz with rfl | hz
    · exact h1
    · exact Int.lt_trans h1 ((List.pairwise_cons.1 h2).1 z hz)
theorem asc_to {l : List Ev} (h : Asc l) : asc l := fun i hi => by
  rw [getElem!_pos l i (by omega), getElem!_pos l (i + 1) (by omega)]
  exact List.pairwise_iff_getElem.1 h i (i + 1) (by omega) (by omega) (by omega)
theorem aok_iff {l : List Ev} : aok l ↔ ∀ e ∈ l, e.ok := by
  constructor
  · intro h e he
    obtain ⟨i, hi, rfl⟩ := List.mem_iff_getElem.1 he
    have := h i hi
    rwa [getElem!_pos l i hi] at this
  · intro h i hi
    rw [getElem!_pos l i hi]
    exact h _ (List.getElem_mem hi)
theorem chk_zero {l : List Ev} : chk l = 0 ↔ (∀ e ∈ l, e.ok) ∧ Asc l := by
  unfold chk
  rw [← aok_iff]
  by_cases h1 : aok l
  · rw [if_pos h1]
    by_cases h2 : asc l
    · rw [if_pos h2]; exact ⟨fun _ => ⟨h1, asc_of h2⟩, fun _ => rfl⟩
    · rw [if_neg h2]; exact ⟨fun h => absurd h (by decide), fun h => absurd (asc_to h.2) h2⟩
  · rw [if_neg h1]; exact ⟨fun h => absurd h (by decide), fun h => absurd h.1 h1⟩
theorem asc_inj {l : List Ev} (h : Asc l) {x y : Ev} (hx : x ∈ l) (hy : y ∈ l) (e : x.T = y.T) : x = y := by
  induction l with
  | nil => cases hx
  | cons z l ih =>
    obtain ⟨h1, h2⟩ := List.pairwise_cons.1 h
    rcases List.mem_cons.1 hx with ex | hx1 <;> rcases List.mem_cons.1 hy with ey | hy1
    · rw [ex, ey]
    · have := h1 y hy1; subst ex; omega
    · have := h1 x hx1; subst ey; omega
    · exact ih h2 hx1 hy1
theorem asc_ext : ∀ {l l' : List Ev}, Asc l → Asc l' → (∀ e, e ∈ l ↔ e ∈ l') → l = l'
  | [], [], _, _, _ => rfl
  | [], y :: l', _, _, h => absurd ((h y).2 (List.mem_cons_self ..)) (by simp)
  | x :: l, [], _, _, h => absurd ((h x).1 (List.mem_cons_self ..)) (by simp)
  | x :: l, y :: l', h1, h2, h => by
    obtain ⟨a1, a2⟩ := List.pairwise_cons.1 h1
    obtain ⟨b1, b2⟩ := List.pairwise_cons.1 h2
    have e : x = y := by
      rcases List.mem_cons.1 ((h x).1 (List.mem_cons_self ..)) with hx | hx
      · exact hx
      · rcases List.mem_cons.1 ((h y).2 (List.mem_cons_self ..)) with hy | hy
        · exact hy.symm
        · have := b1 x hx; have := a1 y hy; omega
    subst e
    congr 1
    refine asc_ext a2 b2 fun e => ⟨fun he => ?_, fun he => ?_⟩
    · rcases List.mem_cons.1 ((h e).1 (List.mem_cons_of_mem _ he)) with rfl | h3
      · have := a1 e he; omega
      · exact h3
    · rcases List.mem_cons.1 ((h e).2 (List.mem_cons_of_mem _ he)) with rfl | h3
      · have := b1 e he; omega
      · exact h3
/-- SameList -/
theorem same {m : Mem} (p : Option Addr) (c : Nat) (a : List Ev) (q : Option Addr) (d : Nat) (b : List Ev) (hl : a.length ≤ 1000000) (hlb : b.length ≤ 1000000) (sl0 : Sl m cells 4 p c a) (sl1 : Sl m cells 4 q d b) :
    Rd Tryz.prog 25 #[.slice p a.length c, .slice q b.length d] m [] (.bool (decide (a = b))) := by
  unfold Rd
  by_cases hlen : a.length = b.length
  · refine Ct.enterV (by rfl) Tryz.func25 rfl Tryz.ntmps25 rfl (fun w0 Rest => ?_)
    (repeat' (first | refine zss ?_ | ((first | (with_reducible first | apply At.val | apply AtQ.val)); (exact zprA); exact rfl) | refine zsM ?_ | (refine zsp ?_ ?_ <;> (intro hc; (try simp only [zhcs, reduceCtorEq] at hc); (try (exfalso; first | omega | contradiction | omega | exact absurd rfl hc | exact absurd (by decide) hc))))))
    (refine At.loopk (σ := Nat) [0, 1, 12] (fun s F0 => (13, .int .i64 (s : Int)) :: F0) (fun s => m) (fun s => Rest) (fun s => s ≤ a.length ∧ ∀ i, i < s → a[i]! = b[i]!) (fun s => a.length - s) 0 (by rfl) ?_ zsubs zml zente ?_)
    · exact ⟨Nat.zero_le _, fun i h => absurd h (Nat.not_lt_zero i)⟩
    rintro s ⟨hs, hn⟩
    by_cases h : s < a.length
    · by_cases e : a[s]! = b[s]!
      · have hnn : ∀ i, i < s + 1 → a[i]! = b[i]! := fun i hi => by
          by_cases e1 : i = s
          · subst e1; exact e
          · exact hn i (by omega)
        (repeat' (first | refine zss ?_ | ((first | (with_reducible first | apply At.val | apply AtQ.val)); (first | exact pr_evne (by rfl) (by rfl) | exact zprA); exact rfl) | refine zsM ?_ | (refine zsp ?_ ?_ <;> (intro hc; (try simp only [zhcs, reduceCtorEq] at hc); (try (exfalso; first | (first | omega | exact absurd e hc) | contradiction | omega | exact absurd rfl hc | exact absurd (by decide) hc))))))
        all_goals ((with_reducible refine At.reachk ((s + 1)) ?_ ?_ ?_ ?_); exact zsubs; exact zml; exact zente; exact ⟨⟨h, hnn⟩, by omega⟩)
      · rw [decide_eq_false (show ¬ a = b from fun h => e (by rw [h]))]
        (repeat' (first | refine zss ?_ | ((first | (with_reducible first | apply At.val | apply AtQ.val)); (first | exact pr_evne (by rfl) (by rfl) | exact zprA); exact rfl) | refine zsM ?_ | (refine zsp ?_ ?_ <;> (intro hc; (try simp only [zhcs, reduceCtorEq] at hc); (try (exfalso; first | (first | omega | exact absurd hc e) | contradiction | omega | exact absurd rfl hc | exact absurd (by decide) hc))))))
        all_goals ((with_reducible apply At.retB1 (B := [])); exact rfl; exact rfl; exact zml; exact zkp; exact ⟨rfl, rfl, rfl⟩)
    · rw [decide_eq_true (show a = b from List.ext_getElem hlen fun i h1 h2 => by have := hn i (by omega); rwa [getElem!_pos a i h1, getElem!_pos b i h2] at this)]
      (repeat' (first | refine zss ?_ | ((first | (with_reducible first | apply At.val | apply AtQ.val)); (exact zprA); exact rfl) | refine zsM ?_ | (refine zsp ?_ ?_ <;> (intro hc; (try simp only [zhcs, reduceCtorEq] at hc); (try (exfalso; first | omega | contradiction | omega | exact absurd rfl hc | exact absurd (by decide) hc))))))
      all_goals ((with_reducible apply At.retB1 (B := [])); exact rfl; exact rfl; exact zml; exact zkp; exact ⟨rfl, rfl, rfl⟩)
  · rw [decide_eq_false (show ¬ a = b from fun h => hlen (by rw [h]))]
    refine Ct.enterV (by rfl) Tryz.func25 rfl Tryz.ntmps25 rfl (fun w0 Rest => ?_)
    (repeat' (first | refine zss ?_ | ((first | (with_reducible first | apply At.val | apply AtQ.val)); (exact zprA); exact rfl) | refine zsM ?_ | (refine zsp ?_ ?_ <;> (intro hc; (try simp only [zhcs, reduceCtorEq] at hc); (try (exfalso; first | omega | contradiction | omega | exact absurd rfl hc | exact absurd (by decide) hc))))))
    all_goals ((with_reducible apply At.retB1 (B := [])); exact rfl; exact rfl; exact zml; exact zkp; exact ⟨rfl, rfl, rfl⟩)
end Mrg
end Go.Proofs.YtkoijdmlehkhbaaGreatDoor
namespace Go.Proofs.YtkoijdmlehkhbaaGreatDoor
open Go Go.J
namespace Cell
open Ev
theorem ext {a b : Cell} (h1 : a.n = b.n) (h2 : a.F = b.F) (h3 : a.L = b.L) (h4 : a.I = b.I) (h5 : a.R = b.R) (h6 : a.G = b.G) (h7 : a.X = b.X) : a = b := by
  cases a; cases b; cases h1; cases h2; cases h3; cases h4; cases h5; cases h6; cases h7; rfl
instance : DecidableEq Cell := fun a b => decidable_of_iff (a.n = b.n ∧ a.F = b.F ∧ a.L = b.L ∧ a.I = b.I ∧ a.R = b.R ∧ a.G = b.G ∧ a.X = b.X)
  ⟨fun ⟨h1, h2, h3, h4, h5, h6, h7⟩ => ext h1 h2 h3 h4 h5 h6 h7, fun h => h ▸ ⟨rfl, rfl, rfl, rfl, rfl, rfl, rfl⟩⟩
/-- a right cell that is not zero -/
structure Full (c : Cell) : Prop where
  n : 1 ≤ c.n
  F : c.F.ok
  L : c.L.ok
  one : c.n = 1 → c.F = c.L
  lt : 1 < c.n → c.F.T < c.L.T
  len : c.n - 1 ≤ c.L.T - c.F.T
  R : 0 ≤ c.R
  G : 0 ≤ c.G
  RG : c.R + c.G ≤ c.n - 1
  X : 0 ≤ c.X
  XL : c.X ≤ c.L.T - c.F.T
  I : c.I ≤ 18446744073709551615 * (c.n - 1).toNat
def ok (c : Cell) : Prop := c = z ∨ Full c
theorem Full.ne {c : Cell} (h : Full c) : c ≠ z := fun e => by
  have := h.n
  rw [e] at this
  exact absurd this (by decide)
theorem Full.le {c : Cell} (h : Full c) : c.F.T ≤ c.L.T := by
  have h1 := h.n
  have h2 := h.len
  omega
instance (c : Cell) : Decidable (Full c) := decidable_of_iff (1 ≤ c.n ∧ c.F.ok ∧ c.L.ok ∧ (c.n = 1 → c.F = c.L) ∧ (1 < c.n → c.F.T < c.L.T) ∧ c.n - 1 ≤ c.L.T - c.F.T ∧ 0 ≤ c.R ∧ 0 ≤ c.G ∧ c.R + c.G ≤ c.n - 1 ∧ 0 ≤ c.X ∧ c.X ≤ c.L.T - c.F.T ∧ c.I ≤ 18446744073709551615 * (c.n - 1).toNat)
  ⟨fun ⟨h1, h2, h3, h4, h5, h6, h7, h8, h9, h10, h11, h12⟩ => ⟨h1, h2, h3, h4, h5, h6, h7, h8, h9, h10, h11, h12⟩, fun h => ⟨h.n, h.F, h.L, h.one, h.lt, h.len, h.R, h.G, h.RG, h.X, h.XL, h.I⟩⟩
instance (c : Cell) : Decidable (ok c) := by unfold ok; infer_instance
def chk (c : Cell) : Int := if ok c then 0 else 2
def one (e : Ev) : Cell := ⟨1, e, e, 0, 0, 0, 0⟩
def join (a b : Cell) : Cell := ⟨a.n + b.n, a.F, b.L, a.I + (btw a.L b.F).1.I + b.I, a.R + (btw a.L b.F).1.R + b.R, a.G + (btw a.L b.F).1.G + b.G, a.X + (btw a.L b.F).1.X + b.X⟩
def mrg (a b : Cell) : Cell × Int := if ¬ (ok a ∧ ok b) then (z, 2) else if a = z then (b, 0) else if b = z then (a, 0) else if b.F.T ≤ a.L.T then (z, 9) else (join a b, 0)
structure Btw (p c : Ev) : Prop where
  w : (btw p c).2 = 0
  R : 0 ≤ (btw p c).1.R
  G : 0 ≤ (btw p c).1.G
  RG : (btw p c).1.R + (btw p c).1.G ≤ 1
  X : 0 ≤ (btw p c).1.X
  XL : (btw p c).1.X ≤ c.T - p.T
  I : (btw p c).1.I ≤ c.V
theorem btw_bd {p c : Ev} (hp : p.ok) (hc : c.ok) (h : p.T < c.T) : Btw p c := by
  have ⟨h21, h22, h23, h24, h25⟩ := hc
  have e : btw p c = if c.S = true then (z, 0) else if p.T < c.C then (mk' c.V 1 0 (c.T - c.C), 0) else if p.S = true then (mk' 0 0 1 0, 0) else if c.V < p.V then (mk' c.V 1 0 (c.T - p.T), 0) else (mk' (c.V - p.V) 0 0 (c.T - p.T), 0) := by
    unfold btw
    rw [if_neg (not_not_intro (show two p c from ⟨hp, hc⟩)), if_neg (by omega)]
  by_cases a1 : c.S = true
  · rw [if_pos a1] at e
    constructor <;> rw [e] <;> first | rfl | (dsimp only [mk', Cell.z]; omega)
  rw [if_neg a1] at e
  by_cases a2 : p.T < c.C
  · rw [if_pos a2] at e
    constructor <;> rw [e] <;> first | rfl | (dsimp only [mk', Cell.z]; omega)
  rw [if_neg a2] at e
  by_cases a3 : p.S = true
  · rw [if_pos a3] at e
    constructor <;> rw [e] <;> first | rfl | (dsimp only [mk', Cell.z]; omega)
  rw [if_neg a3] at e
  by_cases a4 : c.V < p.V
  · rw [if_pos a4] at e
    constructor <;> rw [e] <;> first | rfl | (dsimp only [mk', Cell.z]; omega)
  · rw [if_neg a4] at e
    constructor <;> rw [e] <;> first | rfl | (dsimp only [mk', Cell.z]; omega)
theorem join_full {a b : Cell} (ha : Full a) (hb : Full b) (h : a.L.T < b.F.T) (hV : b.F.V < 18446744073709551616) : Full (join a b) := by
  obtain ⟨w, xR, xG, xRG, xX, xXL, xI⟩ := btw_bd ha.L hb.F h
  obtain ⟨a1, a2, a3, a4, a5, a6, a7, a8, a9, a10, a11, a12⟩ := ha
  obtain ⟨b1, b2, b3, b4, b5, b6, b7, b8, b9, b10, b11, b12⟩ := hb
  have hn : (join a b).n = a.n + b.n := rfl
  have hF : (join a b).F = a.F := rfl
  have hL : (join a b).L = b.L := rfl
  have e1 : (a.n + b.n - 1).toNat = (a.n - 1).toNat + (b.n - 1).toNat + 1 := by omega
  refine ⟨by rw [hn]; omega, a2, b3, fun h => by rw [hn] at h; omega, fun _ => by rw [hF, hL]; omega, by rw [hn, hF, hL]; omega, ?_, ?_, ?_, ?_, ?_, ?_⟩
  · show 0 ≤ a.R + (btw a.L b.F).1.R + b.R; omega
  · show 0 ≤ a.G + (btw a.L b.F).1.G + b.G; omega
  · show a.R + (btw a.L b.F).1.R + b.R + (a.G + (btw a.L b.F).1.G + b.G) ≤ a.n + b.n - 1; omega
  · show 0 ≤ a.X + (btw a.L b.F).1.X + b.X; omega
  · show a.X + (btw a.L b.F).1.X + b.X ≤ b.L.T - a.F.T; omega
  · show a.I + (btw a.L b.F).1.I + b.I ≤ 18446744073709551615 * (a.n + b.n - 1).toNat
    rw [e1]; omega
/-- numbers that fit -/
def Fits (c : Cell) : Prop := c.F.V < 18446744073709551616 ∧ c.L.V < 18446744073709551616
theorem mrg_cases {a b : Cell} : (mrg a b = (z, 2) ∧ ¬ (ok a ∧ ok b)) ∨ (mrg a b = (b, 0) ∧ a = z ∧ ok b) ∨ (mrg a b = (a, 0) ∧ Full a ∧ b = z) ∨ (mrg a b = (z, 9) ∧ Full a ∧ Full b ∧ b.F.T ≤ a.L.T) ∨ (mrg a b = (join a b, 0) ∧ Full a ∧ Full b ∧ a.L.T < b.F.T) := by
  unfold mrg
  by_cases h : ok a ∧ ok b
  · rw [if_neg (not_not_intro h)]
    obtain ⟨h1, h2⟩ := h
    by_cases ha : a = z
    · rw [if_pos ha]; exact .inr (.inl ⟨rfl, ha, h2⟩)
    · rw [if_neg ha]
      have fa := h1.resolve_left ha
      by_cases hb : b = z
      · rw [if_pos hb]; exact .inr (.inr (.inl ⟨rfl, fa, hb⟩))
      · rw [if_neg hb]
        have fb := h2.resolve_left hb
        by_cases ht : b.F.T ≤ a.L.T
        · rw [if_pos ht]; exact .inr (.inr (.inr (.inl ⟨rfl, fa, fb, ht⟩)))
        · rw [if_neg ht]; exact .inr (.inr (.inr (.inr ⟨rfl, fa, fb, by omega⟩)))
  · rw [if_pos h]; exact .inl ⟨rfl, h⟩
theorem mrg_join {a b : Cell} (ha : Full a) (hb : Full b) (h : a.L.T < b.F.T) : mrg a b = (join a b, 0) := by
  unfold mrg
  rw [if_neg (not_not_intro ⟨.inr ha, .inr hb⟩), if_neg ha.ne, if_neg hb.ne, if_neg (by omega)]
theorem mrg_zl {b : Cell} (h : ok b) : mrg z b = (b, 0) := by
  unfold mrg
  rw [if_neg (not_not_intro ⟨.inl rfl, h⟩), if_pos rfl]
theorem mrg_zr {a : Cell} (h : ok a) : mrg a z = (a, 0) := by
  by_cases ha : a = z
  · subst ha; exact mrg_zl (.inl rfl)
  · unfold mrg
    rw [if_neg (not_not_intro ⟨h, .inl rfl⟩), if_neg ha, if_pos rfl]
/-- what right ones merge to -/
theorem mrg_right {a b : Cell} (hb : Fits b) (h : (mrg a b).2 = 0) : ok (mrg a b).1 ∧ mrg z a = (a, 0) ∧ (mrg a b).1.n = a.n + b.n := by
  rcases mrg_cases (a := a) (b := b) with ⟨e, _⟩ | ⟨e, h1, h2⟩ | ⟨e, h1, h2⟩ | ⟨e, _⟩ | ⟨e, h1, h2, h3⟩
  · rw [e] at h; exact absurd h (by show ¬ (2 : Int) = 0; decide)
  · rw [e]; subst h1; exact ⟨h2, mrg_zl (.inl rfl), by show b.n = 0 + b.n; omega⟩
  · rw [e]; subst h2; exact ⟨.inr h1, mrg_zl (.inr h1), by show a.n = a.n + 0; omega⟩
  · rw [e] at h; exact absurd h (by show ¬ (9 : Int) = 0; decide)
  · rw [e]; exact ⟨.inr (join_full h1 h2 h3 hb.1), mrg_zl (.inr h1), rfl⟩
theorem mrg_bad {a b : Cell} (h : (mrg a b).2 ≠ 0) : (mrg a b).1 = z := by
  rcases mrg_cases (a := a) (b := b) with ⟨e, _⟩ | ⟨e, _⟩ | ⟨e, _⟩ | ⟨e, _⟩ | ⟨e, _⟩ <;> rw [e] at h ⊢
  · exact absurd rfl h
  · exact absurd rfl h
  · exact absurd rfl h
/-! ### events -/
def add (c : Cell) (e : Ev) : Cell := if c = z then one e else join c (one e)
def ofL (l : List Ev) : Cell × Int := if Mrg.chk l ≠ 0 then (z, Mrg.chk l) else (l.foldl add z, 0)
end Cell
end Go.Proofs.YtkoijdmlehkhbaaGreatDoor
namespace Go.Proofs.YtkoijdmlehkhbaaGreatDoor
open Go Go.J
attribute [local irreducible] At AtQ AtM AtM1 PR Ct Pu Rd Res.blk Res.own Res.ex RVs RV
namespace Cell
open Ev Wide
theorem wide_ext {a b : Nat} (h1 : ((a / 18446744073709551616 : Nat) : Int) = ((b / 18446744073709551616 : Nat) : Int)) (h2 : ((a % 18446744073709551616 : Nat) : Int) = ((b % 18446744073709551616 : Nat) : Int)) : a = b := by omega
theorem and_cell (a b : Cell) : andL [decide (a.n = b.n), decide (a.F.T = b.F.T), decide ((a.F.V : Int) = (b.F.V : Int)), decide (a.F.C = b.F.C), a.F.S == b.F.S, decide (a.L.T = b.L.T), decide ((a.L.V : Int) = (b.L.V : Int)), decide (a.L.C = b.L.C), a.L.S == b.L.S,
    decide (((a.I / 18446744073709551616 : Nat) : Int) = ((b.I / 18446744073709551616 : Nat) : Int)), decide (((a.I % 18446744073709551616 : Nat) : Int) = ((b.I % 18446744073709551616 : Nat) : Int)), decide (a.R = b.R), decide (a.G = b.G), decide (a.X = b.X)] = decide (a = b) := by
  by_cases h : a = b
  · subst h; simp [andL_cons, andL_nil]
  · rw [decide_eq_false h]
    cases hb : andL [decide (a.n = b.n), decide (a.F.T = b.F.T), decide ((a.F.V : Int) = (b.F.V : Int)), decide (a.F.C = b.F.C), a.F.S == b.F.S, decide (a.L.T = b.L.T), decide ((a.L.V : Int) = (b.L.V : Int)), decide (a.L.C = b.L.C), a.L.S == b.L.S,
    decide (((a.I / 18446744073709551616 : Nat) : Int) = ((b.I / 18446744073709551616 : Nat) : Int)), decide (((a.I % 18446744073709551616 : Nat) : Int) = ((b.I % 18446744073709551616 : Nat) : Int)), decide (a.R = b.R), decide (a.G = b.G), decide (a.X = b.X)] with
    | false => rfl
    | true =>
      simp only [andL_cons, andL_nil, Bool.and_eq_true, decide_eq_true_eq, beq_iff_eq] at hb
      obtain ⟨h1, h2, h3, h4, h5, h6, h7, h8, h9, h10, h11, h12, h13, h14, _⟩ := hb
      exact absurd (ext h1 (Mrg.ev_ext h2 (Int.ofNat.inj h3) h4 h5) (Mrg.ev_ext h6 (Int.ofNat.inj h7) h8 h9) (wide_ext h10 h11) h12 h13 h14) h
theorem pr_ceq {n : Nat} {F : Fr} {C : World → Prop} {x y : Operand} {u : TypeId} {a b : Cell} (hx : ev F x = some a.v) (hy : ev F y = some b.v) : PR Tryz.prog n F C (.binOp .eql 59 x y u) (.bool (decide (a = b))) := by
  rw [← and_cell]
  exact pr_aggeq2 hx hy (by rfl) (by kernel_rfl) (by kernel_rfl) (by rfl)
theorem none_ (c : Cell) : Pu Tryz.prog 103 #[c.v] (.bool (decide (c = z))) := Pu.intro fun m => by
  refine Ct.enterV (by rfl) Tryz.func103 rfl Tryz.ntmps103 rfl (fun w0 Rest => ?_)
  (repeat' (first | refine zss ?_ | ((first | (with_reducible first | apply At.val | apply AtQ.val)); (exact pr_ceq (b := z) (by rfl) (by rfl)); exact rfl) | refine zs0 ?_ | ((with_reducible apply At.box (d := 1)); exact rfl; exact rfl; exact rfl; intro b1) | (refine zsp ?_ ?_ <;> (intro hc; (try simp only [zhcs, reduceCtorEq] at hc); (try (exfalso; first | contradiction | omega | exact absurd rfl hc | exact absurd (by decide) hc))))))
  all_goals ((with_reducible apply At.retB1 (B := [])); exact rfl; exact rfl; exact zml; exact zkp; exact ⟨rfl, rfl, rfl⟩)
theorem in_ (n k : Int) : Pu Tryz.prog 152 #[.int .i64 n, .int .i64 k] (.bool (decide (0 ≤ n ∧ n ≤ k))) := Pu.intro fun m => by
  refine Ct.enterV (by rfl) Tryz.func152 rfl Tryz.ntmps152 rfl (fun w0 Rest => ?_)
  (repeat' (first | refine zss ?_ | refine zs0 ?_ | (refine zsp ?_ ?_ <;> (intro hc; (try simp only [zhcs, reduceCtorEq] at hc); (try (exfalso; first | contradiction | omega | exact absurd rfl hc | exact absurd (by decide) hc))))))
  all_goals ((with_reducible apply At.retB1 (B := [])); exact rfl; exact rfl; exact zml; exact zkp; exact ⟨congrArg Value.bool (by simp [hc]), rfl, rfl⟩)
/-- a cell's events may be its first and its last -/
def spn (c : Cell) : Prop := (c.n = 1 ∧ c.F = c.L ∧ c.F.ok) ∨ (1 < c.n ∧ c.F.ok ∧ c.L.ok ∧ c.F.T < c.L.T ∧ c.n - 1 ≤ c.L.T - c.F.T)
instance (c : Cell) : Decidable (spn c) := by unfold spn; infer_instance
theorem spans (c : Cell) (hn : -9223372036854775808 ≤ c.n ∧ c.n ≤ 9223372036854775807) : Pu Tryz.prog 151 #[c.v] (.bool (decide (spn c))) := Pu.intro fun m => by
  have hk := Ev.check c.F
  by_cases h1 : c.n = 1
  · by_cases h2 : c.F = c.L
    · by_cases h3 : c.F.ok
      · rw [show c.F.chk = 0 from if_pos h3] at hk
        rw [decide_eq_true (show spn c from .inl ⟨h1, h2, h3⟩)]
        refine Ct.enterV (by rfl) Tryz.func151 rfl Tryz.ntmps151 rfl (fun w0 Rest => ?_)
        (repeat' (first | refine zss ?_ | ((first | (with_reducible first | apply At.val | apply AtQ.val)); (exact Mrg.pr_eveq (a := c.F) (b := c.L) (by rfl) (by rfl)); exact rfl) | refine zs0 ?_ | ((with_reducible first | apply AtM1.callp | apply AtQ.callp | apply At.callp); kernel_rfl; exact rfl; exact rfl; exact hk) | ((with_reducible apply At.box (d := 1)); exact rfl; exact rfl; exact rfl; intro b1) | (refine zsp ?_ ?_ <;> (intro hc; (try simp only [zhcs, reduceCtorEq] at hc); (try (exfalso; first | (first | omega | exact absurd h2 hc) | contradiction | omega | exact absurd rfl hc | exact absurd (by decide) hc))))))
        all_goals ((with_reducible apply At.retB1 (B := [])); exact rfl; exact rfl; exact zml; exact zkp; exact ⟨rfl, rfl, rfl⟩)
      · rw [show c.F.chk = 2 from if_neg h3] at hk
        rw [decide_eq_false (show ¬ spn c from fun h => h.elim (fun h => h3 h.2.2) (fun h => by omega))]
        refine Ct.enterV (by rfl) Tryz.func151 rfl Tryz.ntmps151 rfl (fun w0 Rest => ?_)
        (repeat' (first | refine zss ?_ | ((first | (with_reducible first | apply At.val | apply AtQ.val)); (exact Mrg.pr_eveq (a := c.F) (b := c.L) (by rfl) (by rfl)); exact rfl) | refine zs0 ?_ | ((with_reducible first | apply AtM1.callp | apply AtQ.callp | apply At.callp); kernel_rfl; exact rfl; exact rfl; exact hk) | ((with_reducible apply At.box (d := 1)); exact rfl; exact rfl; exact rfl; intro b1) | (refine zsp ?_ ?_ <;> (intro hc; (try simp only [zhcs, reduceCtorEq] at hc); (try (exfalso; first | (first | omega | exact absurd h2 hc) | contradiction | omega | exact absurd rfl hc | exact absurd (by decide) hc))))))
        all_goals ((with_reducible apply At.retB1 (B := [])); exact rfl; exact rfl; exact zml; exact zkp; exact ⟨rfl, rfl, rfl⟩)
    · rw [decide_eq_false (show ¬ spn c from fun h => h.elim (fun h => h2 h.2.1) (fun h => by omega))]
      refine Ct.enterV (by rfl) Tryz.func151 rfl Tryz.ntmps151 rfl (fun w0 Rest => ?_)
      (repeat' (first | refine zss ?_ | ((first | (with_reducible first | apply At.val | apply AtQ.val)); (exact Mrg.pr_eveq (a := c.F) (b := c.L) (by rfl) (by rfl)); exact rfl) | refine zs0 ?_ | ((with_reducible apply At.box (d := 1)); exact rfl; exact rfl; exact rfl; intro b1) | (refine zsp ?_ ?_ <;> (intro hc; (try simp only [zhcs, reduceCtorEq] at hc); (try (exfalso; first | (first | omega | exact absurd hc h2) | contradiction | omega | exact absurd rfl hc | exact absurd (by decide) hc))))))
      all_goals ((with_reducible apply At.retB1 (B := [])); exact rfl; exact rfl; exact zml; exact zkp; exact ⟨rfl, rfl, rfl⟩)
  · by_cases h2 : 1 < c.n
    · have hf := Ev.follow c.F c.L
      by_cases h3 : c.F.ok ∧ c.L.ok ∧ c.F.T < c.L.T
      · obtain ⟨o1, o2, o3⟩ := h3
        rw [show fol c.F c.L = true by unfold fol; rw [decide_eq_true (show two c.F c.L from ⟨o1, o2⟩), decide_eq_true o3]; rfl] at hf
        have ⟨p1, p2, _⟩ := o1
        have ⟨p3, p4, _⟩ := o2
        by_cases h4 : c.n - 1 ≤ c.L.T - c.F.T
        · rw [decide_eq_true (show spn c from .inr ⟨h2, o1, o2, o3, h4⟩)]
          refine Ct.enterV (by rfl) Tryz.func151 rfl Tryz.ntmps151 rfl (fun w0 Rest => ?_)
          (repeat' (first | refine zss ?_ | refine zs0 ?_ | ((with_reducible first | apply AtM1.callp | apply AtQ.callp | apply At.callp); kernel_rfl; exact rfl; exact rfl; exact hf) | ((with_reducible apply At.box (d := 1)); exact rfl; exact rfl; exact rfl; intro b1) | (refine zsp ?_ ?_ <;> (intro hc; (try simp only [zhcs, reduceCtorEq] at hc); (try (exfalso; first | omega | contradiction | omega | exact absurd rfl hc | exact absurd (by decide) hc))))))
          all_goals ((with_reducible apply At.retB1 (B := [])); exact rfl; exact rfl; exact zml; exact zkp; exact ⟨congrArg Value.bool (decide_eq_true h4), rfl, rfl⟩)
        · rw [decide_eq_false (show ¬ spn c from fun h => h.elim (fun h => h1 h.1) (fun h => h4 h.2.2.2.2))]
          refine Ct.enterV (by rfl) Tryz.func151 rfl Tryz.ntmps151 rfl (fun w0 Rest => ?_)
          (repeat' (first | refine zss ?_ | refine zs0 ?_ | ((with_reducible first | apply AtM1.callp | apply AtQ.callp | apply At.callp); kernel_rfl; exact rfl; exact rfl; exact hf) | ((with_reducible apply At.box (d := 1)); exact rfl; exact rfl; exact rfl; intro b1) | (refine zsp ?_ ?_ <;> (intro hc; (try simp only [zhcs, reduceCtorEq] at hc); (try (exfalso; first | omega | contradiction | omega | exact absurd rfl hc | exact absurd (by decide) hc))))))
          all_goals ((with_reducible apply At.retB1 (B := [])); exact rfl; exact rfl; exact zml; exact zkp; exact ⟨congrArg Value.bool (decide_eq_false h4), rfl, rfl⟩)
      · rw [show fol c.F c.L = false by
          unfold fol
          by_cases ht : two c.F c.L
          · rw [decide_eq_false (show ¬ c.F.T < c.L.T from fun h => h3 ⟨ht.1, ht.2, h⟩), Bool.and_false]
          · rw [decide_eq_false ht, Bool.false_and]] at hf
        rw [decide_eq_false (show ¬ spn c from fun h => h.elim (fun h => h1 h.1) (fun h => h3 ⟨h.2.1, h.2.2.1, h.2.2.2.1⟩))]
        refine Ct.enterV (by rfl) Tryz.func151 rfl Tryz.ntmps151 rfl (fun w0 Rest => ?_)
        (repeat' (first | refine zss ?_ | refine zs0 ?_ | ((with_reducible first | apply AtM1.callp | apply AtQ.callp | apply At.callp); kernel_rfl; exact rfl; exact rfl; exact hf) | ((with_reducible apply At.box (d := 1)); exact rfl; exact rfl; exact rfl; intro b1) | (refine zsp ?_ ?_ <;> (intro hc; (try simp only [zhcs, reduceCtorEq] at hc); (try (exfalso; first | omega | contradiction | omega | exact absurd rfl hc | exact absurd (by decide) hc))))))
        all_goals ((with_reducible apply At.retB1 (B := [])); exact rfl; exact rfl; exact zml; exact zkp; exact ⟨rfl, rfl, rfl⟩)
    · rw [decide_eq_false (show ¬ spn c from fun h => h.elim (fun h => h1 h.1) (fun h => h2 h.1))]
      refine Ct.enterV (by rfl) Tryz.func151 rfl Tryz.ntmps151 rfl (fun w0 Rest => ?_)
      (repeat' (first | refine zss ?_ | refine zs0 ?_ | ((with_reducible apply At.box (d := 1)); exact rfl; exact rfl; exact rfl; intro b1) | (refine zsp ?_ ?_ <;> (intro hc; (try simp only [zhcs, reduceCtorEq] at hc); (try (exfalso; first | omega | contradiction | omega | exact absurd rfl hc | exact absurd (by decide) hc))))))
      all_goals ((with_reducible apply At.retB1 (B := [])); exact rfl; exact rfl; exact zml; exact zkp; exact ⟨rfl, rfl, rfl⟩)
end Cell
end Go.Proofs.YtkoijdmlehkhbaaGreatDoor
namespace Go.Proofs.YtkoijdmlehkhbaaGreatDoor
open Go Go.J
attribute [local irreducible] At AtQ AtM AtM1 PR Ct Pu Rd Res.blk Res.own Res.ex RVs RV
namespace Cell
open Ev Wide
theorem spn_pos {c : Cell} (h : spn c) : 1 ≤ c.n ∧ c.n ≤ 35184372088833 ∧ c.F.ok ∧ c.L.ok ∧ (c.n = 1 → c.F = c.L) ∧ (1 < c.n → c.F.T < c.L.T) ∧ c.n - 1 ≤ c.L.T - c.F.T := by
  rcases h with ⟨h1, h2, h3⟩ | ⟨h1, h2, h3, h4, h5⟩
  · exact ⟨by omega, by omega, h3, h2 ▸ h3, fun _ => h2, fun h => by omega, by rw [h2]; omega⟩
  · have ⟨p1, p2, _⟩ := h2
    have ⟨p3, p4, _⟩ := h3
    exact ⟨by omega, by omega, h2, h3, fun h => by omega, fun _ => h4, h5⟩
theorem full_iff {c : Cell} {k : Nat} (hk : c.n - 1 = (k : Int)) (hs : spn c) : Full c ↔ c.I ≤ 18446744073709551615 * k ∧ (0 ≤ c.G ∧ c.G ≤ (k : Int)) ∧ (0 ≤ c.R ∧ c.R ≤ (k : Int) - c.G) ∧ 0 ≤ c.X ∧ c.X ≤ c.L.T - c.F.T := by
  obtain ⟨a1, a2, a3, a4, a5, a6, a7⟩ := spn_pos hs
  have e : (c.n - 1).toNat = k := by omega
  constructor
  · intro h
    have h1 := h.I
    have h2 := h.G
    have h3 := h.R
    have h4 := h.RG
    have h5 := h.X
    have h6 := h.XL
    rw [e] at h1
    exact ⟨h1, ⟨h2, by omega⟩, ⟨h3, by omega⟩, h5, h6⟩
  · rintro ⟨h1, ⟨h2, h3⟩, ⟨h4, h5⟩, h6, h7⟩
    exact ⟨a1, a3, a4, a5, a6, a7, h4, h2, by omega, h6, h7, by rw [e]; exact h1⟩
theorem full_spn {c : Cell} (h : Full c) : spn c := by
  by_cases h1 : c.n = 1
  · exact .inl ⟨h1, h.one h1, h.F⟩
  · have := h.n
    exact .inr ⟨by omega, h.F, h.L, h.lt (by omega), h.len⟩
theorem sV_small {x : Nat} (h : x < 340282366920938463463374607431768211456) : sV x = x ∧ sE x = 0 := ⟨if_pos h, if_pos h⟩
set_option maxHeartbeats 1000000 in
theorem check (c : Cell) (hn : -9223372036854775808 ≤ c.n ∧ c.n ≤ 9223372036854775807) : Pu Tryz.prog 102 #[c.v] (.int .i64 (chk c)) := Pu.of_le fun m => by
  have k1 := none_ c
  have k2 := spans c hn
  by_cases hz : c = z
  · rw [show chk c = 0 from if_pos (.inl hz)]
    rw [decide_eq_true hz] at k1
    refine Ct.enterV (by rfl) Tryz.func102 rfl Tryz.ntmps102 rfl (fun w0 Rest => ?_)
    (repeat' (first | refine zss ?_ | refine zs0 ?_ | ((with_reducible first | apply AtM1.callp | apply AtQ.callp | apply At.callp); kernel_rfl; exact rfl; exact rfl; exact k1) | ((with_reducible apply At.box (d := 1)); exact rfl; exact rfl; exact rfl; intro b1) | ((with_reducible apply At.alloc (d := 4)); exact rfl; exact rfl; intro b4) | (refine zsp ?_ ?_ <;> (intro hc; (try simp only [zhcs, reduceCtorEq] at hc); (try (exfalso; first | omega | contradiction | omega | exact absurd rfl hc | exact absurd (by decide) hc))))))
    all_goals ((with_reducible apply At.retB1 (B := [])); exact rfl; exact rfl; exact zml; exact zkp; exact ⟨rfl, Mem.le_refl _, rfl⟩)
  · rw [decide_eq_false hz] at k1
    by_cases hs : spn c
    · rw [decide_eq_true hs] at k2
      obtain ⟨a1, a2, a3, a4, a5, a6, a7⟩ := spn_pos hs
      obtain ⟨k, hk⟩ : ∃ k : Nat, c.n - 1 = (k : Int) := ⟨(c.n - 1).toNat, by omega⟩
      have hf := full_iff hk hs
      have ⟨p1, p2, _⟩ := a3
      have ⟨p3, p4, _⟩ := a4
      have ht := Wide.times 18446744073709551615 k (by decide) (by omega)
      obtain ⟨e1, e2⟩ := sV_small (x := 18446744073709551615 * k) (by omega)
      rw [e1, e2] at ht
      have ho := Wide.of_ 18446744073709551615 (by decide)
      obtain ⟨T, hT⟩ : ∃ T, 18446744073709551615 * k = T := ⟨_, rfl⟩
      rw [hT] at ht hf
      have hl := Wide.less T c.I
      have hsub : IntKind.wrap .i64 (c.n - 1) = (k : Int) := by rw [hk]; exact IntWalk.i64_in _ (by omega)
      have hcv : IntKind.wrap .u64 (k : Int) = (k : Int) := IntWalk.u64_in _ (by omega)
      by_cases hF : Full c
      · rw [show chk c = 0 from if_pos (.inr hF)]
        obtain ⟨h1, ⟨h2, h3⟩, ⟨h4, h5⟩, h6, h7⟩ := hf.1 hF
        rw [decide_eq_false (by omega)] at hl
        refine Ct.enterV (by rfl) Tryz.func102 rfl Tryz.ntmps102 rfl (fun w0 Rest => ?_)
        (repeat' (first | refine zss ?_ | ((first | (with_reducible first | apply At.val | apply AtQ.val)); (first | exact pr_sub (by rfl) (by rfl) hsub | exact pr_conv ⟨_, rfl⟩ (by rfl) (by rfl) hcv); exact rfl) | refine zs0 ?_ | ((with_reducible first | apply AtM1.callp | apply AtQ.callp | apply At.callp); kernel_rfl; exact rfl; exact rfl; exact k1) | ((with_reducible first | apply AtM1.callp | apply AtQ.callp | apply At.callp); kernel_rfl; exact rfl; exact rfl; exact k2) | ((with_reducible first | apply AtM1.callp | apply AtQ.callp | apply At.callp); kernel_rfl; exact rfl; exact rfl; exact ho) | ((with_reducible first | apply AtM1.callp | apply AtQ.callp | apply At.callp); kernel_rfl; exact rfl; exact rfl; exact ht) | ((with_reducible first | apply AtM1.callp | apply AtQ.callp | apply At.callp); kernel_rfl; exact rfl; exact rfl; exact hl) | ((with_reducible first | apply AtM1.callp | apply AtQ.callp | apply At.callp); kernel_rfl; exact rfl; exact rfl; exact in_ _ _) | ((with_reducible apply At.box (d := 1)); exact rfl; exact rfl; exact rfl; intro b1) | ((with_reducible apply At.alloc (d := 4)); exact rfl; exact rfl; intro b4) | (refine zsp ?_ ?_ <;> (intro hc; (try simp only [zhcs, reduceCtorEq] at hc); (try (exfalso; first | omega | contradiction | omega | exact absurd rfl hc | exact absurd (by decide) hc))))))
        all_goals ((with_reducible apply At.retB1 (B := [])); exact rfl; exact rfl; exact zml; exact zkp; exact ⟨rfl, Mem.le_refl _, rfl⟩)
      · rw [show chk c = 2 from if_neg (fun h => h.elim hz hF)]
        rw [hf] at hF
        refine Ct.enterV (by rfl) Tryz.func102 rfl Tryz.ntmps102 rfl (fun w0 Rest => ?_)
        (repeat' (first | refine zss ?_ | ((first | (with_reducible first | apply At.val | apply AtQ.val)); (first | exact pr_sub (by rfl) (by rfl) hsub | exact pr_conv ⟨_, rfl⟩ (by rfl) (by rfl) hcv); exact rfl) | refine zs0 ?_ | ((with_reducible first | apply AtM1.callp | apply AtQ.callp | apply At.callp); kernel_rfl; exact rfl; exact rfl; exact k1) | ((with_reducible first | apply AtM1.callp | apply AtQ.callp | apply At.callp); kernel_rfl; exact rfl; exact rfl; exact k2) | ((with_reducible first | apply AtM1.callp | apply AtQ.callp | apply At.callp); kernel_rfl; exact rfl; exact rfl; exact ho) | ((with_reducible first | apply AtM1.callp | apply AtQ.callp | apply At.callp); kernel_rfl; exact rfl; exact rfl; exact ht) | ((with_reducible first | apply AtM1.callp | apply AtQ.callp | apply At.callp); kernel_rfl; exact rfl; exact rfl; exact hl) | ((with_reducible first | apply AtM1.callp | apply AtQ.callp | apply At.callp); kernel_rfl; exact rfl; exact rfl; exact in_ _ _) | ((with_reducible apply At.box (d := 1)); exact rfl; exact rfl; exact rfl; intro b1) | ((with_reducible apply At.alloc (d := 4)); exact rfl; exact rfl; intro b4) | (refine zsp ?_ ?_ <;> (intro hc; (try simp only [zhcs, reduceCtorEq] at hc); (try (exfalso; first | (first | omega | exact hF ⟨by omega, by omega, by omega, by omega, by omega⟩) | contradiction | omega | exact absurd rfl hc | exact absurd (by decide) hc))))))
        all_goals ((with_reducible apply At.retB1 (B := [])); exact rfl; exact rfl; exact zml; exact zkp; exact ⟨rfl, Mem.le_refl _, rfl⟩)
    · rw [show chk c = 2 from if_neg (fun h => h.elim hz (fun h => hs (full_spn h)))]
      rw [decide_eq_false hs] at k2
      refine Ct.enterV (by rfl) Tryz.func102 rfl Tryz.ntmps102 rfl (fun w0 Rest => ?_)
      (repeat' (first | refine zss ?_ | refine zs0 ?_ | ((with_reducible first | apply AtM1.callp | apply AtQ.callp | apply At.callp); kernel_rfl; exact rfl; exact rfl; exact k1) | ((with_reducible first | apply AtM1.callp | apply AtQ.callp | apply At.callp); kernel_rfl; exact rfl; exact rfl; exact k2) | ((with_reducible apply At.box (d := 1)); exact rfl; exact rfl; exact rfl; intro b1) | ((with_reducible apply At.alloc (d := 4)); exact rfl; exact rfl; intro b4) | (refine zsp ?_ ?_ <;> (intro hc; (try simp only [zhcs, reduceCtorEq] at hc); (try (exfalso; first | omega | contradiction | omega | exact absurd rfl hc | exact absurd (by decide) hc))))))
      all_goals ((with_reducible apply At.retB1 (B := [])); exact rfl; exact rfl; exact zml; exact zkp; exact ⟨rfl, Mem.le_refl _, rfl⟩)
end Cell
end Go.Proofs.YtkoijdmlehkhbaaGreatDoor
namespace Go.Proofs.YtkoijdmlehkhbaaGreatDoor
open Go Go.J
attribute [local irreducible] At AtQ PR Ct Pu
namespace Win
def ofOk (t w : Int) : Prop := 0 ≤ t ∧ t ≤ 35184372088831 ∧ 1 ≤ w ∧ w ≤ 1099511627776
instance (t w : Int) : Decidable (ofOk t w) := by unfold ofOk; infer_instance
def ofV (t w : Int) : Int := if ofOk t w then t / w else 0
def ofE (t w : Int) : Int := if ofOk t w then 0 else 1
def beginOk (i w : Int) : Prop := 1 ≤ w ∧ w ≤ 1099511627776 ∧ 0 ≤ i ∧ i ≤ 35184372088832 / w
instance (t w : Int) : Decidable (beginOk t w) := by unfold beginOk; infer_instance
def oldOk (t w n : Int) : Prop := ofOk t w ∧ 1 ≤ n ∧ n ≤ 4096
instance (t w n : Int) : Decidable (oldOk t w n) := by unfold oldOk; infer_instance
def oldV (t w n : Int) : Int := if oldOk t w n then (if 0 < t / w + 1 - n then t / w + 1 - n else 0) else 0
def oldE (t w n : Int) : Int := if oldOk t w n then 0 else 1
def slotV (i n : Int) : Int := if i < 0 ∨ n < 1 then 0 else i % n
def spanR (a b w : Int) : Bool := decide (1 ≤ w ∧ w ≤ 1099511627776 ∧ 0 ≤ a ∧ b ≤ 35184372088832 ∧ a < b)
def spanU (a b w : Int) : Bool := decide (a % w = 0 ∧ b % w = 0)
def spanE (a b w : Int) : Int := if spanR a b w then (if spanU a b w then 0 else 10) else 1
def spanA (a b w : Int) : Int := if spanR a b w && spanU a b w then a / w else 0
def spanB (a b w : Int) : Int := if spanR a b w && spanU a b w then b / w else 0
def goneV (t now w n : Int) : Bool := decide (ofE t w = 0 ∧ oldE now w n = 0 ∧ ofV t w < oldV now w n)
theorem ofE_cases (t w : Int) : (ofOk t w ∧ ofE t w = 0 ∧ ofV t w = t / w) ∨ (¬ ofOk t w ∧ ofE t w = 1 ∧ ofV t w = 0) := by
  unfold ofE ofV; by_cases h : ofOk t w <;> simp [h]
theorem ofV_bd (t w : Int) : 0 ≤ ofV t w ∧ ofV t w ≤ 35184372088831 := by
  unfold ofV; split
  · rename_i h; obtain ⟨h1, h2, h3, h4⟩ := h
    have := Int.ediv_nonneg h1 (by omega : 0 ≤ w)
    have := Int.ediv_le_self w h1
    omega
  · omega
theorem mod_bd {t w : Int} (h3 : 1 ≤ w) : 0 ≤ t % w ∧ t % w < w := ⟨Int.emod_nonneg t (by omega), Int.emod_lt_of_pos t (by omega)⟩
end Win
open Win
theorem win_in64 (n a b : Int) : Pu Tryz.prog 193 #[.int .i64 n, .int .i64 a, .int .i64 b] (.bool (decide (a ≤ n ∧ n ≤ b))) := Pu.intro fun m => by
  refine Ct.enterV (by rfl) Tryz.func193 rfl Tryz.ntmps193 rfl (fun w0 Rest => ?_)
  (repeat' (first | refine zss ?_ | refine zs0 ?_ | (refine zsp ?_ ?_ <;> (intro hc; (try simp only [zhcs, reduceCtorEq] at hc); (try (exfalso; first | contradiction | omega | exact absurd rfl hc | exact absurd (by decide) hc))))))
  all_goals (refine At.ret1 rfl (by rfl) (Mem.le_refl _) ⟨?_, rfl, rfl⟩ (Ent.refl _); simp [hc])
theorem win_in (n a b : Int) : Pu Tryz.prog 222 #[.int .i64 n, .int .i64 a, .int .i64 b] (.bool (decide (a ≤ n ∧ n ≤ b))) := Pu.intro fun m => by
  refine Ct.enterV (by rfl) Tryz.func222 rfl Tryz.ntmps222 rfl (fun w0 Rest => ?_)
  (repeat' (first | refine zss ?_ | refine zs0 ?_ | (refine zsp ?_ ?_ <;> (intro hc; (try simp only [zhcs, reduceCtorEq] at hc); (try (exfalso; first | contradiction | omega | exact absurd rfl hc | exact absurd (by decide) hc))))))
  all_goals (refine At.ret1 rfl (by rfl) (Mem.le_refl _) ⟨?_, rfl, rfl⟩ (Ent.refl _); simp [hc])
theorem win_width (w : Int) : Pu Tryz.prog 147 #[.int .i64 w] (.bool (decide (1 ≤ w ∧ w ≤ 1099511627776))) := Pu.intro fun m => by
  refine Ct.enterV (by rfl) Tryz.func147 rfl Tryz.ntmps147 rfl (fun w0 Rest => ?_)
  (repeat' (first | refine zss ?_ | refine zs0 ?_ | ((with_reducible first | apply AtM1.callp | apply AtQ.callp | apply At.callp); kernel_rfl; exact rfl; exact rfl; exact win_in64 _ _ _) | (refine zsp ?_ ?_ <;> (intro hc; (try simp only [zhcs, reduceCtorEq] at hc); (try (exfalso; first | contradiction | omega | exact absurd rfl hc | exact absurd (by decide) hc))))))
  all_goals (refine At.ret1 rfl (by rfl) (Mem.le_refl _) ⟨?_, rfl, rfl⟩ (Ent.refl _); rfl)
theorem win_of (t w : Int) : Pu Tryz.prog 190 #[.int .i64 t, .int .i64 w] (.tuple #[.int .i64 (ofV t w), .int .i64 (ofE t w)]) := Pu.intro fun m => by
  refine Ct.enterV (by rfl) Tryz.func190 rfl Tryz.ntmps190 rfl (fun w0 Rest => ?_)
  (repeat' (first | refine zss ?_ | refine zs0 ?_ | ((with_reducible first | apply AtM1.callp | apply AtQ.callp | apply At.callp); kernel_rfl; exact rfl; exact rfl; exact win_in64 _ _ _) | ((with_reducible first | apply AtM1.callp | apply AtQ.callp | apply At.callp); kernel_rfl; exact rfl; exact rfl; exact win_width _) | (refine zsp ?_ ?_ <;> (intro hc; (try simp only [zhcs, reduceCtorEq] at hc); (try (exfalso; first | contradiction | omega | exact absurd rfl hc | exact absurd (by decide) hc))))))
  all_goals (refine At.ret2 rfl (by rfl) (by rfl) (Mem.le_refl _) ⟨?_, rfl, rfl⟩ (Ent.refl _); (first | (have hif : ofOk t w := (by unfold ofOk; omega); simp only [ofV, ofE, if_pos hif]; done) | (have hif : ¬ ofOk t w := (by unfold ofOk; omega); simp only [ofV, ofE, if_neg hif]; done)))
theorem win_oldest (t w n : Int) : Pu Tryz.prog 191 #[.int .i64 t, .int .i64 w, .int .i64 n] (.tuple #[.int .i64 (oldV t w n), .int .i64 (oldE t w n)]) := Pu.intro fun m => by
  have hb := ofV_bd t w
  rcases ofE_cases t w with ⟨h1, h2, h3⟩ | ⟨h1, h2, h3⟩
  all_goals (refine Ct.enterV (by rfl) Tryz.func191 rfl Tryz.ntmps191 rfl (fun w0 Rest => ?_); (repeat' (first | refine zss ?_ | refine zs0 ?_ | ((with_reducible first | apply AtM1.callp | apply AtQ.callp | apply At.callp); kernel_rfl; exact rfl; exact rfl; exact win_of _ _) | ((with_reducible first | apply AtM1.callp | apply AtQ.callp | apply At.callp); kernel_rfl; exact rfl; exact rfl; exact win_in _ _ _) | (refine zsp ?_ ?_ <;> (intro hc; (try simp only [zhcs, reduceCtorEq] at hc); (try (exfalso; first | contradiction | omega | exact absurd rfl hc | exact absurd (by decide) hc)))))))
  all_goals (refine At.ret2 rfl (by rfl) (by rfl) (Mem.le_refl _) ⟨?_, rfl, rfl⟩ (Ent.refl _))
  all_goals first
    | (have hif : oldOk t w n := ⟨h1, by omega⟩; simp only [oldV, oldE, if_pos hif, h3]; done)
    | (have hif : ¬ oldOk t w n := (fun h => by first | exact h1 h.1 | (have := h.2; omega)); simp only [oldV, oldE, if_neg hif]; done)
theorem win_slot (i n : Int) (hi : -9223372036854775808 ≤ i ∧ i ≤ 9223372036854775807) (hn : -9223372036854775808 ≤ n ∧ n ≤ 9223372036854775807) : Pu Tryz.prog 223 #[.int .i64 i, .int .i64 n] (.int .i64 (slotV i n)) := Pu.intro fun m => by
  have hm := @mod_bd i n
  refine Ct.enterV (by rfl) Tryz.func223 rfl Tryz.ntmps223 rfl (fun w0 Rest => ?_)
  (repeat' (first | refine zss ?_ | refine zs0 ?_ | (refine zsp ?_ ?_ <;> (intro hc; (try simp only [zhcs, reduceCtorEq] at hc); (try (exfalso; first | contradiction | omega | exact absurd rfl hc | exact absurd (by decide) hc))))))
  all_goals (refine At.ret1 rfl (by rfl) (Mem.le_refl _) ⟨?_, rfl, rfl⟩ (Ent.refl _); (first | (have hif : (i < 0 ∨ n < 1) := (by omega); simp only [slotV, if_pos hif]; done) | (have hif : ¬ (i < 0 ∨ n < 1) := (by omega); simp only [slotV, if_neg hif]; done)))
theorem win_gone (t now w n : Int) : Pu Tryz.prog 144 #[.int .i64 t, .int .i64 now, .int .i64 w, .int .i64 n] (.bool (goneV t now w n)) := Pu.intro fun m => by
  refine Ct.enterV (by rfl) Tryz.func144 rfl Tryz.ntmps144 rfl (fun w0 Rest => ?_)
  (repeat' (first | refine zss ?_ | refine zs0 ?_ | ((with_reducible first | apply AtM1.callp | apply AtQ.callp | apply At.callp); kernel_rfl; exact rfl; exact rfl; exact win_of _ _) | ((with_reducible first | apply AtM1.callp | apply AtQ.callp | apply At.callp); kernel_rfl; exact rfl; exact rfl; exact win_oldest _ _ _) | (refine zsp ?_ ?_ <;> (intro hc; (try simp only [zhcs, reduceCtorEq] at hc); (try (exfalso; first | contradiction | omega | exact absurd rfl hc | exact absurd (by decide) hc))))))
  all_goals (refine At.ret1 rfl (by rfl) (Mem.le_refl _) ⟨?_, rfl, rfl⟩ (Ent.refl _); simp [goneV, *])
theorem win_span (a b w : Int) : Pu Tryz.prog 95 #[.int .i64 a, .int .i64 b, .int .i64 w] (.tuple #[.int .i64 (spanA a b w), .int .i64 (spanB a b w), .int .i64 (spanE a b w)]) := Pu.intro fun m => by
  refine Ct.enterV (by rfl) Tryz.func95 rfl Tryz.ntmps95 rfl (fun w0 Rest => ?_)
  (repeat' (first | refine zss ?_ | refine zs0 ?_ | ((with_reducible first | apply AtM1.callp | apply AtQ.callp | apply At.callp); kernel_rfl; exact rfl; exact rfl; exact win_width _) | (refine zsp ?_ ?_ <;> (intro hc; (try simp only [zhcs, reduceCtorEq] at hc); (try (exfalso; first | contradiction | omega | exact absurd rfl hc | exact absurd (by decide) hc))))))
  all_goals (refine At.ret3 rfl (by rfl) (by rfl) (by rfl) (Mem.le_refl _) ⟨?_, rfl, rfl⟩ (Ent.refl _))
  all_goals (simp only [spanA, spanB, spanE])
  all_goals first
    | (have h1 : spanR a b w = true := (decide_eq_true (by omega)); first
        | (have h2 : spanU a b w = true := (decide_eq_true (by omega)); simp [h1, h2]; done)
        | (have h2 : spanU a b w = false := (decide_eq_false (by omega)); simp [h1, h2]; done))
    | (have h1 : spanR a b w = false := (decide_eq_false (by omega)); simp [h1]; done)
end Go.Proofs.YtkoijdmlehkhbaaGreatDoor
namespace Go.J
open Go
theorem pr_index_agg {P : Program} {n : Nat} {F : Fr} {C : World → Prop} {x y : Operand} {t e : TypeId} {len k : Nat} {ki : IntKind} {cs : List Value} {v : Value} (hx : ev F x = some (.agg cs.toArray)) (hy : ev F y = some (.int ki (k : Int)))
    (ht : P.underlying t = some (.array len e)) (hs : sizeB P e = some 1) (hg : isAggB P e = some false) (hk : Nat.blt k len = true) (hv : nthl cs k = some v) : PR P n F C (.index t x y) v := fun _ _ _ _ _ a w ha _ => by
  have hk' : k < len := Nat.le_of_ble_eq_true hk
  have hr : ∀ w, (underlying t).run P w = .ok (.array len e) w := fun w => by simp only [underlying, program, bind, Sem.bind, Sem.run, ht]; rfl
  have hv' : cs[k]? = some v := by rw [nthl_eq] at hv; exact hv
  have : (Instr.index t (.agg cs.toArray) (.int ki (k : Int))).run P w = .ok v w := by
    unfold Instr.index
    have hb : (0 : Int) ≤ (k : Int) ∧ (k : Int) < (len : Int) := ⟨by omega, by omega⟩
    simp only [asIntOf, pure, Sem.run_bind, Sem.run, Result.andThen, hr, hb, and_self, if_true, run_sizeOf hs, Int.toNat_natCast, Nat.mul_one]
    unfold part
    simp only [Sem.run_bind, run_isAgg hg, Result.andThen]
    simp [hv', pure, Sem.run]
  simp only [execOp, ha.ev hx, ha.ev hy, Sem.run_bind]
  rw [this]
  rfl
def buildAL (P : Program) (t : TypeId) (ps : List (Nat × Value)) : Option (List Value) := match P.underlying t with
  | some (.array _ e) => match zeroL P t with
    | some z => match P.info? e with
      | some ie => match fillL (fun i => some (i * ie.size, ie.size)) z ps with
        | some r => flat r
        | none => none
      | none => none
    | none => none
  | _ => none
theorem buildAL_eq {P : Program} {t : TypeId} {ps : List (Nat × Value)} {r : List Value} (h : buildAL P t ps = some r) : P.built t ps = some r.toArray := by
  unfold buildAL at h
  unfold Program.built
  cases hu : P.underlying t with
  | none => rw [hu] at h; cases h
  | some d =>
    rw [hu] at h
    cases d <;> simp at h
    rename_i n e
    cases hz : zeroL P t with
    | none => rw [hz] at h; simp at h
    | some zs =>
      obtain ⟨i, z, hi, hzz, hzc⟩ := zeroL_spec hz
      rw [hz] at h
      simp only at h
      cases hie : P.info? e with
      | none => rw [hie] at h; simp at h
      | some ie =>
        rw [hie] at h
        simp only at h
        cases hf : fillL (fun i => some (i * ie.size, ie.size)) zs ps with
        | none => rw [hf] at h; cases h
        | some r' =>
          rw [hf] at h
          have := flat_eq _ _ h
          subst this
          simp only [hi, hzz, hie, hzc]
          exact fillL_eq _ _ _ _ hf
theorem pr_buildArr {P : Program} {n : Nat} {F : Fr} {C : World → Prop} {t : TypeId} {xs : List (Nat × Operand)} {ps : List (Nat × Value)} {r : List Value} (hx : evps F xs = some ps) (hb : buildAL P t ps = some r) : PR P n F C (.build t xs.toArray) (.agg r.toArray) := fun _ _ _ _ _ a w ha _ => by
  have e : (xs.toArray.map fun (i, x) => (i, a.eval x)) = ps.toArray := by simp [evps_map ha xs ps hx]
  simp only [execOp, e, Sem.run_bind]
  rw [run_build w t ps.toArray r.toArray (by simpa using buildAL_eq hb)]
  rfl
theorem nine {L : List Int} (h : L.length = 9) : ∃ r a b d x y w c g, L = [r, a, b, d, x, y, w, c, g] := by
  match L, h with
  | [r, a, b, d, x, y, w, c, g], _ => exact ⟨r, a, b, d, x, y, w, c, g, rfl⟩
end Go.J
namespace Go.Proofs.YtkoijdmlehkhbaaGreatDoor
open Go Go.J
attribute [local irreducible] At AtQ AtM AtM1 PR Ct Pu Rd Res.blk Res.own Res.ex RVs RV
structure Slot where
  (w : Int) (c : Cell)
namespace Slot
abbrev cells : Slot → List Value := fun s => .int .i64 s.w :: Cell.cells s.c
abbrev v (s : Slot) : Value := .agg (cells s).toArray
instance : Fl cells 15 := ⟨fun _ => rfl, fun x v h => by simp at h; rcases h with rfl | rfl | rfl | rfl | rfl | rfl | rfl | rfl | rfl | rfl | rfl | rfl | rfl | rfl | rfl <;> rfl, by decide⟩
abbrev z : Slot := ⟨0, Cell.z⟩
instance : Inhabited Slot := ⟨z⟩
theorem ext {a b : Slot} (h1 : a.w = b.w) (h2 : a.c = b.c) : a = b := by cases a; cases b; cases h1; cases h2; rfl
instance : DecidableEq Slot := fun a b => decidable_of_iff (a.w = b.w ∧ a.c = b.c) ⟨fun h => ext h.1 h.2, fun h => by subst h; exact ⟨rfl, rfl⟩⟩
def In (s : Slot) : Prop := (-9223372036854775808 ≤ s.w ∧ s.w ≤ 9223372036854775807) ∧ (-9223372036854775808 ≤ s.c.n ∧ s.c.n ≤ 9223372036854775807) ∧ s.c.F.V < 18446744073709551616 ∧ s.c.L.V < 18446744073709551616 ∧ s.c.I < 340282366920938463463374607431768211456
end Slot
namespace Ti
open Slot Win
theorem and_slot (a b : Slot) : andL [decide (a.w = b.w), decide (a.c.n = b.c.n), decide (a.c.F.T = b.c.F.T), decide ((a.c.F.V : Int) = (b.c.F.V : Int)), decide (a.c.F.C = b.c.F.C), a.c.F.S == b.c.F.S, decide (a.c.L.T = b.c.L.T), decide ((a.c.L.V : Int) = (b.c.L.V : Int)), decide (a.c.L.C = b.c.L.C), a.c.L.S == b.c.L.S,
    decide (((a.c.I / 18446744073709551616 : Nat) : Int) = ((b.c.I / 18446744073709551616 : Nat) : Int)), decide (((a.c.I % 18446744073709551616 : Nat) : Int) = ((b.c.I % 18446744073709551616 : Nat) : Int)), decide (a.c.R = b.c.R), decide (a.c.G = b.c.G), decide (a.c.X = b.c.X)] = decide (a = b) := by
  rw [andL_cons, Cell.and_cell, ← Bool.decide_and]
  exact decide_eq_decide.2 ⟨fun h => ext h.1 h.2, fun h => by subst h; exact ⟨rfl, rfl⟩⟩
theorem pr_sleq {n : Nat} {F : Fr} {C : World → Prop} {x y : Operand} {u : TypeId} {a b : Slot} (hx : ev F x = some a.v) (hy : ev F y = some b.v) : PR Tryz.prog n F C (.binOp .eql 61 x y u) (.bool (decide (a = b))) := by
  rw [← and_slot]
  exact pr_aggeq2 hx hy (by rfl) (by kernel_rfl) (by kernel_rfl) (by rfl)
theorem pr_slne {n : Nat} {F : Fr} {C : World → Prop} {x y : Operand} {u : TypeId} {a b : Slot} (hx : ev F x = some a.v) (hy : ev F y = some b.v) : PR Tryz.prog n F C (.binOp .neq 61 x y u) (.bool (!decide (a = b))) := by
  rw [← and_slot]
  exact pr_aggne2 hx hy (by rfl) (by kernel_rfl) (by kernel_rfl) (by rfl)
/-- a cell may be a window's -/
def fits (c : Cell) (w i : Int) : Prop := c.n ≠ 0 ∧ Cell.chk c = 0 ∧ (ofE c.F.T w = 0 ∧ ofV c.F.T w = i) ∧ ofE c.L.T w = 0 ∧ ofV c.L.T w = i
instance (c : Cell) (w i : Int) : Decidable (fits c w i) := by unfold fits; infer_instance
theorem none_ (s : Slot) : Pu Tryz.prog 209 #[s.v] (.bool (decide (s = z))) := Pu.intro fun m => by
  refine Ct.enterV (by rfl) Tryz.func209 rfl Tryz.ntmps209 rfl (fun w0 Rest => ?_)
  (repeat' (first | refine zss ?_ | ((first | (with_reducible first | apply At.val | apply AtQ.val)); (exact pr_sleq (b := z) (by rfl) (by rfl)); exact rfl) | refine zs0 ?_ | ((with_reducible apply At.box (d := 1)); exact rfl; exact rfl; exact rfl; intro b1) | (refine zsp ?_ ?_ <;> (intro hc; (try simp only [zhcs, reduceCtorEq] at hc); (try (exfalso; first | contradiction | omega | exact absurd rfl hc | exact absurd (by decide) hc))))))
  all_goals ((with_reducible apply At.retB1 (B := [])); exact rfl; exact rfl; exact zml; exact zkp; exact ⟨rfl, rfl, rfl⟩)
theorem fitsT (c : Cell) (w i : Int) (hn : -9223372036854775808 ≤ c.n ∧ c.n ≤ 9223372036854775807) : Pu Tryz.prog 165 #[c.v, .int .i64 w, .int .i64 i] (.bool (decide (fits c w i))) := Pu.intro fun m => by
  have k1 := Cell.check c hn
  have k2 := win_of c.F.T w
  have k3 := win_of c.L.T w
  by_cases h0 : c.n = 0
  · rw [decide_eq_false (fun h : fits c w i => h.1 h0)]
    refine Ct.enterV (by rfl) Tryz.func165 rfl Tryz.ntmps165 rfl (fun w0 Rest => ?_)
    (repeat' (first | refine zss ?_ | refine zs0 ?_ | ((with_reducible apply At.box (d := 3)); exact rfl; exact rfl; exact rfl; intro b3) | (refine zsp ?_ ?_ <;> (intro hc; (try simp only [zhcs, reduceCtorEq] at hc); (try (exfalso; first | (first | omega | exact absurd h0 hc) | contradiction | omega | exact absurd rfl hc | exact absurd (by decide) hc))))))
    all_goals ((with_reducible apply At.retB1 (B := [])); exact rfl; exact rfl; exact zml; exact zkp; exact ⟨rfl, rfl, rfl⟩)
  by_cases h1 : Cell.chk c = 0
  rotate_left
  · rw [decide_eq_false (fun h : fits c w i => h1 h.2.1)]
    generalize Cell.chk c = e at k1 h1
    refine Ct.enterV (by rfl) Tryz.func165 rfl Tryz.ntmps165 rfl (fun w0 Rest => ?_)
    (repeat' (first | refine zss ?_ | refine zs0 ?_ | ((with_reducible first | apply AtM1.callp | apply AtQ.callp | apply At.callp); kernel_rfl; exact rfl; exact rfl; exact k1) | ((with_reducible apply At.box (d := 3)); exact rfl; exact rfl; exact rfl; intro b3) | (refine zsp ?_ ?_ <;> (intro hc; (try simp only [zhcs, reduceCtorEq] at hc); (try (exfalso; first | (first | omega | exact absurd hc h0 | exact absurd hc h1) | contradiction | omega | exact absurd rfl hc | exact absurd (by decide) hc))))))
    all_goals ((with_reducible apply At.retB1 (B := [])); exact rfl; exact rfl; exact zml; exact zkp; exact ⟨rfl, rfl, rfl⟩)
  rw [h1] at k1
  refine Ct.enterV (by rfl) Tryz.func165 rfl Tryz.ntmps165 rfl (fun w0 Rest => ?_)
  (repeat' (first | refine zss ?_ | ((first | (with_reducible first | apply At.val | apply AtQ.val)); (exact pr_buildArr (by rfl) (by rfl)); exact rfl) | refine zs0 ?_ | ((with_reducible first | apply AtM1.callp | apply AtQ.callp | apply At.callp); kernel_rfl; exact rfl; exact rfl; exact k1) | ((with_reducible apply At.box (d := 3)); exact rfl; exact rfl; exact rfl; intro b3) | (refine zsp ?_ ?_ <;> (intro hc; (try simp only [zhcs, reduceCtorEq] at hc); (try (exfalso; first | (first | omega | exact absurd hc h0) | contradiction | omega | exact absurd rfl hc | exact absurd (by decide) hc))))))
  (refine At.loopk (σ := Nat) [1, 2, 25] (fun s F0 => (26, .int .i64 (s : Int)) :: F0) (fun s => m) (fun s => Rest) (fun s => s ≤ 2 ∧ (0 < s → ofE c.F.T w = 0 ∧ ofV c.F.T w = i) ∧ (1 < s → ofE c.L.T w = 0 ∧ ofV c.L.T w = i)) (fun s => 2 - s) 0 (by rfl) ?_ zsubs zml zente ?_)
  · exact ⟨Nat.zero_le _, fun h => absurd h (by decide), fun h => absurd h (by decide)⟩
  rintro s ⟨hs, g1, g2⟩
  rcases (show s = 0 ∨ s = 1 ∨ s = 2 by omega) with rfl | rfl | rfl
  · by_cases e : ofE c.F.T w = 0 ∧ ofV c.F.T w = i
    · obtain ⟨e1, e2⟩ := e
      (repeat' (first | refine zss ?_ | ((first | (with_reducible first | apply At.val | apply AtQ.val)); (exact pr_index_agg (k := 0) (by rfl) (by rfl) (by rfl) (by rfl) (by rfl) (by rfl) (by rfl)); exact rfl) | refine zs0 ?_ | ((with_reducible first | apply AtM1.callp | apply AtQ.callp | apply At.callp); kernel_rfl; exact rfl; exact rfl; exact k2) | ((with_reducible apply At.box (d := 3)); exact rfl; exact rfl; exact rfl; intro b3) | (refine zsp ?_ ?_ <;> (intro hc; (try simp only [zhcs, reduceCtorEq] at hc); (try (exfalso; first | (first | omega | exact absurd e1 hc | exact absurd e2 hc) | contradiction | omega | exact absurd rfl hc | exact absurd (by decide) hc))))))
      all_goals ((with_reducible refine At.reachk (1) ?_ ?_ ?_ ?_); exact zsubs; exact zml; exact zente; exact ⟨⟨by decide, fun _ => ⟨e1, e2⟩, fun h => absurd h (by decide)⟩, by decide⟩)
    · rw [decide_eq_false (fun h : fits c w i => e h.2.2.1)]
      by_cases e1 : ofE c.F.T w = 0
      · have e2 : ¬ ofV c.F.T w = i := fun h => e ⟨e1, h⟩
        (repeat' (first | refine zss ?_ | ((first | (with_reducible first | apply At.val | apply AtQ.val)); (exact pr_index_agg (k := 0) (by rfl) (by rfl) (by rfl) (by rfl) (by rfl) (by rfl) (by rfl)); exact rfl) | refine zs0 ?_ | ((with_reducible first | apply AtM1.callp | apply AtQ.callp | apply At.callp); kernel_rfl; exact rfl; exact rfl; exact k2) | ((with_reducible apply At.box (d := 3)); exact rfl; exact rfl; exact rfl; intro b3) | (refine zsp ?_ ?_ <;> (intro hc; (try simp only [zhcs, reduceCtorEq] at hc); (try (exfalso; first | (first | omega | exact absurd e1 hc | exact absurd hc e2) | contradiction | omega | exact absurd rfl hc | exact absurd (by decide) hc))))))
        all_goals ((with_reducible apply At.retB1 (B := [])); exact rfl; exact rfl; exact zml; exact zkp; exact ⟨rfl, rfl, rfl⟩)
      · (repeat' (first | refine zss ?_ | ((first | (with_reducible first | apply At.val | apply AtQ.val)); (exact pr_index_agg (k := 0) (by rfl) (by rfl) (by rfl) (by rfl) (by rfl) (by rfl) (by rfl)); exact rfl) | refine zs0 ?_ | ((with_reducible first | apply AtM1.callp | apply AtQ.callp | apply At.callp); kernel_rfl; exact rfl; exact rfl; exact k2) | ((with_reducible apply At.box (d := 3)); exact rfl; exact rfl; exact rfl; intro b3) | (refine zsp ?_ ?_ <;> (intro hc; (try simp only [zhcs, reduceCtorEq] at hc); (try (exfalso; first | (first | omega | exact absurd hc e1) | contradiction | omega | exact absurd rfl hc | exact absurd (by decide) hc))))))
        all_goals ((with_reducible apply At.retB1 (B := [])); exact rfl; exact rfl; exact zml; exact zkp; exact ⟨rfl, rfl, rfl⟩)
  · by_cases e : ofE c.L.T w = 0 ∧ ofV c.L.T w = i
    · obtain ⟨e1, e2⟩ := e
      (repeat' (first | refine zss ?_ | ((first | (with_reducible first | apply At.val | apply AtQ.val)); (exact pr_index_agg (k := 1) (by rfl) (by rfl) (by rfl) (by rfl) (by rfl) (by rfl) (by rfl)); exact rfl) | refine zs0 ?_ | ((with_reducible first | apply AtM1.callp | apply AtQ.callp | apply At.callp); kernel_rfl; exact rfl; exact rfl; exact k3) | ((with_reducible apply At.box (d := 3)); exact rfl; exact rfl; exact rfl; intro b3) | (refine zsp ?_ ?_ <;> (intro hc; (try simp only [zhcs, reduceCtorEq] at hc); (try (exfalso; first | (first | omega | exact absurd e1 hc | exact absurd e2 hc) | contradiction | omega | exact absurd rfl hc | exact absurd (by decide) hc))))))
      all_goals ((with_reducible refine At.reachk (2) ?_ ?_ ?_ ?_); exact zsubs; exact zml; exact zente; exact ⟨⟨by decide, fun _ => g1 (by decide), fun _ => ⟨e1, e2⟩⟩, by decide⟩)
    · rw [decide_eq_false (fun h : fits c w i => e h.2.2.2)]
      by_cases e1 : ofE c.L.T w = 0
      · have e2 : ¬ ofV c.L.T w = i := fun h => e ⟨e1, h⟩
        (repeat' (first | refine zss ?_ | ((first | (with_reducible first | apply At.val | apply AtQ.val)); (exact pr_index_agg (k := 1) (by rfl) (by rfl) (by rfl) (by rfl) (by rfl) (by rfl) (by rfl)); exact rfl) | refine zs0 ?_ | ((with_reducible first | apply AtM1.callp | apply AtQ.callp | apply At.callp); kernel_rfl; exact rfl; exact rfl; exact k3) | ((with_reducible apply At.box (d := 3)); exact rfl; exact rfl; exact rfl; intro b3) | (refine zsp ?_ ?_ <;> (intro hc; (try simp only [zhcs, reduceCtorEq] at hc); (try (exfalso; first | (first | omega | exact absurd e1 hc | exact absurd hc e2) | contradiction | omega | exact absurd rfl hc | exact absurd (by decide) hc))))))
        all_goals ((with_reducible apply At.retB1 (B := [])); exact rfl; exact rfl; exact zml; exact zkp; exact ⟨rfl, rfl, rfl⟩)
      · (repeat' (first | refine zss ?_ | ((first | (with_reducible first | apply At.val | apply AtQ.val)); (exact pr_index_agg (k := 1) (by rfl) (by rfl) (by rfl) (by rfl) (by rfl) (by rfl) (by rfl)); exact rfl) | refine zs0 ?_ | ((with_reducible first | apply AtM1.callp | apply AtQ.callp | apply At.callp); kernel_rfl; exact rfl; exact rfl; exact k3) | ((with_reducible apply At.box (d := 3)); exact rfl; exact rfl; exact rfl; intro b3) | (refine zsp ?_ ?_ <;> (intro hc; (try simp only [zhcs, reduceCtorEq] at hc); (try (exfalso; first | (first | omega | exact absurd hc e1) | contradiction | omega | exact absurd rfl hc | exact absurd (by decide) hc))))))
        all_goals ((with_reducible apply At.retB1 (B := [])); exact rfl; exact rfl; exact zml; exact zkp; exact ⟨rfl, rfl, rfl⟩)
  · rw [decide_eq_true (show fits c w i from ⟨h0, h1, g1 (by decide), g2 (by decide)⟩)]
    (repeat' (first | refine zss ?_ | refine zs0 ?_ | ((with_reducible apply At.box (d := 3)); exact rfl; exact rfl; exact rfl; intro b3) | (refine zsp ?_ ?_ <;> (intro hc; (try simp only [zhcs, reduceCtorEq] at hc); (try (exfalso; first | omega | contradiction | omega | exact absurd rfl hc | exact absurd (by decide) hc))))))
    all_goals ((with_reducible apply At.retB1 (B := [])); exact rfl; exact rfl; exact zml; exact zkp; exact ⟨rfl, rfl, rfl⟩)
/-- a slot may stand where it does -/
def okS (l : List Slot) (w : Int) (k : Nat) : Prop := l[k]! = z ∨ (slotV l[k]!.w (l.length : Int) = (k : Int) ∧ fits l[k]!.c w l[k]!.w)
instance (l : List Slot) (w : Int) (k : Nat) : Decidable (okS l w k) := by unfold okS; infer_instance
def okT (l : List Slot) (w : Int) : Prop := (1 ≤ l.length ∧ l.length ≤ 4096) ∧ (1 ≤ w ∧ w ≤ 1099511627776) ∧ ∀ k, k < l.length → okS l w k
instance (l : List Slot) (w : Int) : Decidable (okT l w) := by unfold okT; infer_instance
def chk (l : List Slot) (w : Int) : Int := if okT l w then 0 else 2
theorem check {m : Mem} (p : Option Addr) (c : Nat) (l : List Slot) (w : Int) (hI : ∀ s ∈ l, Slot.In s) (sl0 : Sl m cells 15 p c l) :
    Rd Tryz.prog 200 #[.slice p l.length c, .int .i64 w] m [] (.int .i64 (chk l w)) := by
  unfold Rd
  by_cases h0 : (1 ≤ l.length ∧ l.length ≤ 4096) ∧ (1 ≤ w ∧ w ≤ 1099511627776)
  rotate_left
  · rw [show chk l w = 2 from if_neg (fun h => h0 ⟨h.1, h.2.1⟩)]
    refine Ct.enterV (by rfl) Tryz.func200 rfl Tryz.ntmps200 rfl (fun w0 Rest => ?_)
    (repeat' (first | refine zss ?_ | refine zsM ?_ | ((with_reducible apply At.alloc (d := 6)); exact rfl; exact rfl; intro b6) | (refine zsp ?_ ?_ <;> (intro hc; (try simp only [zhcs, reduceCtorEq] at hc); (try (exfalso; first | omega | contradiction | omega | exact absurd rfl hc | exact absurd (by decide) hc))))))
    all_goals ((with_reducible apply At.retB1 (B := [])); exact rfl; exact rfl; exact zml; exact zkp; exact ⟨rfl, rfl, rfl⟩)
  obtain ⟨h1, h2⟩ := h0
  refine Ct.enterV (by rfl) Tryz.func200 rfl Tryz.ntmps200 rfl (fun w0 Rest => ?_)
  (repeat' (first | refine zss ?_ | refine zsM ?_ | ((with_reducible apply At.alloc (d := 6)); exact rfl; exact rfl; intro b6) | (refine zsp ?_ ?_ <;> (intro hc; (try simp only [zhcs, reduceCtorEq] at hc); (try (exfalso; first | omega | contradiction | omega | exact absurd rfl hc | exact absurd (by decide) hc))))))
  (refine At.loopk (σ := Nat) [0, 1, 23, 24] (fun s F0 => (25, .int .i64 (s : Int)) :: F0) (fun s => m) (fun s => Rest) (fun s => s ≤ l.length ∧ ∀ k, k < s → okS l w k) (fun s => l.length - s) 0 (by rfl) ?_ zsubs zml zente ?_)
  · exact ⟨Nat.zero_le _, fun k h => absurd h (Nat.not_lt_zero k)⟩
  rintro s ⟨hs, hn⟩
  by_cases h : s < l.length
  · have hi := hI l[s]! (by rw [getElem!_pos l s h]; exact List.getElem_mem h)
    have k1 := none_ l[s]!
    have k2 := win_slot l[s]!.w (l.length : Int) hi.1 (by omega)
    have k3 := fitsT l[s]!.c w l[s]!.w hi.2.1
    have hstep : okS l w s → ∀ k, k < s + 1 → okS l w k := fun ho k hk => by
      by_cases e : k = s
      · subst e; exact ho
      · exact hn k (by omega)
    have hbad : ¬ okS l w s → chk l w = 2 := fun ho => if_neg fun hh => ho (hh.2.2 s h)
    unfold okS at hstep hbad
    clear hI hi hn
    by_cases hz : l[s]! = z
    · rw [decide_eq_true hz] at k1
      (repeat' (first | refine zss ?_ | refine zsM ?_ | ((with_reducible first | apply AtM1.callp | apply AtQ.callp | apply At.callp); kernel_rfl; exact rfl; exact rfl; exact k1) | ((with_reducible apply At.alloc (d := 6)); exact rfl; exact rfl; intro b6) | (refine zsp ?_ ?_ <;> (intro hc; (try simp only [zhcs, reduceCtorEq] at hc); (try (exfalso; first | omega | contradiction | omega | exact absurd rfl hc | exact absurd (by decide) hc))))))
      all_goals ((with_reducible refine At.reachk ((s + 1)) ?_ ?_ ?_ ?_); exact zsubs; exact zml; exact zente; exact ⟨⟨h, hstep (.inl hz)⟩, by omega⟩)
    rw [decide_eq_false hz] at k1
    by_cases e1 : slotV l[s]!.w (l.length : Int) = (s : Int)
    rotate_left
    · rw [hbad (fun ho => ho.elim hz (fun ho => e1 ho.1))]
      generalize slotV l[s]!.w (l.length : Int) = q at k2 e1
      (repeat' (first | refine zss ?_ | refine zsM ?_ | ((with_reducible first | apply AtM1.callp | apply AtQ.callp | apply At.callp); kernel_rfl; exact rfl; exact rfl; exact k1) | ((with_reducible first | apply AtM1.callp | apply AtQ.callp | apply At.callp); kernel_rfl; exact rfl; exact rfl; exact k2) | ((with_reducible apply At.alloc (d := 6)); exact rfl; exact rfl; intro b6) | (refine zsp ?_ ?_ <;> (intro hc; (try simp only [zhcs, reduceCtorEq] at hc); (try (exfalso; first | (first | omega | exact absurd hc e1) | contradiction | omega | exact absurd rfl hc | exact absurd (by decide) hc))))))
      all_goals ((with_reducible apply At.retB1 (B := [])); exact rfl; exact rfl; exact zml; exact zkp; exact ⟨rfl, rfl, rfl⟩)
    by_cases e2 : fits l[s]!.c w l[s]!.w
    · rw [decide_eq_true e2] at k3
      have hst := hstep (.inr ⟨e1, e2⟩)
      rw [e1] at k2
      clear hstep hbad e1
      (repeat' (first | refine zss ?_ | refine zsM ?_ | ((with_reducible first | apply AtM1.callp | apply AtQ.callp | apply At.callp); kernel_rfl; exact rfl; exact rfl; exact k1) | ((with_reducible first | apply AtM1.callp | apply AtQ.callp | apply At.callp); kernel_rfl; exact rfl; exact rfl; exact k2) | ((with_reducible first | apply AtM1.callp | apply AtQ.callp | apply At.callp); kernel_rfl; exact rfl; exact rfl; exact k3) | ((with_reducible apply At.alloc (d := 6)); exact rfl; exact rfl; intro b6) | (refine zsp ?_ ?_ <;> (intro hc; (try simp only [zhcs, reduceCtorEq] at hc); (try (exfalso; first | (first | omega | exact absurd rfl hc) | contradiction | omega | exact absurd rfl hc | exact absurd (by decide) hc))))))
      all_goals ((with_reducible refine At.reachk ((s + 1)) ?_ ?_ ?_ ?_); exact zsubs; exact zml; exact zente; exact ⟨⟨h, hst⟩, by omega⟩)
    · rw [hbad (fun ho => ho.elim hz (fun ho => e2 ho.2))]
      rw [decide_eq_false e2] at k3
      rw [e1] at k2
      clear hstep hbad e1
      (repeat' (first | refine zss ?_ | refine zsM ?_ | ((with_reducible first | apply AtM1.callp | apply AtQ.callp | apply At.callp); kernel_rfl; exact rfl; exact rfl; exact k1) | ((with_reducible first | apply AtM1.callp | apply AtQ.callp | apply At.callp); kernel_rfl; exact rfl; exact rfl; exact k2) | ((with_reducible first | apply AtM1.callp | apply AtQ.callp | apply At.callp); kernel_rfl; exact rfl; exact rfl; exact k3) | ((with_reducible apply At.alloc (d := 6)); exact rfl; exact rfl; intro b6) | (refine zsp ?_ ?_ <;> (intro hc; (try simp only [zhcs, reduceCtorEq] at hc); (try (exfalso; first | (first | omega | exact absurd rfl hc) | contradiction | omega | exact absurd rfl hc | exact absurd (by decide) hc))))))
      all_goals ((with_reducible apply At.retB1 (B := [])); exact rfl; exact rfl; exact zml; exact zkp; exact ⟨rfl, rfl, rfl⟩)
  · rw [show chk l w = 0 from if_pos ⟨h1, h2, fun k hk => hn k (by omega)⟩]
    (repeat' (first | refine zss ?_ | refine zsM ?_ | ((with_reducible apply At.alloc (d := 6)); exact rfl; exact rfl; intro b6) | (refine zsp ?_ ?_ <;> (intro hc; (try simp only [zhcs, reduceCtorEq] at hc); (try (exfalso; first | omega | contradiction | omega | exact absurd rfl hc | exact absurd (by decide) hc))))))
    all_goals ((with_reducible apply At.retB1 (B := [])); exact rfl; exact rfl; exact zml; exact zkp; exact ⟨rfl, rfl, rfl⟩)
end Ti
end Go.Proofs.YtkoijdmlehkhbaaGreatDoor

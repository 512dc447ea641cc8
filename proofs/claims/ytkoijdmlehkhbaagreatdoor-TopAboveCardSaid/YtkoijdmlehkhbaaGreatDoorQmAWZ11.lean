/- Part 11 of what the law's proof needs: rules of the walk, contracts of functions, plain laws. No condition. -/
import Derived.Test.YtkoijdmlehkhbaaGreatDoorQmAWZ10
import Derived.Test.YtkoijdmlehkhbaaGreatDoorRows
import Derived.Lib.ItoaNum
import Derived.Lib.BitFns
import Derived.Laws.AppendOwn
import Derived.Below
import Derived.Shelf.Small.Bits
import Derived.Test.YtkoijdmlehkhbaaGreatDoorProg
import Derived.Shelf.Spec.BitsCarry
import Derived.Lib.TrailingZeros
set_option linter.unusedSimpArgs false
set_option linter.unusedVariables false
set_option linter.unusedSectionVars false
set_option maxRecDepth 20000
set_option maxHeartbeats 4000000
namespace Go.Proofs.YtkoijdmlehkhbaaGreatDoor
open Go Go.J
attribute [local irreducible] At AtQ AtM AtM1 PR Ct Pu Rd Res.blk Res.own Res.ex RVs RV
namespace St
open Se Win
theorem mk_bd {u : Sta} (hk : u.k.ok) (ht : tm u.now) : 0 ≤ mk u ∧ mk u ≤ u.now := by
  have f := mod_bd (t := u.now) (w := u.k.a) hk.ha.1
  have g : u.now % u.k.a ≤ u.now := by
    have := Int.emod_add_mul_ediv u.now u.k.a
    have h2 := Int.mul_nonneg (show 0 ≤ u.k.a by have := hk.ha; omega) (Int.ediv_nonneg ht.1 (show 0 ≤ u.k.a by have := hk.ha; omega))
    omega
  unfold mk
  omega
/-- what a place has may be, twins aside -/
def rgh (u : Sta) (x : Ser) : Prop := sok u.k x ∧ 0 ≤ x.last ∧ x.last < mk u + u.k.a
instance (u : Sta) (x : Ser) : Decidable (rgh u x) := by unfold rgh; infer_instance
def rgt (u : Sta) (i : Nat) : Bool := emp u.pl.l[i]! || (decide (rgh u u.pl.l[i]!) && !twn u i)
theorem right {m : Mem} (u : Sta) (i : Nat) (hs : u.Ok m) (hi : i < u.pl.l.length) (hk : u.k.ok) (ht : tm u.now) : Rd Tryz.prog 39 #[u.v, .int .i64 (i : Int)] m [] (.bool (rgt u i)) := by
  unfold Rd
  have sl0 := hs.sl
  have np := hs.np
  have hb := mk_bd hk ht
  have ha := hk.ha
  have hx := hs.at hi
  have k1 := fun (m' : Mem) (h : m.le m') => empty u.pl.l[i]! (hx.mono h)
  have k2 := fun (m' : Mem) (h : m.le m') => checkS u.k u.pl.l[i]! (hx.mono h)
  have k3 := mark u hk ht
  have k4 := fun (m' : Mem) (h : m.le m') => twin u i (hs.mono h) hi
  unfold tm at ht
  unfold rgt
  unfold schk at k2
  clear hs hx hk
  generalize emp u.pl.l[i]! = e at k1 ⊢
  generalize twn u i = w at k4 ⊢
  cases e
  rotate_left
  · rw [Bool.true_or]
    refine Ct.enterV (by rfl) Tryz.func39 rfl Tryz.ntmps39 rfl (fun w0 Rest => ?_)
    (repeat' (first | refine zss ?_ | refine zsM ?_ | ((with_reducible first | apply AtM1.cr | apply AtQ.cr | apply At.cr); exact rfl; exact rfl; exact fun _ hmm => k1 _ hmm; exact ztk; kernel_rfl) | ((with_reducible apply At.box (d := 2)); exact rfl; exact rfl; exact rfl; intro b2) | ((with_reducible apply At.alloc (d := 5)); exact rfl; exact rfl; intro b5) | (refine zsp ?_ ?_ <;> (intro hc; (try simp only [zhcs, reduceCtorEq] at hc); (try (exfalso; first | (first | omega | exact absurd rfl hc) | contradiction | omega | exact absurd rfl hc | exact absurd (by decide) hc))))))
    all_goals ((with_reducible apply At.retB1 (B := [])); exact rfl; exact rfl; exact zml; exact zkp; exact ⟨rfl, rfl, rfl⟩)
  rw [Bool.false_or]
  by_cases h1 : sok u.k u.pl.l[i]!
  rotate_left
  · rw [if_neg h1] at k2
    rw [decide_eq_false (fun h => h1 h.1), Bool.false_and]
    refine Ct.enterV (by rfl) Tryz.func39 rfl Tryz.ntmps39 rfl (fun w0 Rest => ?_)
    (repeat' (first | refine zss ?_ | refine zsM ?_ | ((with_reducible first | apply AtM1.cr | apply AtQ.cr | apply At.cr); exact rfl; exact rfl; exact fun _ hmm => k1 _ hmm; exact ztk; kernel_rfl) | ((with_reducible first | apply AtM1.cr | apply AtQ.cr | apply At.cr); exact rfl; exact rfl; exact fun _ hmm => k2 _ hmm; exact ztk; kernel_rfl) | ((with_reducible apply At.box (d := 2)); exact rfl; exact rfl; exact rfl; intro b2) | ((with_reducible apply At.alloc (d := 5)); exact rfl; exact rfl; intro b5) | (refine zsp ?_ ?_ <;> (intro hc; (try simp only [zhcs, reduceCtorEq] at hc); (try (exfalso; first | (first | omega | exact absurd rfl hc) | contradiction | omega | exact absurd rfl hc | exact absurd (by decide) hc))))))
    all_goals ((with_reducible apply At.retB1 (B := [])); exact rfl; exact rfl; exact zml; exact zkp; exact ⟨rfl, rfl, rfl⟩)
  rw [if_pos h1] at k2
  by_cases h2 : 0 ≤ u.pl.l[i]!.last
  rotate_left
  · rw [decide_eq_false (fun h => h2 h.2.1), Bool.false_and]
    refine Ct.enterV (by rfl) Tryz.func39 rfl Tryz.ntmps39 rfl (fun w0 Rest => ?_)
    (repeat' (first | refine zss ?_ | refine zsM ?_ | ((with_reducible first | apply AtM1.cr | apply AtQ.cr | apply At.cr); exact rfl; exact rfl; exact fun _ hmm => k1 _ hmm; exact ztk; kernel_rfl) | ((with_reducible first | apply AtM1.cr | apply AtQ.cr | apply At.cr); exact rfl; exact rfl; exact fun _ hmm => k2 _ hmm; exact ztk; kernel_rfl) | ((with_reducible apply At.box (d := 2)); exact rfl; exact rfl; exact rfl; intro b2) | ((with_reducible apply At.alloc (d := 5)); exact rfl; exact rfl; intro b5) | (refine zsp ?_ ?_ <;> (intro hc; (try simp only [zhcs, reduceCtorEq] at hc); (try (exfalso; first | (first | omega | exact absurd rfl hc) | contradiction | omega | exact absurd rfl hc | exact absurd (by decide) hc))))))
    all_goals ((with_reducible apply At.retB1 (B := [])); exact rfl; exact rfl; exact zml; exact zkp; exact ⟨rfl, rfl, rfl⟩)
  by_cases h3 : u.pl.l[i]!.last < mk u + u.k.a
  rotate_left
  · rw [decide_eq_false (fun h => h3 h.2.2), Bool.false_and]
    clear h1
    refine Ct.enterV (by rfl) Tryz.func39 rfl Tryz.ntmps39 rfl (fun w0 Rest => ?_)
    (repeat' (first | refine zss ?_ | ((first | (with_reducible first | apply At.val | apply AtQ.val)); (exact pr_indexArr (k := 0) (by rfl) (by rfl) (by rfl) (by rfl) (by decide)); exact rfl) | refine zsM ?_ | ((with_reducible first | apply AtM1.cr | apply AtQ.cr | apply At.cr); exact rfl; exact rfl; exact fun _ hmm => k1 _ hmm; exact ztk; kernel_rfl) | ((with_reducible first | apply AtM1.cr | apply AtQ.cr | apply At.cr); exact rfl; exact rfl; exact fun _ hmm => k2 _ hmm; exact ztk; kernel_rfl) | ((with_reducible first | apply AtM1.callp | apply AtQ.callp | apply At.callp); kernel_rfl; exact rfl; exact rfl; exact k3) | ((with_reducible apply At.box (d := 2)); exact rfl; exact rfl; exact rfl; intro b2) | ((with_reducible apply At.alloc (d := 5)); exact rfl; exact rfl; intro b5) | (refine zsp ?_ ?_ <;> (intro hc; (try simp only [zhcs, reduceCtorEq] at hc); (try (exfalso; first | (first | omega | exact absurd rfl hc) | contradiction | omega | exact absurd rfl hc | exact absurd (by decide) hc))))))
    all_goals ((with_reducible apply At.retB1 (B := [])); exact rfl; exact rfl; exact zml; exact zkp; exact ⟨rfl, rfl, rfl⟩)
  · rw [decide_eq_true (show rgh u u.pl.l[i]! from ⟨h1, h2, h3⟩), Bool.true_and]
    clear h1
    refine Ct.enterV (by rfl) Tryz.func39 rfl Tryz.ntmps39 rfl (fun w0 Rest => ?_)
    (repeat' (first | refine zss ?_ | ((first | (with_reducible first | apply At.val | apply AtQ.val)); (exact pr_indexArr (k := 0) (by rfl) (by rfl) (by rfl) (by rfl) (by decide)); exact rfl) | refine zsM ?_ | ((with_reducible first | apply AtM1.cr | apply AtQ.cr | apply At.cr); exact rfl; exact rfl; exact fun _ hmm => k1 _ hmm; exact ztk; kernel_rfl) | ((with_reducible first | apply AtM1.cr | apply AtQ.cr | apply At.cr); exact rfl; exact rfl; exact fun _ hmm => k2 _ hmm; exact ztk; kernel_rfl) | ((with_reducible first | apply AtM1.callp | apply AtQ.callp | apply At.callp); kernel_rfl; exact rfl; exact rfl; exact k3) | ((with_reducible first | apply AtM1.cr | apply AtQ.cr | apply At.cr); exact rfl; exact rfl; exact fun _ hmm => k4 _ hmm; exact ztk; kernel_rfl) | ((with_reducible apply At.box (d := 2)); exact rfl; exact rfl; exact rfl; intro b2) | ((with_reducible apply At.alloc (d := 5)); exact rfl; exact rfl; intro b5) | (refine zsp ?_ ?_ <;> (intro hc; (try simp only [zhcs, reduceCtorEq] at hc); (try (exfalso; first | (first | omega | exact absurd rfl hc) | contradiction | omega | exact absurd rfl hc | exact absurd (by decide) hc))))))
    all_goals ((with_reducible apply At.retB1 (B := [])); exact rfl; exact rfl; exact zml; exact zkp; exact ⟨rfl, rfl, rfl⟩)
theorem check1 {m : Mem} (b : Nat) (u : Sta) (i : Nat) (hs : u.Ok m) (hi : i < u.pl.l.length) (hk : u.k.ok) (ht : tm u.now) : Ct Tryz.prog 38 #[.int .i64 (i : Int), pt b] m [vb b u] (fun v m' B => v = .bool (!rgt u i) ∧ m = m' ∧ B = [vb b u]) := by
  have k1 := fun (m' : Mem) (h : m.le m') => right u i (hs.mono h) hi hk ht
  refine Ct.enterV (by rfl) Tryz.func38 rfl Tryz.ntmps38 rfl (fun w0 Rest => ?_)
  (repeat' (first | refine zss ?_ | refine zs0 ?_ | ((with_reducible first | apply AtM1.cr | apply AtQ.cr | apply At.cr); exact rfl; exact rfl; exact fun _ hmm => k1 _ hmm; exact ztk; kernel_rfl) | (refine zsp ?_ ?_ <;> (intro hc; (try simp only [zhcs, reduceCtorEq] at hc); (try (exfalso; first | contradiction | omega | exact absurd rfl hc | exact absurd (by decide) hc))))))
  all_goals ((with_reducible apply At.retB1 (B := [vb b u])); exact rfl; exact rfl; exact zml; exact zkp; exact ⟨rfl, rfl, rfl⟩)
/-- a state is right -/
def okU (u : Sta) : Prop := whole u ∧ clk u ∧ ∀ i, i < u.pl.l.length → rgt u i = true
instance (u : Sta) : Decidable (okU u) := by unfold okU; infer_instance
def chk (u : Sta) : Int := if okU u then 0 else 2
theorem check {m : Mem} (u : Sta) (hs : u.Ok m) : Rd Tryz.prog 8 #[u.v] m [] (.int .i64 (chk u)) := by
  unfold Rd
  by_cases h0 : whole u
  rotate_left
  · have k0 := openN u h0
    rw [show chk u = 2 from if_neg (fun h => h0 h.1)]
    refine Ct.enterV (by rfl) Tryz.func8 rfl Tryz.ntmps8 rfl (fun w0 Rest => ?_)
    (repeat' (first | refine zss ?_ | refine zs0 ?_ | ((with_reducible first | apply AtM1.callp | apply AtQ.callp | apply At.callp); kernel_rfl; exact rfl; exact rfl; exact k0) | ((with_reducible apply At.box (d := 1)); exact rfl; exact rfl; exact rfl; intro b1) | ((with_reducible apply At.alloc (d := 3)); exact rfl; exact rfl; intro b3) | (refine zsp ?_ ?_ <;> (intro hc; (try simp only [zhcs, reduceCtorEq] at hc); (try (exfalso; first | (first | omega | exact absurd rfl hc) | contradiction | omega | exact absurd rfl hc | exact absurd (by decide) hc))))))
    all_goals ((with_reducible apply At.retB1 (B := [])); exact rfl; exact rfl; exact zml; exact zkp; exact ⟨rfl, rfl, rfl⟩)
  have k0 := openK u h0
  have k1 := clock u
  by_cases h1 : clk u
  rotate_left
  · rw [decide_eq_false h1] at k1
    rw [show chk u = 2 from if_neg (fun h => h1 h.2.1)]
    refine Ct.enterV (by rfl) Tryz.func8 rfl Tryz.ntmps8 rfl (fun w0 Rest => ?_)
    (repeat' (first | refine zss ?_ | refine zs0 ?_ | ((with_reducible first | apply AtM1.callp | apply AtQ.callp | apply At.callp); kernel_rfl; exact rfl; exact rfl; exact k0) | ((with_reducible first | apply AtM1.callp | apply AtQ.callp | apply At.callp); kernel_rfl; exact rfl; exact rfl; exact k1) | ((with_reducible apply At.box (d := 1)); exact rfl; exact rfl; exact rfl; intro b1) | ((with_reducible apply At.alloc (d := 3)); exact rfl; exact rfl; intro b3) | (refine zsp ?_ ?_ <;> (intro hc; (try simp only [zhcs, reduceCtorEq] at hc); (try (exfalso; first | (first | omega | exact absurd rfl hc) | contradiction | omega | exact absurd rfl hc | exact absurd (by decide) hc))))))
    all_goals ((with_reducible apply At.retB1 (B := [])); exact rfl; exact rfl; exact zml; exact zkp; exact ⟨rfl, rfl, rfl⟩)
  rw [decide_eq_true h1] at k1
  have k2 := fun (m' : Mem) (h : m.le m') b => place u 38 [pt b] [vb b u] (fun i => !rgt u i) (hs.mono h) (by kernel_rfl) (fun m'' h' k hk => check1 b u k (hs.mono (Mem.le_trans h h')) hk h0.1 h1.1)
  have hc0 : chk u = 0 ↔ ∀ i, i < u.pl.l.length → rgt u i = true := by
    unfold chk
    constructor
    · intro h
      by_cases g : okU u
      · exact g.2.2
      · rw [if_neg g] at h; exact absurd h (by decide)
    · exact fun h => if_pos ⟨h0, h1, h⟩
  refine Ct.enterV (by rfl) Tryz.func8 rfl Tryz.ntmps8 rfl (fun w0 Rest => ?_)
  (repeat' (first | refine zss ?_ | refine zs0 ?_ | ((with_reducible first | apply AtM1.callp | apply AtQ.callp | apply At.callp); kernel_rfl; exact rfl; exact rfl; exact k0) | ((with_reducible first | apply AtM1.callp | apply AtQ.callp | apply At.callp); kernel_rfl; exact rfl; exact rfl; exact k1) | ((with_reducible first | apply At.c1 | apply At.c0); exact rfl; exact rfl; exact k2 _ (Mem.le_refl _) _; exact ztk; kernel_rfl; rintro v' m' B' hm' ⟨hf, rfl, rfl⟩; skip; (try (have hq0 : hm' = Mem.le_refl _ := rfl; clear hq0 hm'))) | (rcases hf with ⟨rfl, hn⟩ | ⟨k, rfl, hk, hq, -⟩) | ((with_reducible apply At.box (d := 1)); exact rfl; exact rfl; exact rfl; intro b1) | ((with_reducible apply At.alloc (d := 3)); exact rfl; exact rfl; intro b3) | (refine zsp ?_ ?_ <;> (intro hc; (try simp only [zhcs, reduceCtorEq] at hc); (try (exfalso; first | (first | omega | exact absurd rfl hc) | contradiction | omega | exact absurd rfl hc | exact absurd (by decide) hc))))))
  · rw [hc0.2 (fun i hi => by have := hn i hi; simpa using this)]
    ((with_reducible apply At.retB1 (B := [])); exact rfl; exact rfl; exact zml; exact zkp; exact ⟨rfl, rfl, rfl⟩)
  · rw [show chk u = 2 from if_neg (fun h => by have := h.2.2 k hk; dsimp only at hq; rw [this] at hq; exact absurd hq (by decide))]
    ((with_reducible apply At.retB1 (B := [])); exact rfl; exact rfl; exact zml; exact zkp; exact ⟨rfl, rfl, rfl⟩)
/-- the first place of which something holds, or why there is none -/
def fstO (n : Nat) (q : Nat → Bool) : Option Nat := (List.range n).find? q
theorem fst_none {n : Nat} {q : Nat → Bool} (h : ∀ i, i < n → q i = false) : fstO n q = none := by
  unfold fstO
  rw [List.find?_eq_none]
  intro x hx
  rw [h x (List.mem_range.1 hx)]
  decide
theorem fst_some {n : Nat} {q : Nat → Bool} {k : Nat} (hk : k < n) (hq : q k = true) (hn : ∀ i, i < k → q i = false) : fstO n q = some k := by
  unfold fstO
  rw [List.find?_range_eq_some]
  exact ⟨hq, List.mem_range.2 hk, fun j hj => by rw [hn j hj]; rfl⟩
def sel (u : Sta) (q : Nat → Bool) (e : Int) : Int × Int := if whole u then (match fstO u.pl.l.length q with | some k => ((k : Int), 0) | none => (0, e)) else (0, 2)
theorem sel_none {u : Sta} {q : Nat → Bool} {e : Int} (hw : whole u) (h : ∀ i, i < u.pl.l.length → q i = false) : sel u q e = (0, e) := by unfold sel; rw [if_pos hw, fst_none h]
theorem sel_some {u : Sta} {q : Nat → Bool} {e : Int} {k : Nat} (hw : whole u) (hk : k < u.pl.l.length) (hq : q k = true) (hn : ∀ i, i < k → q i = false) : sel u q e = ((k : Int), 0) := by unfold sel; rw [if_pos hw, fst_some hk hq hn]
theorem sel_bad {u : Sta} {q : Nat → Bool} {e : Int} (hw : ¬ whole u) : sel u q e = (0, 2) := if_neg hw
/-- a series of these labels lives here -/
def fnd (u : Sta) (l : List Lab) (i : Nat) : Bool := decide (u.pl.l[i]!.lab.l = l) && liv u u.pl.l[i]!
abbrev sb (b : Nat) (u : Sta) : Res := .blk b 28 u.cells
abbrev lb (b : Nat) (l : Lst Lab) : Res := .blk b 50 [l.v]
theorem find1 {m : Mem} (b c d : Nat) (u : Sta) (l : Lst Lab) (i : Nat) (hs : u.Ok m) (hi : i < u.pl.l.length) (hl : l.l.length ≤ 1000000000) (sl1 : Sl m Lb.cells 2 l.p l.c l.l) :
    Ct Tryz.prog 146 #[.int .i64 (i : Int), pt b, pt c, pt d] m [sb b u, lb c l, vb d u] (fun v m' B => v = .bool (fnd u l.l i) ∧ m = m' ∧ B = [sb b u, lb c l, vb d u]) := by
  have sl0 := hs.sl
  have np := hs.np
  have k1 := fun (m' : Mem) (h : m.le m') => lives u i (hs.mono h) hi
  have hb := hs.at hi
  have k2 := fun (m' : Mem) (h : m.le m') => Lb.same u.pl.l[i]!.lab.p u.pl.l[i]!.lab.c u.pl.l[i]!.lab.l l.p l.c l.l (Nat.le_trans hb.nl (by decide)) hl (hb.sl.mono h) (sl1.mono h)
  unfold fnd
  generalize liv u u.pl.l[i]! = e at k1 ⊢
  generalize decide (u.pl.l[i]!.lab.l = l.l) = w at k2 ⊢
  clear hs hb
  cases w
  · refine Ct.enterV (by rfl) Tryz.func146 rfl Tryz.ntmps146 rfl (fun w0 Rest => ?_)
    (repeat' (first | refine zss ?_ | refine zsM ?_ | ((with_reducible first | apply AtM1.cr | apply AtQ.cr | apply At.cr); exact rfl; exact rfl; exact fun _ hmm => k2 _ hmm; exact ztk; kernel_rfl) | (refine zsp ?_ ?_ <;> (intro hc; (try simp only [zhcs, reduceCtorEq] at hc); (try (exfalso; first | (first | omega | exact absurd rfl hc) | contradiction | omega | exact absurd rfl hc | exact absurd (by decide) hc))))))
    all_goals ((with_reducible apply At.retB1 (B := [sb b u, lb c l, vb d u])); exact rfl; exact rfl; exact zml; exact zkp; exact ⟨rfl, rfl, rfl⟩)
  · refine Ct.enterV (by rfl) Tryz.func146 rfl Tryz.ntmps146 rfl (fun w0 Rest => ?_)
    (repeat' (first | refine zss ?_ | refine zsM ?_ | ((with_reducible first | apply AtM1.cr | apply AtQ.cr | apply At.cr); exact rfl; exact rfl; exact fun _ hmm => k2 _ hmm; exact ztk; kernel_rfl) | ((with_reducible first | apply AtM1.cr | apply AtQ.cr | apply At.cr); exact rfl; exact rfl; exact fun _ hmm => k1 _ hmm; exact ztk; kernel_rfl) | (refine zsp ?_ ?_ <;> (intro hc; (try simp only [zhcs, reduceCtorEq] at hc); (try (exfalso; first | (first | omega | exact absurd rfl hc) | contradiction | omega | exact absurd rfl hc | exact absurd (by decide) hc))))))
    all_goals ((with_reducible apply At.retB1 (B := [sb b u, lb c l, vb d u])); exact rfl; exact rfl; exact zml; exact zkp; exact ⟨rfl, rfl, rfl⟩)
theorem find {m : Mem} (u : Sta) (l : Lst Lab) (hs : u.Ok m) (hl : l.l.length ≤ 1000000000) (sl1 : Sl m Lb.cells 2 l.p l.c l.l) :
    Rd Tryz.prog 94 #[u.v, l.v] m [] (.tuple #[.int .i64 (sel u (fnd u l.l) 3).1, .int .i64 (sel u (fnd u l.l) 3).2]) := by
  unfold Rd
  by_cases h0 : whole u
  rotate_left
  · have k0 := openN u h0
    rw [sel_bad h0]
    refine Ct.enterV (by rfl) Tryz.func94 rfl Tryz.ntmps94 rfl (fun w0 Rest => ?_)
    (repeat' (first | refine zss ?_ | refine zs0 ?_ | ((with_reducible first | apply AtM1.callp | apply AtQ.callp | apply At.callp); kernel_rfl; exact rfl; exact rfl; exact k0) | ((with_reducible apply At.box (d := 2)); exact rfl; exact rfl; exact rfl; intro b2) | ((with_reducible apply At.box (d := 3)); exact rfl; exact rfl; exact rfl; intro b3) | ((with_reducible apply At.alloc (d := 6)); exact rfl; exact rfl; intro b6) | (refine zsp ?_ ?_ <;> (intro hc; (try simp only [zhcs, reduceCtorEq] at hc); (try (exfalso; first | (first | omega | exact absurd rfl hc) | contradiction | omega | exact absurd rfl hc | exact absurd (by decide) hc))))))
    all_goals ((with_reducible apply At.retV (B := [])); exact rfl; (repeat' (first | exact RVs.nil | (with_reducible apply RVs.cons) | exact rv_tmp (by rfl) | exact rv_cellN (by rfl) (by repeat constructor) (by rfl) (by rfl) (by rfl) | exact rv_cell1 (by rfl) (by repeat constructor) (by rfl) (by rfl))); exact zml; exact zkp; exact ⟨rfl, rfl, rfl⟩)
  have k0 := openK u h0
  have k2 := fun (m' : Mem) (h : m.le m') b c d => place u 146 [pt b, pt c, pt d] [sb b u, lb c l, vb d u] (fnd u l.l) (hs.mono h) (by kernel_rfl) (fun m'' h' k hk => find1 b c d u l k (hs.mono (Mem.le_trans h h')) hk hl (sl1.mono (Mem.le_trans h h')))
  have np := hs.np
  refine Ct.enterV (by rfl) Tryz.func94 rfl Tryz.ntmps94 rfl (fun w0 Rest => ?_)
  (repeat' (first | refine zss ?_ | refine zs0 ?_ | ((with_reducible first | apply AtM1.callp | apply AtQ.callp | apply At.callp); kernel_rfl; exact rfl; exact rfl; exact k0) | ((with_reducible first | apply At.c1 | apply At.c0); exact rfl; exact rfl; exact k2 _ (Mem.le_refl _) _ _ _; exact ztk; kernel_rfl; rintro v' m' B' hm' ⟨hf, rfl, rfl⟩; (try replace sl1 := sl1.mono hm'); (try (have hq0 : hm' = Mem.le_refl _ := rfl; clear hq0 hm'))) | (rcases hf with ⟨rfl, hn⟩ | ⟨k, rfl, hk, hq, hn⟩) | ((with_reducible apply At.box (d := 2)); exact rfl; exact rfl; exact rfl; intro b2) | ((with_reducible apply At.box (d := 3)); exact rfl; exact rfl; exact rfl; intro b3) | ((with_reducible apply At.alloc (d := 6)); exact rfl; exact rfl; intro b6) | (refine zsp ?_ ?_ <;> (intro hc; (try simp only [zhcs, reduceCtorEq] at hc); (try (exfalso; first | (first | omega | exact absurd rfl hc) | contradiction | omega | exact absurd rfl hc | exact absurd (by decide) hc))))))
  · rw [sel_none h0 hn]
    ((with_reducible apply At.retV (B := [])); exact rfl; (repeat' (first | exact RVs.nil | (with_reducible apply RVs.cons) | exact rv_tmp (by rfl) | exact rv_cellN (by rfl) (by repeat constructor) (by rfl) (by rfl) (by rfl) | exact rv_cell1 (by rfl) (by repeat constructor) (by rfl) (by rfl))); exact zml; exact zkp; exact ⟨rfl, rfl, rfl⟩)
  · rw [sel_some h0 hk hq hn]
    ((with_reducible apply At.retV (B := [])); exact rfl; (repeat' (first | exact RVs.nil | (with_reducible apply RVs.cons) | exact rv_tmp (by rfl) | exact rv_cellN (by rfl) (by repeat constructor) (by rfl) (by rfl) (by rfl) | exact rv_cell1 (by rfl) (by repeat constructor) (by rfl) (by rfl))); exact zml; exact zkp; exact ⟨rfl, rfl, rfl⟩)
end St
end Go.Proofs.YtkoijdmlehkhbaaGreatDoor
namespace Go.Proofs.YtkoijdmlehkhbaaGreatDoor
open Go Go.J
attribute [local irreducible] At AtQ AtM AtM1 PR Ct Pu Rd Res.blk Res.own Res.ex RVs RV
namespace Ser
/-- what it has lies where it says; its numbers are numbers; it may be of any length -/
structure Lay (m : Mem) (s : Ser) : Prop where
  sl : Sl m Lb.cells 2 s.lab.p s.lab.c s.lab.l
  sr : Sl m Ev.cells 4 s.raw.p s.raw.c s.raw.l
  s0 : Sl m Slot.cells 15 s.t0.p s.t0.c s.t0.l
  s1 : Sl m Slot.cells 15 s.t1.p s.t1.c s.t1.l
  s2 : Sl m Slot.cells 15 s.t2.p s.t2.c s.t2.l
  i0 : ∀ x ∈ s.t0.l, Slot.In x
  i1 : ∀ x ∈ s.t1.l, Slot.In x
  i2 : ∀ x ∈ s.t2.l, Slot.In x
  io : Slot.In s.op
  ir : ∀ e ∈ s.raw.l, e.V < 18446744073709551616
  bl : -9223372036854775808 ≤ s.last ∧ s.last ≤ 9223372036854775807
theorem Lay.mono {m m' : Mem} {s : Ser} (h : Lay m s) (hm : m.le m') : Lay m' s := ⟨h.sl.mono hm, h.sr.mono hm, h.s0.mono hm, h.s1.mono hm, h.s2.mono hm, h.i0, h.i1, h.i2, h.io, h.ir, h.bl⟩
def sm (x : Ser) : Prop := Lb.few x.lab.l ∧ x.raw.l.length ≤ 60 ∧ x.t0.l.length ≤ 40 ∧ x.t1.l.length ≤ 40 ∧ x.t2.l.length ≤ 40
instance (x : Ser) : Decidable (sm x) := by unfold sm; infer_instance
theorem Lay.ok {m : Mem} {x : Ser} (h : Lay m x) (hs : sm x) : Ok m x :=
  ⟨h.sl, h.sr, h.s0, h.s1, h.s2, hs.1.mid, h.i0, h.i1, h.i2, h.io, h.ir, Nat.le_trans hs.1.1 (by decide), Nat.le_trans hs.2.1 (by decide), Nat.le_trans hs.2.2.1 (by decide), Nat.le_trans hs.2.2.2.1 (by decide), Nat.le_trans hs.2.2.2.2 (by decide), h.bl⟩
end Ser
namespace St
open Se Win
theorem small14 (a b c : Lst Slot) : Pu Tryz.prog 80 #[t3v a b c] (.int .i64 (if a.l.length ≤ 40 ∧ b.l.length ≤ 40 ∧ c.l.length ≤ 40 then 1 else 0)) := Pu.intro fun m => by
  refine Ct.enterV (by rfl) Tryz.func80 rfl Tryz.ntmps80 rfl (fun w0 Rest => ?_)
  (repeat' (first | refine zss ?_ | refine zs0 ?_ | ((with_reducible apply At.box (d := 1)); exact rfl; exact rfl; exact rfl; intro b1) | (refine zsp ?_ ?_ <;> (intro hc; (try simp only [zhcs, reduceCtorEq] at hc); (try (exfalso; first | contradiction | omega | exact absurd rfl hc | exact absurd (by decide) hc))))))
  (refine At.loopk (σ := Nat) [1] (fun s F0 => (4, .int .i64 (s : Int)) :: F0) (fun s => m) (fun s => .blk b1 55 [a.v, b.v, c.v] :: Rest) (fun s => s ≤ 3 ∧ (0 < s → a.l.length ≤ 40) ∧ (1 < s → b.l.length ≤ 40) ∧ (2 < s → c.l.length ≤ 40)) (fun s => 3 - s) 0 (by rfl) ?_ zsubs zml zente ?_)
  · exact ⟨Nat.zero_le _, fun h => absurd h (by decide), fun h => absurd h (by decide), fun h => absurd h (by decide)⟩
  rintro s ⟨hs, g0, g1, g2⟩
  rcases (show s = 0 ∨ s = 1 ∨ s = 2 ∨ s = 3 by omega) with rfl | rfl | rfl | rfl
  · by_cases h : a.l.length ≤ 40
    · (repeat' (first | refine zss ?_ | ((first | (with_reducible first | apply At.val | apply AtQ.val)); (exact pr_indexArr (k := 0) (by rfl) (by rfl) (by rfl) (by rfl) (by decide)); exact rfl) | refine zs0 ?_ | ((with_reducible apply At.box (d := 1)); exact rfl; exact rfl; exact rfl; intro b1) | (refine zsp ?_ ?_ <;> (intro hc; (try simp only [zhcs, reduceCtorEq] at hc); (try (exfalso; first | omega | contradiction | omega | exact absurd rfl hc | exact absurd (by decide) hc))))))
      all_goals ((with_reducible refine At.reachk (1) ?_ ?_ ?_ ?_); exact zsubs; exact zml; exact zente; exact ⟨⟨by decide, fun _ => h, fun h => absurd h (by decide), fun h => absurd h (by decide)⟩, by decide⟩)
    · rw [if_neg (fun k => h k.1)]
      (repeat' (first | refine zss ?_ | ((first | (with_reducible first | apply At.val | apply AtQ.val)); (exact pr_indexArr (k := 0) (by rfl) (by rfl) (by rfl) (by rfl) (by decide)); exact rfl) | refine zs0 ?_ | ((with_reducible apply At.box (d := 1)); exact rfl; exact rfl; exact rfl; intro b1) | (refine zsp ?_ ?_ <;> (intro hc; (try simp only [zhcs, reduceCtorEq] at hc); (try (exfalso; first | omega | contradiction | omega | exact absurd rfl hc | exact absurd (by decide) hc))))))
      all_goals ((with_reducible apply At.retB1 (B := [])); exact rfl; exact rfl; exact zml; exact zkp; exact ⟨rfl, rfl, rfl⟩)
  · by_cases h : b.l.length ≤ 40
    · (repeat' (first | refine zss ?_ | ((first | (with_reducible first | apply At.val | apply AtQ.val)); (exact pr_indexArr (k := 1) (by rfl) (by rfl) (by rfl) (by rfl) (by decide)); exact rfl) | refine zs0 ?_ | ((with_reducible apply At.box (d := 1)); exact rfl; exact rfl; exact rfl; intro b1) | (refine zsp ?_ ?_ <;> (intro hc; (try simp only [zhcs, reduceCtorEq] at hc); (try (exfalso; first | omega | contradiction | omega | exact absurd rfl hc | exact absurd (by decide) hc))))))
      all_goals ((with_reducible refine At.reachk (2) ?_ ?_ ?_ ?_); exact zsubs; exact zml; exact zente; exact ⟨⟨by decide, fun _ => g0 (by decide), fun _ => h, fun h => absurd h (by decide)⟩, by decide⟩)
    · rw [if_neg (fun k => h k.2.1)]
      (repeat' (first | refine zss ?_ | ((first | (with_reducible first | apply At.val | apply AtQ.val)); (exact pr_indexArr (k := 1) (by rfl) (by rfl) (by rfl) (by rfl) (by decide)); exact rfl) | refine zs0 ?_ | ((with_reducible apply At.box (d := 1)); exact rfl; exact rfl; exact rfl; intro b1) | (refine zsp ?_ ?_ <;> (intro hc; (try simp only [zhcs, reduceCtorEq] at hc); (try (exfalso; first | omega | contradiction | omega | exact absurd rfl hc | exact absurd (by decide) hc))))))
      all_goals ((with_reducible apply At.retB1 (B := [])); exact rfl; exact rfl; exact zml; exact zkp; exact ⟨rfl, rfl, rfl⟩)
  · by_cases h : c.l.length ≤ 40
    · (repeat' (first | refine zss ?_ | ((first | (with_reducible first | apply At.val | apply AtQ.val)); (exact pr_indexArr (k := 2) (by rfl) (by rfl) (by rfl) (by rfl) (by decide)); exact rfl) | refine zs0 ?_ | ((with_reducible apply At.box (d := 1)); exact rfl; exact rfl; exact rfl; intro b1) | (refine zsp ?_ ?_ <;> (intro hc; (try simp only [zhcs, reduceCtorEq] at hc); (try (exfalso; first | omega | contradiction | omega | exact absurd rfl hc | exact absurd (by decide) hc))))))
      all_goals ((with_reducible refine At.reachk (3) ?_ ?_ ?_ ?_); exact zsubs; exact zml; exact zente; exact ⟨⟨by decide, fun _ => g0 (by decide), fun _ => g1 (by decide), fun _ => h⟩, by decide⟩)
    · rw [if_neg (fun k => h k.2.2)]
      (repeat' (first | refine zss ?_ | ((first | (with_reducible first | apply At.val | apply AtQ.val)); (exact pr_indexArr (k := 2) (by rfl) (by rfl) (by rfl) (by rfl) (by decide)); exact rfl) | refine zs0 ?_ | ((with_reducible apply At.box (d := 1)); exact rfl; exact rfl; exact rfl; intro b1) | (refine zsp ?_ ?_ <;> (intro hc; (try simp only [zhcs, reduceCtorEq] at hc); (try (exfalso; first | omega | contradiction | omega | exact absurd rfl hc | exact absurd (by decide) hc))))))
      all_goals ((with_reducible apply At.retB1 (B := [])); exact rfl; exact rfl; exact zml; exact zkp; exact ⟨rfl, rfl, rfl⟩)
  · rw [if_pos ⟨g0 (by decide), g1 (by decide), g2 (by decide)⟩]
    (repeat' (first | refine zss ?_ | refine zs0 ?_ | ((with_reducible apply At.box (d := 1)); exact rfl; exact rfl; exact rfl; intro b1) | (refine zsp ?_ ?_ <;> (intro hc; (try simp only [zhcs, reduceCtorEq] at hc); (try (exfalso; first | omega | contradiction | omega | exact absurd rfl hc | exact absurd (by decide) hc))))))
    all_goals ((with_reducible apply At.retB1 (B := [])); exact rfl; exact rfl; exact zml; exact zkp; exact ⟨rfl, rfl, rfl⟩)
def smI (x : Ser) : Int := if x.sm then 1 else 0
theorem small15 {m : Mem} (x : Ser) (hx : x.Lay m) : Rd Tryz.prog 34 #[x.v] m [] (.int .i64 (smI x)) := by
  unfold Rd
  have k1 := fun (m' : Mem) (h : m.le m') => Lb.small x.lab.p x.lab.c x.lab.l (hx.sl.mono h)
  have k2 := small14 x.t0 x.t1 x.t2
  clear hx
  unfold smI
  by_cases h1 : Lb.few x.lab.l
  rotate_left
  · rw [if_neg h1] at k1
    rw [if_neg (fun h => h1 h.1)]
    refine Ct.enterV (by rfl) Tryz.func34 rfl Tryz.ntmps34 rfl (fun w0 Rest => ?_)
    (repeat' (first | refine zss ?_ | refine zsM ?_ | ((with_reducible first | apply AtM1.cr | apply AtQ.cr | apply At.cr); exact rfl; exact rfl; exact fun _ hmm => k1 _ hmm; exact ztk; kernel_rfl) | ((with_reducible apply At.box (d := 1)); exact rfl; exact rfl; exact rfl; intro b1) | (refine zsp ?_ ?_ <;> (intro hc; (try simp only [zhcs, reduceCtorEq] at hc); (try (exfalso; first | (first | omega | exact absurd rfl hc) | contradiction | omega | exact absurd rfl hc | exact absurd (by decide) hc))))))
    all_goals ((with_reducible apply At.retB1 (B := [])); exact rfl; exact rfl; exact zml; exact zkp; exact ⟨rfl, rfl, rfl⟩)
  rw [if_pos h1] at k1
  by_cases h2 : x.raw.l.length ≤ 60
  rotate_left
  · rw [if_neg (fun h => h2 h.2.1)]
    clear h1
    refine Ct.enterV (by rfl) Tryz.func34 rfl Tryz.ntmps34 rfl (fun w0 Rest => ?_)
    (repeat' (first | refine zss ?_ | refine zsM ?_ | ((with_reducible first | apply AtM1.cr | apply AtQ.cr | apply At.cr); exact rfl; exact rfl; exact fun _ hmm => k1 _ hmm; exact ztk; kernel_rfl) | ((with_reducible apply At.box (d := 1)); exact rfl; exact rfl; exact rfl; intro b1) | (refine zsp ?_ ?_ <;> (intro hc; (try simp only [zhcs, reduceCtorEq] at hc); (try (exfalso; first | (first | omega | exact absurd rfl hc) | contradiction | omega | exact absurd rfl hc | exact absurd (by decide) hc))))))
    all_goals ((with_reducible apply At.retB1 (B := [])); exact rfl; exact rfl; exact zml; exact zkp; exact ⟨rfl, rfl, rfl⟩)
  rw [show (if x.sm then (1 : Int) else 0) = (if x.t0.l.length ≤ 40 ∧ x.t1.l.length ≤ 40 ∧ x.t2.l.length ≤ 40 then 1 else 0) by
    by_cases h : x.t0.l.length ≤ 40 ∧ x.t1.l.length ≤ 40 ∧ x.t2.l.length ≤ 40
    · rw [if_pos h, if_pos ⟨h1, h2, h.1, h.2.1, h.2.2⟩]
    · rw [if_neg h, if_neg (fun g => h ⟨g.2.2.1, g.2.2.2.1, g.2.2.2.2⟩)]]
  clear h1
  refine Ct.enterV (by rfl) Tryz.func34 rfl Tryz.ntmps34 rfl (fun w0 Rest => ?_)
  (repeat' (first | refine zss ?_ | refine zsM ?_ | ((with_reducible first | apply AtM1.cr | apply AtQ.cr | apply At.cr); exact rfl; exact rfl; exact fun _ hmm => k1 _ hmm; exact ztk; kernel_rfl) | ((with_reducible first | apply AtM1.callp | apply AtQ.callp | apply At.callp); kernel_rfl; exact rfl; exact rfl; exact k2) | ((with_reducible apply At.box (d := 1)); exact rfl; exact rfl; exact rfl; intro b1) | (refine zsp ?_ ?_ <;> (intro hc; (try simp only [zhcs, reduceCtorEq] at hc); (try (exfalso; first | (first | omega | exact absurd rfl hc) | contradiction | omega | exact absurd rfl hc | exact absurd (by decide) hc))))))
  all_goals ((with_reducible apply At.retB1 (B := [])); exact rfl; exact rfl; exact zml; exact zkp; exact ⟨rfl, rfl, rfl⟩)
end St
end Go.Proofs.YtkoijdmlehkhbaaGreatDoor
namespace Go.Proofs.YtkoijdmlehkhbaaGreatDoor
open Go Go.J
attribute [local irreducible] At AtQ AtM AtM1 PR Ct Pu Rd Res.blk Res.own Res.ex RVs RV
namespace Sta
structure Lay (m : Mem) (s : Sta) : Prop where
  sl : Sl m Ser.cells 23 s.pl.p s.pl.c s.pl.l
  pk : ∀ x ∈ s.pl.l, Ser.Lay m x
  bn : -9223372036854775808 ≤ s.now ∧ s.now ≤ 9223372036854775807
  bs : -9223372036854775808 ≤ s.swept ∧ s.swept ≤ 9223372036854775807
theorem Lay.mono {m m' : Mem} {s : Sta} (h : Lay m s) (hm : m.le m') : Lay m' s := ⟨h.sl.mono hm, fun x hx => (h.pk x hx).mono hm, h.bn, h.bs⟩
def sm (u : Sta) : Prop := u.pl.l.length ≤ 8 ∧ ∀ x ∈ u.pl.l, Ser.sm x
instance (u : Sta) : Decidable (sm u) := by unfold sm; infer_instance
theorem Lay.ok {m : Mem} {u : Sta} (h : Lay m u) (hs : sm u) : Ok m u := ⟨h.sl, fun x hx => (h.pk x hx).ok (hs.2 x hx), Nat.le_trans hs.1 (by decide), h.bn, h.bs⟩
end Sta
namespace St
open Se Win
def smU (u : Sta) : Int := if u.sm then 1 else 0
theorem small17 {m : Mem} (u : Sta) (hu : u.Lay m) : Rd Tryz.prog 7 #[u.v] m [] (.int .i64 (smU u)) := by
  unfold Rd
  have sl0 := hu.sl
  unfold smU
  by_cases h0 : u.pl.l.length ≤ 8
  rotate_left
  · rw [if_neg (fun h => h0 h.1)]
    refine Ct.enterV (by rfl) Tryz.func7 rfl Tryz.ntmps7 rfl (fun w0 Rest => ?_)
    (repeat' (first | refine zss ?_ | refine zsM ?_ | ((with_reducible apply At.box (d := 1)); exact rfl; exact rfl; exact rfl; intro b1) | ((with_reducible apply At.alloc (d := 4)); exact rfl; exact rfl; intro b4) | (refine zsp ?_ ?_ <;> (intro hc; (try simp only [zhcs, reduceCtorEq] at hc); (try (exfalso; first | (first | omega | exact absurd rfl hc) | contradiction | omega | exact absurd rfl hc | exact absurd (by decide) hc))))))
    all_goals ((with_reducible apply At.retB1 (B := [])); exact rfl; exact rfl; exact zml; exact zkp; exact ⟨rfl, rfl, rfl⟩)
  refine Ct.enterV (by rfl) Tryz.func7 rfl Tryz.ntmps7 rfl (fun w0 Rest => ?_)
  (repeat' (first | refine zss ?_ | refine zsM ?_ | ((with_reducible apply At.box (d := 1)); exact rfl; exact rfl; exact rfl; intro b1) | ((with_reducible apply At.alloc (d := 4)); exact rfl; exact rfl; intro b4) | (refine zsp ?_ ?_ <;> (intro hc; (try simp only [zhcs, reduceCtorEq] at hc); (try (exfalso; first | (first | omega | exact absurd rfl hc) | contradiction | omega | exact absurd rfl hc | exact absurd (by decide) hc))))))
  (refine At.loopk (σ := Nat) [10, 11] (fun s F0 => (12, .int .i64 (s : Int)) :: F0) (fun s => m) (fun s => Rest) (fun s => s ≤ u.pl.l.length ∧ ∀ i, i < s → u.pl.l[i]!.sm) (fun s => u.pl.l.length - s) 0 (by rfl) ?_ zsubs zml zente ?_)
  · exact ⟨Nat.zero_le _, fun i hi => absurd hi (Nat.not_lt_zero i)⟩
  rintro s ⟨hs, hn⟩
  by_cases h : s < u.pl.l.length
  · have hx := hu.pk _ (Ls.mem! h)
    have k1 := fun (m' : Mem) (h : m.le m') => small15 u.pl.l[s]! (hx.mono h)
    unfold smI at k1
    by_cases e : u.pl.l[s]!.sm
    · have hnn : ∀ i, i < s + 1 → u.pl.l[i]!.sm := fun i hi => by
        by_cases e1 : i = s
        · subst e1; exact e
        · exact hn i (by omega)
      rw [if_pos e] at k1
      clear hn hx hu e
      (repeat' (first | refine zss ?_ | refine zsM ?_ | ((with_reducible first | apply AtM1.cr | apply AtQ.cr | apply At.cr); exact rfl; exact rfl; exact fun _ hmm => k1 _ hmm; exact ztk; kernel_rfl) | ((with_reducible apply At.box (d := 1)); exact rfl; exact rfl; exact rfl; intro b1) | ((with_reducible apply At.alloc (d := 4)); exact rfl; exact rfl; intro b4) | (refine zsp ?_ ?_ <;> (intro hc; (try simp only [zhcs, reduceCtorEq] at hc); (try (exfalso; first | (first | omega | exact absurd rfl hc) | contradiction | omega | exact absurd rfl hc | exact absurd (by decide) hc))))))
      all_goals ((with_reducible refine At.reachk ((s + 1)) ?_ ?_ ?_ ?_); exact zsubs; exact zml; exact zente; exact ⟨⟨h, hnn⟩, by omega⟩)
    · rw [if_neg (fun g => e (g.2 _ (Ls.mem! h)))]
      rw [if_neg e] at k1
      clear hn hx hu e
      (repeat' (first | refine zss ?_ | refine zsM ?_ | ((with_reducible first | apply AtM1.cr | apply AtQ.cr | apply At.cr); exact rfl; exact rfl; exact fun _ hmm => k1 _ hmm; exact ztk; kernel_rfl) | ((with_reducible apply At.box (d := 1)); exact rfl; exact rfl; exact rfl; intro b1) | ((with_reducible apply At.alloc (d := 4)); exact rfl; exact rfl; intro b4) | (refine zsp ?_ ?_ <;> (intro hc; (try simp only [zhcs, reduceCtorEq] at hc); (try (exfalso; first | (first | omega | exact absurd rfl hc) | contradiction | omega | exact absurd rfl hc | exact absurd (by decide) hc))))))
      all_goals ((with_reducible apply At.retB1 (B := [])); exact rfl; exact rfl; exact zml; exact zkp; exact ⟨rfl, rfl, rfl⟩)
  · rw [if_pos ⟨h0, fun x hx => by
      obtain ⟨i, hi, e⟩ := List.mem_iff_getElem.1 hx
      have := hn i (by omega)
      rwa [getElem!_pos u.pl.l i hi, e] at this⟩]
    clear hn hu
    (repeat' (first | refine zss ?_ | refine zsM ?_ | ((with_reducible apply At.box (d := 1)); exact rfl; exact rfl; exact rfl; intro b1) | ((with_reducible apply At.alloc (d := 4)); exact rfl; exact rfl; intro b4) | (refine zsp ?_ ?_ <;> (intro hc; (try simp only [zhcs, reduceCtorEq] at hc); (try (exfalso; first | (first | omega | exact absurd rfl hc) | contradiction | omega | exact absurd rfl hc | exact absurd (by decide) hc))))))
    all_goals ((with_reducible apply At.retB1 (B := [])); exact rfl; exact rfl; exact zml; exact zkp; exact ⟨rfl, rfl, rfl⟩)
def lvs (u : Sta) (n : Nat) : List Int := ((List.range n).filter fun i => liv u u.pl.l[i]!).map Int.ofNat
theorem lvs_succ (u : Sta) (n : Nat) : lvs u (n + 1) = if liv u u.pl.l[n]! then lvs u n ++ [(n : Int)] else lvs u n := by
  unfold lvs
  rw [List.range_succ, List.filter_append]
  by_cases h : liv u u.pl.l[n]! = true
  · rw [if_pos h, List.filter_cons_of_pos (p := fun i => liv u u.pl.l[i]!) h, List.filter_nil, List.map_append]
    rfl
  · rw [if_neg h, List.filter_cons_of_neg (p := fun i => liv u u.pl.l[i]!) h, List.filter_nil, List.append_nil]
theorem lvs_len (u : Sta) (n : Nat) : (lvs u n).length ≤ n := by
  unfold lvs
  rw [List.length_map]
  exact Nat.le_trans (List.length_filter_le _ _) (by simp)
structure LS where
  (i : Nat) (p : Option Addr) (c : Nat)
theorem live {m : Mem} (u : Sta) (hs : u.Ok m) : Ct Tryz.prog 13 #[u.v] m [] (fun v m' B => B = [] ∧ ∃ p c, v = .slice p (if whole u then lvs u u.pl.l.length else []).length c ∧ Sl m' Ls.fI 1 p c (if whole u then lvs u u.pl.l.length else [])) := by
  by_cases h0 : whole u
  rotate_left
  · have k0 := openN u h0
    rw [if_neg h0]
    refine Ct.enterV (by rfl) Tryz.func13 rfl Tryz.ntmps13 rfl (fun w0 Rest => ?_)
    (repeat' (first | refine zss ?_ | refine zs0 ?_ | ((with_reducible first | apply AtM1.callp | apply AtQ.callp | apply At.callp); kernel_rfl; exact rfl; exact rfl; exact k0) | ((with_reducible apply At.box (d := 1)); exact rfl; exact rfl; exact rfl; intro b1) | ((with_reducible apply At.alloc (d := 3)); exact rfl; exact rfl; intro b3) | (refine zsp ?_ ?_ <;> (intro hc; (try simp only [zhcs, reduceCtorEq] at hc); (try (exfalso; first | (first | omega | exact absurd rfl hc) | contradiction | omega | exact absurd rfl hc | exact absurd (by decide) hc))))))
    all_goals ((with_reducible apply At.retB1 (B := [])); exact rfl; exact rfl; exact zml; exact zkp; exact ⟨rfl, none, 0, rfl, Sl.empty _ inferInstance⟩)
  have k0 := openK u h0
  have np := hs.np
  rw [if_pos h0]
  clear h0
  refine Ct.enterV (by rfl) Tryz.func13 rfl Tryz.ntmps13 rfl (fun w0 Rest => ?_)
  (repeat' (first | refine zss ?_ | refine zs0 ?_ | ((with_reducible first | apply AtM1.callp | apply AtQ.callp | apply At.callp); kernel_rfl; exact rfl; exact rfl; exact k0) | ((with_reducible apply At.box (d := 1)); exact rfl; exact rfl; exact rfl; intro b1) | ((with_reducible apply At.alloc (d := 3)); exact rfl; exact rfl; intro b3) | (refine zsp ?_ ?_ <;> (intro hc; (try simp only [zhcs, reduceCtorEq] at hc); (try (exfalso; first | (first | omega | exact absurd rfl hc) | contradiction | omega | exact absurd rfl hc | exact absurd (by decide) hc))))))
  refine At.own_nil Ls.fI 1 3 ?_
  (refine At.loopk (σ := LS) [3, 17] (fun s F0 => (18, .int .i64 (s.i : Int)) :: (5, .slice s.p (lvs u s.i).length s.c) :: F0) (fun s => m) (fun s => .own Ls.fI 1 3 s.p s.c (lvs u s.i) :: vb b3 u :: Rest) (fun s => s.i ≤ u.pl.l.length) (fun s => u.pl.l.length - s.i) ⟨0, none, 0⟩ (by rfl) ?_ zsubs zml zente ?_)
  · exact Nat.zero_le _
  rintro ⟨i, p, c⟩ hi
  dsimp only at hi ⊢
  by_cases h : i < u.pl.l.length
  · have k1 := fun (m' : Mem) (h' : m.le m') => lives u i (hs.mono h') h
    have hst := lvs_succ u i
    have hl := lvs_len u i
    generalize liv u u.pl.l[i]! = e at k1 hst
    generalize lvs u i = L at hst hl ⊢
    clear hs k0
    cases e
    · rw [if_neg (by decide)] at hst
      (repeat' (first | refine zss ?_ | refine zsO ?_ | ((with_reducible first | apply AtM1.cr | apply AtQ.cr | apply At.cr); exact rfl; exact rfl; exact fun _ hmm => k1 _ hmm; exact ztk; kernel_rfl) | ((with_reducible apply At.box (d := 1)); exact rfl; exact rfl; exact rfl; intro b1) | ((with_reducible apply At.alloc (d := 3)); exact rfl; exact rfl; intro b3) | (refine zsp ?_ ?_ <;> (intro hc; (try simp only [zhcs, reduceCtorEq] at hc); (try (exfalso; first | (first | omega | exact absurd rfl hc) | contradiction | omega | exact absurd rfl hc | exact absurd (by decide) hc))))))
      all_goals rw [← hst]
      all_goals ((with_reducible refine At.reachk ((⟨i + 1, p, c⟩ : LS)) ?_ ?_ ?_ ?_); exact zsubs; exact zml; exact zente; exact ⟨h, by dsimp only; omega⟩)
    · rw [if_pos rfl] at hst
      (repeat' (first | refine zss ?_ | refine zsO ?_ | ((with_reducible first | apply AtM1.cr | apply AtQ.cr | apply At.cr); exact rfl; exact rfl; exact fun _ hmm => k1 _ hmm; exact ztk; kernel_rfl) | ((with_reducible apply At.litF Ls.fI [(i : Int)]); exact inferInstance; (iterate 7 exact rfl); intro b' m' hm' sl1; skip) | ((with_reducible apply At.apW (f := Ls.fI) (l := L)); exact rfl; exact rfl; exact (by repeat constructor); exact inferInstance; exact zrdl; (iterate 4 exact rfl); exact zom; exact rfl; intro p2 c2) | ((with_reducible apply At.box (d := 1)); exact rfl; exact rfl; exact rfl; intro b1) | ((with_reducible apply At.alloc (d := 3)); exact rfl; exact rfl; intro b3) | (refine zsp ?_ ?_ <;> (intro hc; (try simp only [zhcs, reduceCtorEq] at hc); (try (exfalso; first | (first | omega | exact absurd rfl hc) | contradiction | omega | exact absurd rfl hc | exact absurd (by decide) hc))))))
      all_goals rw [← hst]
      all_goals ((with_reducible refine At.reachk ((⟨i + 1, p2, c2⟩ : LS)) ?_ ?_ ?_ ?_); exact zsubs; exact zml; exact zente; exact ⟨h, by dsimp only; omega⟩)
  · have e : i = u.pl.l.length := by omega
    subst e
    generalize lvs u u.pl.l.length = L
    refine At.own_freeze inferInstance (by repeat constructor) fun m' hm' sl1 => ?_
    (repeat' (first | refine zss ?_ | refine zsO ?_ | ((with_reducible apply At.box (d := 1)); exact rfl; exact rfl; exact rfl; intro b1) | ((with_reducible apply At.alloc (d := 3)); exact rfl; exact rfl; intro b3) | (refine zsp ?_ ?_ <;> (intro hc; (try simp only [zhcs, reduceCtorEq] at hc); (try (exfalso; first | (first | omega | exact absurd rfl hc) | contradiction | omega | exact absurd rfl hc | exact absurd (by decide) hc))))))
    all_goals ((with_reducible apply At.retB1 (B := [])); exact rfl; exact rfl; exact zml; exact zkp; exact ⟨rfl, _, _, rfl, sl1⟩)
end St
end Go.Proofs.YtkoijdmlehkhbaaGreatDoor
namespace Go.Proofs.YtkoijdmlehkhbaaGreatDoor
open Go Go.J
attribute [local irreducible] At AtQ AtM AtM1 PR Ct Pu Rd Res.blk Res.own Res.ex RVs RV
namespace Ru
open Se Win St
theorem fstO_spec {n k : Nat} {q : Nat → Bool} (h : fstO n q = some k) : k < n ∧ q k = true ∧ ∀ j, j < k → q j = false := by
  unfold fstO at h
  rw [List.find?_range_eq_some] at h
  exact ⟨List.mem_range.1 h.2.1, h.1, fun j hj => by have := h.2.2 j hj; simpa using this⟩
end Ru
end Go.Proofs.YtkoijdmlehkhbaaGreatDoor
namespace Go.Proofs.YtkoijdmlehkhbaaGreatDoor
open Go Go.J
attribute [local irreducible] At AtQ AtM AtM1 PR Ct Pu Rd Res.blk Res.own Res.ex RVs RV
namespace Qy
open Slot Ti Se St Win
open Fo hiding pt
/-- an ask -/
structure Ask where
  (lab : Lst Lab) (t a b : Int)
abbrev Ask.cells (q : Ask) : List Value := [q.lab.v, .int .i64 q.t, .int .i64 q.a, .int .i64 q.b]
abbrev Ask.v (q : Ask) : Value := .agg q.cells.toArray
/-- what is told of the windows of a tier -/
def qof (u : Sta) (l : List Lab) (k : Nat) (a b : Int) : Cell × Int := match fstO u.pl.l.length (fnd u l) with
  | none => (Cell.z, 0)
  | some i => if spanE a b (Fo.Kw u.k k) ≠ 0 then (Cell.z, spanE a b (Fo.Kw u.k k)) else rng u.k u.pl.l[i]! k (spanA a b (Fo.Kw u.k k)) (spanB a b (Fo.Kw u.k k))
theorem of_ {m : Mem} (u : Sta) (q : Ask) (k : Nat) (hk : k < 3) (hs : u.Ok m) (hw : whole u) (hl : q.lab.l.length ≤ 1000000000) (sl1 : Sl m Lb.cells 2 q.lab.p q.lab.c q.lab.l) :
    Rd Tryz.prog 48 #[u.v, q.v, .int .i64 (k : Int)] m [] (pr2 (qof u q.lab.l k q.a q.b)) := by
  unfold Rd qof
  have k0 := fun (m' : Mem) (h : m.le m') => find u q.lab (hs.mono h) hl (sl1.mono h)
  unfold sel at k0
  rw [if_pos hw] at k0
  cases hf : fstO u.pl.l.length (fnd u q.lab.l) with
  | none =>
    rw [hf] at k0
    dsimp only at k0 ⊢
    clear hs hw
    refine Ct.enterV (by rfl) Tryz.func48 rfl Tryz.ntmps48 rfl (fun w0 Rest => ?_)
    (repeat' (first | refine zss ?_ | refine zsM ?_ | ((with_reducible first | apply AtM1.cr | apply AtQ.cr | apply At.cr); exact rfl; exact rfl; exact fun _ hmm => k0 _ hmm; exact ztk; kernel_rfl) | ((with_reducible apply At.box (d := 3)); exact rfl; exact rfl; exact rfl; intro b3) | ((with_reducible apply At.box (d := 4)); exact rfl; exact rfl; exact rfl; intro b4) | ((with_reducible apply At.alloc (d := 6)); exact rfl; exact rfl; intro b6) | (refine zsp ?_ ?_ <;> (intro hc; (try simp only [zhcs, reduceCtorEq] at hc); (try (exfalso; first | omega | contradiction | omega | exact absurd rfl hc | exact absurd (by decide) hc))))))
    all_goals ((with_reducible apply At.retV (B := [])); exact rfl; (repeat' (first | exact RVs.nil | (with_reducible apply RVs.cons) | exact rv_tmp (by rfl) | exact rv_cellN (by rfl) (by repeat constructor) (by rfl) (by rfl) (by rfl) | exact rv_cell1 (by rfl) (by repeat constructor) (by rfl) (by rfl))); exact zml; exact zkp; exact ⟨congrArg (fun v => Value.tuple #[v, .int .i64 0]) Cell.zv, rfl, rfl⟩)
  | some i =>
    obtain ⟨hi, -, -⟩ := Ru.fstO_spec hf
    rw [hf] at k0
    dsimp only at k0 ⊢
    have k1 := win_span q.a q.b (Fo.Kw u.k k)
    have k2 := fun (m' : Mem) (x y : Int) (h : m.le m') => range (m := m') u.k u.pl.l[i]! k x y ((hs.at hi).mono h)
    have sl0 := hs.sl
    clear hw hf
    generalize spanE q.a q.b (Fo.Kw u.k k) = e at *
    generalize spanA q.a q.b (Fo.Kw u.k k) = a at *
    generalize spanB q.a q.b (Fo.Kw u.k k) = b at *
    by_cases he : e ≠ 0
    · rw [if_pos he]
      clear k2 hs
      rcases (show k = 0 ∨ k = 1 ∨ k = 2 by omega) with rfl | rfl | rfl
      all_goals
        refine Ct.enterV (by rfl) Tryz.func48 rfl Tryz.ntmps48 rfl (fun w0 Rest => ?_)
        (repeat' (first | ((with_reducible apply At.mixed (id := 4) 17 (.q 0 (.q 1 (.q 2 (.q 3 (.q 4 (.q 5 (.q 6 (.q 7 (.q 8 (.x 9 (.q 10 (.q 11 (.q 12 (.q 13 (.q 14 (.q 15 (.q 16 .done)))))))))))))))))); exact rfl; kernel_rfl; kernel_rfl; kernel_rfl) | refine zsx ?_ | refine zss ?_ | ((with_reducible apply AtM.bo); exact rfl; exact rfl; exact rfl) | ((first | (with_reducible first | apply At.val | apply AtQ.val) | ((with_reducible first | apply AtM1.valz | apply AtM1.val); exact rfl) | ((with_reducible apply AtM1.val); exact rfl)); (first | exact pr_indexArr (k := 0) (by rfl) (by rfl) (by rfl) (by rfl) (by decide) | exact pr_indexArr (k := 1) (by rfl) (by rfl) (by rfl) (by rfl) (by decide) | exact pr_indexArr (k := 2) (by rfl) (by rfl) (by rfl) (by rfl) (by decide)); exact rfl) | refine zsM ?_ | refine zxM ?_ | ((with_reducible first | apply AtM1.cr | apply AtQ.cr | apply At.cr); exact rfl; exact rfl; exact fun _ hmm => k0 _ hmm; exact ztk; kernel_rfl) | ((with_reducible first | apply AtM1.callp | apply AtQ.callp | apply At.callp); kernel_rfl; exact rfl; exact rfl; exact k1) | ((with_reducible apply At.box (d := 3)); exact rfl; exact rfl; exact rfl; intro b3) | ((with_reducible apply At.box (d := 4)); exact rfl; exact rfl; exact rfl; intro b4) | ((with_reducible apply At.alloc (d := 6)); exact rfl; exact rfl; intro b6) | (refine zsp ?_ ?_ <;> (intro hc; (try simp only [zhcs, reduceCtorEq] at hc); (try (exfalso; first | (first | omega | exact absurd rfl hc) | contradiction | omega | exact absurd rfl hc | exact absurd (by decide) hc))))))
        all_goals ((with_reducible apply At.retV (B := [])); exact rfl; (repeat' (first | exact RVs.nil | (with_reducible apply RVs.cons) | exact rv_tmp (by rfl) | exact rv_cellN (by rfl) (by repeat constructor) (by rfl) (by rfl) (by rfl) | exact rv_cell1 (by rfl) (by repeat constructor) (by rfl) (by rfl))); exact zml; exact zkp; exact ⟨congrArg (fun v => Value.tuple #[v, .int .i64 e]) Cell.zv, rfl, rfl⟩)
    · rw [if_neg he]
      replace k2 := fun (m' : Mem) (h : m.le m') => k2 m' a b h
      generalize rng u.k u.pl.l[i]! k a b = c at *
      clear hs
      rcases (show k = 0 ∨ k = 1 ∨ k = 2 by omega) with rfl | rfl | rfl
      all_goals
        refine Ct.enterV (by rfl) Tryz.func48 rfl Tryz.ntmps48 rfl (fun w0 Rest => ?_)
        (repeat' (first | ((with_reducible apply At.mixed (id := 4) 17 (.q 0 (.q 1 (.q 2 (.q 3 (.q 4 (.q 5 (.q 6 (.q 7 (.q 8 (.x 9 (.q 10 (.q 11 (.q 12 (.q 13 (.q 14 (.q 15 (.q 16 .done)))))))))))))))))); exact rfl; kernel_rfl; kernel_rfl; kernel_rfl) | ((with_reducible apply At.mixed (id := 7) 15 (.q 0 (.q 1 (.q 2 (.q 3 (.q 4 (.q 5 (.q 6 (.q 7 (.q 8 (.q 9 (.x 10 (.q 11 (.q 12 (.x 13 (.q 14 .done)))))))))))))))); exact rfl; kernel_rfl; kernel_rfl; kernel_rfl) | refine zsx ?_ | refine zss ?_ | ((with_reducible apply AtM.bo); exact rfl; exact rfl; exact rfl) | ((first | (with_reducible first | apply At.val | apply AtQ.val) | ((with_reducible first | apply AtM1.valz | apply AtM1.val); exact rfl) | ((with_reducible apply AtM1.val); exact rfl)); (first | exact pr_indexArr (k := 0) (by rfl) (by rfl) (by rfl) (by rfl) (by decide) | exact pr_indexArr (k := 1) (by rfl) (by rfl) (by rfl) (by rfl) (by decide) | exact pr_indexArr (k := 2) (by rfl) (by rfl) (by rfl) (by rfl) (by decide)); exact rfl) | refine zsM ?_ | refine zxM ?_ | ((with_reducible first | apply AtM1.cr | apply AtQ.cr | apply At.cr); exact rfl; exact rfl; exact fun _ hmm => k0 _ hmm; exact ztk; kernel_rfl) | ((with_reducible first | apply AtM1.callp | apply AtQ.callp | apply At.callp); kernel_rfl; exact rfl; exact rfl; exact k1) | ((with_reducible first | apply AtM1.cr | apply AtQ.cr | apply At.cr); exact rfl; exact rfl; exact fun _ hmm => k2 _ zml; exact ztk; kernel_rfl) | ((with_reducible apply At.box (d := 3)); exact rfl; exact rfl; exact rfl; intro b3) | ((with_reducible apply At.box (d := 4)); exact rfl; exact rfl; exact rfl; intro b4) | ((with_reducible apply At.alloc (d := 6)); exact rfl; exact rfl; intro b6) | (refine zsp ?_ ?_ <;> (intro hc; (try simp only [zhcs, reduceCtorEq] at hc); (try (exfalso; first | (first | omega | exact absurd rfl hc) | contradiction | omega | exact absurd rfl hc | exact absurd (by decide) hc))))))
        all_goals ((with_reducible apply At.retV (B := [])); exact rfl; (repeat' (first | exact RVs.nil | (with_reducible apply RVs.cons) | exact rv_tmp (by rfl) | exact rv_cellN (by rfl) (by repeat constructor) (by rfl) (by rfl) (by rfl) | exact rv_cell1 (by rfl) (by repeat constructor) (by rfl) (by rfl))); exact zml; exact zkp; exact ⟨rfl, rfl, rfl⟩)
end Qy
end Go.Proofs.YtkoijdmlehkhbaaGreatDoor
namespace Go.Proofs.YtkoijdmlehkhbaaGreatDoor
namespace Wide
/-- the state of a digit's search: q is not below the digit -/
structure Kn (u d y1 y0 q r : Nat) : Prop where
  eq : q * y1 + r = u
  ge : (u * 4294967296 + d) / (y1 * 4294967296 + y0) ≤ q
  lt : r < 4294967296
structure KnH (u d y1 y0 : Nat) : Prop where
  hu : u < y1 * 4294967296 + y0
  hd : d < 4294967296
  h1 : 2147483648 ≤ y1
  h2 : y1 < 4294967296
  h0 : y0 < 4294967296
theorem kn_ex (q y1 y0 : Nat) : q * (y1 * 4294967296 + y0) = q * y1 * 4294967296 + q * y0 := by rw [Nat.mul_add, ← Nat.mul_assoc]
theorem kn_digit {u d y1 y0 : Nat} (h : KnH u d y1 y0) : (u * 4294967296 + d) / (y1 * 4294967296 + y0) < 4294967296 := by
  have := h.hu; have := h.hd; have := h.h1
  rw [Nat.div_lt_iff_lt_mul (by omega)]
  omega
theorem kn_init {u d y1 y0 : Nat} (h : KnH u d y1 y0) : Kn u d y1 y0 (u / y1) (u % y1) := by
  have := h.hu; have := h.hd; have hy := h.h1; have := h.h2
  refine ⟨by rw [Nat.mul_comm]; exact Nat.div_add_mod u y1, ?_, Nat.lt_trans (Nat.mod_lt _ (by omega)) h.h2⟩
  apply Nat.le_of_lt_succ
  rw [Nat.div_lt_iff_lt_mul (by omega), kn_ex]
  have e := Nat.div_add_mod u y1
  have l := Nat.mod_lt u (show 0 < y1 by omega)
  rw [Nat.succ_mul, Nat.mul_comm (u / y1) y1]
  omega
theorem kn_stop {u d y1 y0 q r : Nat} (h : KnH u d y1 y0) (k : Kn u d y1 y0 q r) (hn : q * y0 ≤ r * 4294967296 + d) : (u * 4294967296 + d) / (y1 * 4294967296 + y0) = q := by
  have := h.h1; have := k.eq
  apply Nat.le_antisymm k.ge
  rw [Nat.le_div_iff_mul_le (by omega), kn_ex]
  omega
theorem kn_lt {u d y1 y0 q r : Nat} (h : KnH u d y1 y0) (k : Kn u d y1 y0 q r) (hn : 4294967296 ≤ q ∨ r * 4294967296 + d < q * y0) : (u * 4294967296 + d) / (y1 * 4294967296 + y0) < q := by
  have h1 := h.h1; have h2 := k.eq
  rcases hn with hn | hn
  · exact Nat.lt_of_lt_of_le (kn_digit h) hn
  · rw [Nat.div_lt_iff_lt_mul (by omega), kn_ex, ← h2, Nat.add_mul, Nat.add_assoc]
    exact Nat.add_lt_add_left hn _
theorem kn_le {u d y1 y0 q r : Nat} (h : KnH u d y1 y0) (k : Kn u d y1 y0 q r) : q ≤ 4294967297 := by
  have h1 := h.h1; have h2 := h.hu; have h3 := h.h0; have h4 := k.eq
  apply Classical.byContradiction
  intro hn
  have : 4294967298 * y1 ≤ q * y1 := Nat.mul_le_mul_right _ (by omega)
  omega
theorem kn_step {u d y1 y0 q r : Nat} (h : KnH u d y1 y0) (k : Kn u d y1 y0 q r) (hn : 4294967296 ≤ q ∨ r * 4294967296 + d < q * y0) (hr : r + y1 < 4294967296) : 0 < q ∧ Kn u d y1 y0 (q - 1) (r + y1) := by
  have l := kn_lt h k hn
  have hq0 : 0 < q := Nat.lt_of_le_of_lt (Nat.zero_le _) l
  obtain ⟨p, rfl⟩ : ∃ p, q = p + 1 := ⟨q - 1, by omega⟩
  have := k.eq
  rw [Nat.succ_mul] at this
  rw [Nat.add_sub_cancel]
  exact ⟨by omega, by omega, by omega, hr⟩
theorem kn_break {u d y1 y0 q r : Nat} (h : KnH u d y1 y0) (k : Kn u d y1 y0 q r) (hn : 4294967296 ≤ q ∨ r * 4294967296 + d < q * y0) (hr : 4294967296 ≤ r + y1) : (u * 4294967296 + d) / (y1 * 4294967296 + y0) = q - 1 := by
  have l := kn_lt h k hn
  have le := kn_le h k
  have h1 := h.h1; have h3 := h.h0
  have hq0 : 0 < q := Nat.lt_of_le_of_lt (Nat.zero_le _) l
  obtain ⟨p, rfl⟩ : ∃ p, q = p + 1 := ⟨q - 1, by omega⟩
  have e := k.eq
  rw [Nat.succ_mul] at e
  rw [Nat.add_sub_cancel]
  apply Nat.le_antisymm (by omega)
  rw [Nat.le_div_iff_mul_le (by omega), kn_ex]
  have : p * y0 ≤ 4294967296 * 4294967295 := Nat.mul_le_mul (by omega) (by omega)
  omega
/-- what is left of a digit, as the machine reckons -/
theorem kn_left {T Y q : Nat} (hY : 0 < Y) (hq : T / Y = q) : q * Y ≤ T ∧ T - q * Y = T % Y := by
  have := Nat.div_add_mod T Y
  rw [hq, Nat.mul_comm] at this
  omega
/-- both digits together -/
theorem kn_all {u d1 d0 Y : Nat} (hY : 0 < Y) :
    (u * 18446744073709551616 + (d1 * 4294967296 + d0)) / Y = (u * 4294967296 + d1) / Y * 4294967296 + ((u * 4294967296 + d1) % Y * 4294967296 + d0) / Y ∧
    (u * 18446744073709551616 + (d1 * 4294967296 + d0)) % Y = ((u * 4294967296 + d1) % Y * 4294967296 + d0) % Y := by
  obtain ⟨T, hT⟩ : ∃ T, T = u * 4294967296 + d1 := ⟨_, rfl⟩
  have e : u * 18446744073709551616 + (d1 * 4294967296 + d0) = Y * (T / Y * 4294967296) + (T % Y * 4294967296 + d0) := by
    have := Nat.div_add_mod T Y
    rw [← Nat.mul_assoc]
    omega
  rw [← hT, e, Nat.mul_add_div hY, Nat.mul_add_mod]
  exact ⟨rfl, rfl⟩
/-- a quotient and what is left, of what both were shifted by -/
theorem shift_div (V y k : Nat) (hk : 0 < k) : V * k / (y * k) = V / y ∧ V * k % (y * k) / k = V % y := by
  rw [Nat.mul_div_mul_right _ _ hk, Nat.mul_mod_mul_right, Nat.mul_div_cancel _ hk]
  exact ⟨rfl, rfl⟩
/-- how far y is shifted -/
theorem lead (y : Nat) (h0 : 0 < y) (h : y < 18446744073709551616) : Lib.bitLen y ≤ 64 ∧ 0 < Lib.bitLen y ∧ 9223372036854775808 ≤ y * 2 ^ (64 - Lib.bitLen y) ∧ y * 2 ^ (64 - Lib.bitLen y) < 18446744073709551616 := by
  have hb := Lib.bitLenAux_bounds 64 y h (by omega)
  have hl := Lib.bitLen_le y 64 (Nat.le_refl _) h
  have e : Lib.bitLen y = Lib.bitLenAux 64 y := rfl
  rw [← e] at hb
  obtain ⟨b, hbl⟩ : ∃ b, Lib.bitLen y = b := ⟨_, rfl⟩
  rw [hbl] at hb hl ⊢
  obtain ⟨h1, h2, h3⟩ := hb
  refine ⟨hl, h1, ?_, ?_⟩
  · calc 9223372036854775808 = 2 ^ (b - 1) * 2 ^ (64 - b) := by rw [← Nat.pow_add, show b - 1 + (64 - b) = 63 by omega]
      _ ≤ _ := Nat.mul_le_mul_right _ h2
  · calc y * 2 ^ (64 - b) < 2 ^ b * 2 ^ (64 - b) := Nat.mul_lt_mul_of_pos_right h3 (Nat.pow_pos (by decide))
      _ = _ := by rw [← Nat.pow_add, show b + (64 - b) = 64 by omega]
/-- the upper part of what is shifted -/
theorem shift_up (h l s b : Nat) (hsb : s + b = 64) : (h * 18446744073709551616 + l) * 2 ^ s / 18446744073709551616 = h * 2 ^ s + l / 2 ^ b ∧ (h * 18446744073709551616 + l) * 2 ^ s % 18446744073709551616 = l * 2 ^ s % 18446744073709551616 := by
  have e : (18446744073709551616 : Nat) = 2 ^ b * 2 ^ s := by rw [← Nat.pow_add, show b + s = 64 by omega]
  have e2 : (h * 18446744073709551616 + l) * 2 ^ s = 18446744073709551616 * (h * 2 ^ s) + l * 2 ^ s := by
    rw [Nat.add_mul, Nat.mul_right_comm, Nat.mul_comm (h * 2 ^ s)]
  have e3 : l * 2 ^ s / 18446744073709551616 = l / 2 ^ b := by
    rw [e, Nat.mul_div_mul_right _ _ (Nat.pow_pos (by decide))]
  rw [e2, Nat.mul_add_div (by decide), Nat.mul_add_mod, e3]
  exact ⟨rfl, rfl⟩
end Wide
end Go.Proofs.YtkoijdmlehkhbaaGreatDoor
namespace Go.J
open Go Go.RowKit
variable {P : Program} {m : Mem}
theorem Pu.of_same {f : FuncId} {args : Array Value} {V : Value} (h : ∀ w, Calls P f args w fun e w' => e = .returned V ∧ w' = w) : Pu P f args V :=
  fun m w0 Rest w hw => (h w).mono fun e w' ⟨he, hw'⟩ => ⟨V, m, [], he, Mem.le_refl m, ⟨rfl, rfl, rfl⟩, hw' ▸ hw⟩
end Go.J
namespace Go.Proofs.YtkoijdmlehkhbaaGreatDoor
open Go Go.Shelf
set_option maxRecDepth 100000
def laysn134_ren : Go.Shelf.Ren := ⟨fun | 134 => 141 | 129 => 184 | n => n, fun | 53 => 39 | 3 => 3 | 4 => 4 | 46 => 211 | 5 => 5 | 9 => 9 | n => n, fun | n => n⟩
theorem laysn134 : Go.Proofs.Lays.n134 Tryz.prog laysn134_ren := {
  mixed := by kernel_rfl
  f129 := Tryz.func184.trans (congrArg some (by kernel_rfl))
  f134 := Tryz.func141.trans (congrArg some (by kernel_rfl))
  t3 := Tryz.underlying3
  a3 := Tryz.isAgg3
  z3 := Tryz.sizeOf3
  v3 := Tryz.zeroValue3
  t4 := Tryz.underlying4
  a4 := Tryz.isAgg4
  z4 := Tryz.sizeOf4
  v4 := Tryz.zeroValue4
  t5 := Tryz.underlying5
  a5 := Tryz.isAgg5
  z5 := Tryz.sizeOf5
  v5 := Tryz.zeroValue5
  t9 := Tryz.underlying9
  a9 := Tryz.isAgg9
  z9 := Tryz.sizeOf9
  v9 := Tryz.zeroValue9
  t46 := Tryz.underlying211
  a46 := Tryz.isAgg211
  z46 := Tryz.sizeOf211
  v46 := Tryz.zeroValue211
  t53 := Tryz.underlying39
  a53 := Tryz.isAgg39
  z53 := Tryz.sizeOf39
  v53 := Tryz.zeroValue39 }
end Go.Proofs.YtkoijdmlehkhbaaGreatDoor
namespace Go.Proofs.YtkoijdmlehkhbaaGreatDoor
open Go Go.J
attribute [local irreducible] At AtQ AtM AtM1 PR Ct Pu Rd Res.blk Res.own Res.ex RVs RV
namespace Wide
def dE (x y : Nat) : Int := if x < y then 1 else 0
theorem sub64 {n : Nat} {F : Fr} {C : World → Prop} {x y z : Operand} {ts : Array TypeId} {a b c : Int} (hx : ev F x = some (.int .u64 a)) (hy : ev F y = some (.int .u64 b)) (hz : ev F z = some (.int .u64 c)) (h0 : 0 ≤ a ∧ a < 18446744073709551616) (h1 : 0 ≤ b ∧ b < 18446744073709551616) (h2 : 0 ≤ c) (h3 : c ≤ 1) :
    PR Tryz.prog n F C (.call ⟨.value (.func 218), #[x, y, z], ts⟩) (.tuple #[.int .u64 ((a - b - c) % 18446744073709551616), .int .u64 (-((a - b - c) / 18446744073709551616))]) :=
  pr_extern (xs := [x, y, z]) (vs := [.int .u64 a, .int .u64 b, .int .u64 c]) (e := sub64Entry) Tryz.func218 (by kernel_rfl) (by kernel_rfl) (by kernel_rfl) (by kernel_rfl) (by simp [evs, hx, hy, hz]) fun w => by
    obtain ⟨p, rfl⟩ : ∃ p : Nat, a = (p : Int) := ⟨a.toNat, by omega⟩
    obtain ⟨q, rfl⟩ : ∃ q : Nat, b = (q : Int) := ⟨b.toNat, by omega⟩
    obtain ⟨k, rfl⟩ : ∃ k : Nat, c = (k : Int) := ⟨c.toNat, by omega⟩
    have e := run_sub64 p q k (by omega) w (P := Tryz.prog)
    have e1 : ((p + 18446744073709551616 - q - k) % 18446744073709551616 : Nat) = (((p : Int) - q - k) % 18446744073709551616).toNat := by omega
    have e2 : (((p + 18446744073709551616 - q - k) % 18446744073709551616 : Nat) : Int) = ((p : Int) - q - k) % 18446744073709551616 := by omega
    have e3 : ((if p < q + k then 1 else 0 : Nat) : Int) = -(((p : Int) - q - k) / 18446744073709551616) := by split <;> omega
    rw [e2, e3] at e
    exact e
theorem sub (x y : Nat) (hx : x < 340282366920938463463374607431768211456) (hy : y < 340282366920938463463374607431768211456) : Pu Tryz.prog 186 #[wv x, wv y] (.tuple #[wv (x - y), .int .i64 (dE x y)]) := Pu.intro fun m => by
  by_cases h : x < y
  · have e1 : x - y = 0 := by omega
    have e2 : dE x y = 1 := if_pos h
    rw [e1, e2]
    refine Ct.enterV (by rfl) Tryz.func186 rfl Tryz.ntmps186 rfl (fun w0 Rest => ?_)
    (repeat' (first | refine zss ?_ | ((first | (with_reducible first | apply At.val | apply AtQ.val)); (first | exact sub64 (by rfl) (by rfl) (by rfl) (by omega) (by omega) (by omega) (by omega) | exact zprA); exact rfl) | refine zs0 ?_ | ((with_reducible first | apply AtM1.callp | apply AtQ.callp | apply At.callp); kernel_rfl; exact rfl; exact rfl; exact sure1 _ _ _ (by omega)) | ((with_reducible apply At.box (d := 2)); exact rfl; exact rfl; exact rfl; intro b2) | ((with_reducible apply At.box (d := 3)); exact rfl; exact rfl; exact rfl; intro b3) | ((with_reducible apply At.alloc (d := 4)); exact rfl; exact rfl; intro b4) | (refine zsp ?_ ?_ <;> (intro hc; (try simp only [zhcs, reduceCtorEq] at hc); (try (exfalso; first | contradiction | omega | exact absurd rfl hc | exact absurd (by decide) hc))))))
    all_goals ((with_reducible apply At.retV (B := [])); exact rfl; (repeat' (first | exact RVs.nil | (with_reducible apply RVs.cons) | exact rv_tmp (by rfl) | exact rv_cellN (by rfl) (by repeat constructor) (by rfl) (by rfl) (by rfl) | exact rv_cell1 (by rfl) (by repeat constructor) (by rfl) (by rfl) | exact rv_cellA (by rfl) (by repeat constructor) (by rfl) (by rfl) zlq)); exact zml; exact zkp; exact ⟨rfl, rfl, rfl⟩)
  · have e2 : dE x y = 0 := if_neg h
    rw [e2]
    refine Ct.enterV (by rfl) Tryz.func186 rfl Tryz.ntmps186 rfl (fun w0 Rest => ?_)
    (repeat' (first | refine zss ?_ | ((first | (with_reducible first | apply At.val | apply AtQ.val)); (first | exact sub64 (by rfl) (by rfl) (by rfl) (by omega) (by omega) (by omega) (by omega) | exact zprA); exact rfl) | refine zs0 ?_ | ((with_reducible first | apply AtM1.callp | apply AtQ.callp | apply At.callp); kernel_rfl; exact rfl; exact rfl; exact sure0 _ _ _ (by omega)) | ((with_reducible apply At.box (d := 2)); exact rfl; exact rfl; exact rfl; intro b2) | ((with_reducible apply At.box (d := 3)); exact rfl; exact rfl; exact rfl; intro b3) | ((with_reducible apply At.alloc (d := 4)); exact rfl; exact rfl; intro b4) | (refine zsp ?_ ?_ <;> (intro hc; (try simp only [zhcs, reduceCtorEq] at hc); (try (exfalso; first | contradiction | omega | exact absurd rfl hc | exact absurd (by decide) hc))))))
    all_goals ((with_reducible apply At.retV (B := [])); exact rfl; (repeat' (first | exact RVs.nil | (with_reducible apply RVs.cons) | exact rv_tmp (by rfl) | exact rv_cellN (by rfl) (by repeat constructor) (by rfl) (by rfl) (by rfl) | exact rv_cell1 (by rfl) (by repeat constructor) (by rfl) (by rfl) | exact rv_cellA (by rfl) (by repeat constructor) (by rfl) (by rfl) zlq)); exact zml; exact zkp; exact ⟨congrArg (fun v => Value.tuple #[v, .int .i64 0]) (wd_mk (by omega) (by omega)), rfl, rfl⟩)
theorem lz (y : Nat) (h : y < 18446744073709551616) : Pu Tryz.prog 141 #[.int .u64 (y : Int)] (.int .i64 (64 - (Lib.bitLen y : Int))) := by
  have := Pu.of_same fun w => Any.bits_LeadingZeros64 laysn134 (y : Int) w (by omega) (by omega)
  rw [Int.toNat_natCast] at this
  exact this
end Wide
end Go.Proofs.YtkoijdmlehkhbaaGreatDoor
namespace Go.Proofs.YtkoijdmlehkhbaaGreatDoor
open Go Go.J
attribute [local irreducible] At AtQ AtM AtM1 PR Ct Pu Rd Res.blk Res.own Res.ex RVs RV
namespace Wide
structure KS where
  (q : Nat) (r : Nat)
theorem u_in {a : Int} (h : 0 ≤ a ∧ a < 18446744073709551616) : IntKind.wrap .u64 a = a := by rw [IntKind.wrap_u64]; omega
theorem u_inN {a : Nat} (h : a < 18446744073709551616) : IntKind.wrap .u64 (a : Int) = (a : Int) := u_in (by omega)
theorem u_quo {a b : Nat} (h : a / b < 18446744073709551616) : IntKind.wrap .u64 ((a : Int).tdiv (b : Int)) = ((a / b : Nat) : Int) := by rw [← Int.ofNat_tdiv]; exact u_inN h
theorem u_rem (a b : Nat) : (a : Int).tmod (b : Int) = ((a % b : Nat) : Int) := (Int.ofNat_tmod a b).symm
theorem u_mul {a b : Nat} (h : a * b < 18446744073709551616) : IntKind.wrap .u64 ((a : Int) * (b : Int)) = ((a * b : Nat) : Int) := by rw [← Int.natCast_mul]; exact u_inN h
theorem u_mulw (a b : Nat) : IntKind.wrap .u64 ((a : Int) * (b : Int)) = ((a * b % 18446744073709551616 : Nat) : Int) := by rw [← Int.natCast_mul, IntKind.wrap_u64, Int.natCast_emod]; rfl
theorem u_add {a b : Nat} (h : a + b < 18446744073709551616) : IntKind.wrap .u64 ((a : Int) + (b : Int)) = ((a + b : Nat) : Int) := by rw [← Int.natCast_add]; exact u_inN h
theorem u_shl (a k : Nat) : IntKind.wrap .u64 ((a : Int) * 2 ^ ((k : Int)).toNat) = ((a * 2 ^ k % 18446744073709551616 : Nat) : Int) := by
  rw [Int.toNat_natCast, show ((2 : Int) ^ k) = ((2 ^ k : Nat) : Int) by rw [Int.natCast_pow]; rfl]
  exact u_mulw _ _
theorem u_shr (a k : Nat) : (a : Int) / 2 ^ ((k : Int)).toNat = ((a / 2 ^ k : Nat) : Int) := by
  rw [Int.toNat_natCast, show ((2 : Int) ^ k) = ((2 ^ k : Nat) : Int) by rw [Int.natCast_pow]; rfl, Int.natCast_ediv]
theorem u_shr32 (a : Nat) : (a : Int) / 2 ^ ((32 : Int)).toNat = ((a / 4294967296 : Nat) : Int) := u_shr a 32
theorem u_low (a : Nat) (h : a < 18446744073709551616) : bits .and .u64 (a : Int) 4294967295 = ((a % 4294967296 : Nat) : Int) := by rw [and_low32 _ (by omega) (by omega)]; rfl
theorem u_left {T P R : Nat} (h1 : P ≤ T) (h2 : T - P = R) (hR : R < 18446744073709551616) : IntKind.wrap .u64 (((T % 18446744073709551616 : Nat) : Int) - ((P % 18446744073709551616 : Nat) : Int)) = (R : Int) := by rw [IntKind.wrap_u64]; omega
theorem u_top (u d : Nat) : IntKind.wrap .u64 (((u * 4294967296 % 18446744073709551616 : Nat) : Int) + (d : Int)) = (((u * 4294967296 + d) % 18446744073709551616 : Nat) : Int) := by rw [IntKind.wrap_u64]; omega
set_option maxHeartbeats 4000000 in
theorem div64 (h l y V : Nat) (hV : V = h * 18446744073709551616 + l) (hy : h < y) (hyb : y < 18446744073709551616) (hl : l < 18446744073709551616) :
    Pu Tryz.prog 89 #[.int .u64 (h : Int), .int .u64 (l : Int), .int .u64 (y : Int)] (.tuple #[.int .u64 ((V / y : Nat) : Int), .int .u64 ((V % y : Nat) : Int)]) := Pu.intro fun m => by
  by_cases h0 : h = 0
  · subst h0
    rw [Nat.zero_mul, Nat.zero_add] at hV
    subst hV
    have f1 := u_quo (a := V) (b := y) (Nat.lt_of_le_of_lt (Nat.div_le_self _ _) hl)
    have f2 := u_rem V y
    refine Ct.enterV (by rfl) Tryz.func89 rfl Tryz.ntmps89 rfl (fun w0 Rest => ?_)
    (repeat' (first | refine zss ?_ | ((first | (with_reducible first | apply At.val | apply AtQ.val)); (first | exact pr_quo (by rfl) (by rfl) (by omega) f1 | exact pr_rem (by rfl) (by rfl) (by omega) f2 | exact zprA); exact rfl) | refine zs0 ?_ | (refine zsp ?_ ?_ <;> (intro hc; (try simp only [zhcs, reduceCtorEq] at hc); (try (exfalso; first | omega | contradiction | omega | exact absurd rfl hc | exact absurd (by decide) hc))))))
    all_goals ((with_reducible apply At.retB2 (B := [])); (iterate 3 exact rfl); exact zml; exact zkp; exact ⟨rfl, rfl, rfl⟩)
  · obtain ⟨hb1, hb0, hY1, hY2⟩ := lead y (by omega) hyb
    have hlz := lz y hyb
    obtain ⟨b, hb⟩ : ∃ b, b = Lib.bitLen y := ⟨_, rfl⟩
    rw [← hb] at hb1 hb0 hY1 hY2 hlz
    obtain ⟨s, hs⟩ : ∃ s, s = 64 - b := ⟨_, rfl⟩
    have hsb : s + b = 64 := by omega
    rw [show (64 - (b : Int)) = (s : Int) by omega] at hlz
    rw [← hs] at hY1 hY2
    have hk : 0 < 2 ^ s := Nat.pow_pos (by decide)
    obtain ⟨up, lo⟩ := shift_up h l s b hsb
    rw [← hV] at up lo
    obtain ⟨sd, sm⟩ := shift_div V y (2 ^ s) hk
    have hsh := u_shl y s
    rw [Nat.mod_eq_of_lt hY2] at hsh
    have hA : h * 2 ^ s < y * 2 ^ s := Nat.mul_lt_mul_of_pos_right hy hk
    have hfA := u_shl h s
    rw [Nat.mod_eq_of_lt (by omega)] at hfA
    have hfC := u_shr l b
    have hC : l / 2 ^ b < 2 ^ s := by
      rw [Nat.div_lt_iff_lt_mul (Nat.pow_pos (by decide)), ← Nat.pow_add, hsb]; exact hl
    have hor : bits .or .u64 ((h * 2 ^ s : Nat) : Int) ((l / 2 ^ b : Nat) : Int) = ((h * 2 ^ s + l / 2 ^ b : Nat) : Int) := by
      have : l / 2 ^ b ≤ l := Nat.div_le_self _ _
      rw [u64_or_nat _ _ (by omega) (by omega), nat_join s _ _ (Nat.mul_mod_left _ _) hC]
    have hfE := u_shl l s
    have hu : V * 2 ^ s / 18446744073709551616 < y * 2 ^ s := by
      rw [Nat.div_lt_iff_lt_mul (by decide), Nat.mul_right_comm]
      exact Nat.mul_lt_mul_of_pos_right (by omega) hk
    have hsplit := Nat.div_add_mod (V * 2 ^ s) 18446744073709551616
    rw [up] at hu hsplit
    rw [lo] at hsplit
    generalize h * 2 ^ s = A at *
    generalize l / 2 ^ b = C at *
    generalize l * 2 ^ s % 18446744073709551616 = E at *
    generalize V * 2 ^ s = W at *
    generalize y * 2 ^ s = Y at *
    have hEl : E < 18446744073709551616 := by rw [← lo]; exact Nat.mod_lt _ (by decide)
    obtain ⟨u, hue⟩ : ∃ u, u = A + C := ⟨_, rfl⟩
    rw [← hue] at hor hu hsplit
    obtain ⟨y1, hy1⟩ : ∃ y1, y1 = Y / 4294967296 := ⟨_, rfl⟩
    obtain ⟨y0, hy0⟩ : ∃ y0, y0 = Y % 4294967296 := ⟨_, rfl⟩
    obtain ⟨d1, hd1⟩ : ∃ d1, d1 = E / 4294967296 := ⟨_, rfl⟩
    obtain ⟨d0, hd0⟩ : ∃ d0, d0 = E % 4294967296 := ⟨_, rfl⟩
    have hYy : y1 * 4294967296 + y0 = Y := by omega
    have hEd : E = d1 * 4294967296 + d0 := by omega
    have K1 : KnH u d1 y1 y0 := ⟨by omega, by omega, by omega, by omega, by omega⟩
    obtain ⟨a1, a2⟩ := kn_all (u := u) (d1 := d1) (d0 := d0) (Y := Y) (by omega)
    rw [← hEd, Nat.mul_comm u, hsplit] at a1 a2
    obtain ⟨q1, hq1⟩ : ∃ q1, (u * 4294967296 + d1) / Y = q1 := ⟨_, rfl⟩
    obtain ⟨r1, hr1⟩ : ∃ r1, (u * 4294967296 + d1) % Y = r1 := ⟨_, rfl⟩
    obtain ⟨l1, l2⟩ := kn_left (T := u * 4294967296 + d1) (by omega) hq1
    have hr1Y : r1 < Y := by rw [← hr1]; exact Nat.mod_lt _ (by omega)
    rw [hr1] at l2
    rw [hq1, hr1] at a1
    rw [hr1] at a2
    have K2 : KnH r1 d0 y1 y0 := ⟨by omega, by omega, by omega, by omega, by omega⟩
    obtain ⟨q0, hq0⟩ : ∃ q0, (r1 * 4294967296 + d0) / Y = q0 := ⟨_, rfl⟩
    obtain ⟨r0, hr0⟩ : ∃ r0, (r1 * 4294967296 + d0) % Y = r0 := ⟨_, rfl⟩
    obtain ⟨k1, k2⟩ := kn_left (T := r1 * 4294967296 + d0) (by omega) hq0
    have hr0Y : r0 < Y := by rw [← hr0]; exact Nat.mod_lt _ (by omega)
    rw [hr0] at k2
    rw [hq0] at a1
    rw [hr0] at a2
    have hqb1 := kn_digit K1
    have hqb0 := kn_digit K2
    rw [hYy, hq1] at hqb1
    rw [hYy, hq0] at hqb0
    have I1 := kn_init K1
    have I2 := kn_init K2
    have e1 : u / y1 * y1 + u % y1 = u := I1.eq
    have e2 : r1 / y1 * y1 + r1 % y1 = r1 := I2.eq
    have hy10 : y1 ≠ 0 := by omega
    have g1 := u_shr32 Y
    have g2 := u_low Y hY2
    have g3 := u_shr32 E
    have g4 := u_low E hEl
    rw [← hy1] at g1
    rw [← hy0] at g2
    rw [← hd1] at g3
    rw [← hd0] at g4
    have m1 := u_quo (a := u) (b := y1) (Nat.lt_of_le_of_lt (Nat.div_le_self _ _) (by omega))
    have m2 := u_mul (a := u / y1) (b := y1) (by omega)
    have m3 : IntKind.wrap .u64 ((u : Int) - ((u / y1 * y1 : Nat) : Int)) = ((u % y1 : Nat) : Int) := by
      generalize u / y1 * y1 = X at e1 ⊢
      generalize u % y1 = Z at e1 ⊢
      rw [IntKind.wrap_u64]; omega
    have n1 := u_quo (a := r1) (b := y1) (Nat.lt_of_le_of_lt (Nat.div_le_self _ _) (by omega))
    have n2 := u_mul (a := r1 / y1) (b := y1) (by omega)
    have n3 : IntKind.wrap .u64 ((r1 : Int) - ((r1 / y1 * y1 : Nat) : Int)) = ((r1 % y1 : Nat) : Int) := by
      generalize r1 / y1 * y1 = X at e2 ⊢
      generalize r1 % y1 = Z at e2 ⊢
      rw [IntKind.wrap_u64]; omega
    have t1 := u_mulw u 4294967296
    have t2 := u_top u d1
    have t3 := u_mulw q1 Y
    have t4 := u_left l1 l2 (by omega)
    have v1 := u_mulw r1 4294967296
    have v2 := u_top r1 d0
    have v3 := u_mulw q0 Y
    have v4 := u_left k1 k2 (by omega)
    have v5 := u_mul (a := q1) (b := 4294967296) (by omega)
    have v6 := u_add (a := q1 * 4294967296) (b := q0) (by omega)
    have v7 := u_shr r0 s
    have z1 : V / y = q1 * 4294967296 + q0 := sd.symm.trans a1
    have z2 : V % y = r0 / 2 ^ s := by rw [← sm, a2]
    rw [z1, z2]
    clear z1 z2 sd sm a1 a2 up lo hsplit hV I1 I2 e1 e2 hb
    have hsub : IntKind.wrap .u64 (64 - (s : Int)) = (b : Int) := by rw [IntKind.wrap_u64]; omega
    refine Ct.enterV (by rfl) Tryz.func89 rfl Tryz.ntmps89 rfl (fun w0 Rest => ?_)
    (repeat' (first | ((refine At.cutb (id := 0) (σ := Nat) [2, 8, 9, 10, 11, 13, 14] (fun s F0 => (15, .int .u64 (s : Int)) :: F0) (fun s => m) (fun s => Rest) (fun s => s = q1) (by rfl) ?_ ?_)) | refine zss ?_ | ((first | (with_reducible first | apply At.val | apply AtQ.val)); (first | exact pr_sub (by rfl) (by rfl) hsub | exact pr_shlv (by rfl) (by rfl) (by omega) (by simp only [IntKind.bits]; omega) hsh | exact pr_shlv (by rfl) (by rfl) (by omega) (by simp only [IntKind.bits]; omega) hfA | exact pr_shlv (by rfl) (by rfl) (by omega) (by simp only [IntKind.bits]; omega) hfE | exact pr_shrv (by rfl) (by rfl) (by omega) (by simp only [IntKind.bits]; omega) g1 | exact pr_shrv (by rfl) (by rfl) (by omega) (by simp only [IntKind.bits]; omega) g3 | exact pr_shrv (by rfl) (by rfl) (by omega) (by simp only [IntKind.bits]; omega) hfC | exact pr_and (by rfl) (by rfl) g2 | exact pr_and (by rfl) (by rfl) g4 | exact pr_or (by rfl) (by rfl) hor | exact pr_quo (by rfl) (by rfl) (by omega) m1 | exact pr_mul (by rfl) (by rfl) m2 | exact pr_sub (by rfl) (by rfl) m3 | exact zprA); exact rfl) | refine zs0 ?_ | ((with_reducible first | apply AtM1.callp | apply AtQ.callp | apply At.callp); kernel_rfl; exact rfl; exact rfl; exact hlz) | (refine zsp ?_ ?_ <;> (intro hc; (try simp only [zhcs, reduceCtorEq] at hc); (try (exfalso; first | omega | contradiction | omega | exact absurd rfl hc | exact absurd (by decide) hc))))))
    · clear m1 m2 m3 n1 n2 n3 t1 t2 t3 t4 v1 v2 v3 v4 v5 v6 v7 g1 g2 g3 g4 hsh hfA hfC hfE hor hsub hlz k1 k2 l1 l2
      (refine At.loopk (σ := KS) [2, 8, 9, 10, 11, 13, 14] (fun s F0 => (15, .int .u64 (s.q : Int)) :: (16, .int .u64 (s.r : Int)) :: F0) (fun s => m) (fun s => Rest) (fun s => Kn u d1 y1 y0 s.q s.r) (fun s => s.q) ⟨u / y1, u % y1⟩ (by rfl) ?_ zsubs zml zente ?_)
      · exact kn_init K1
      rintro ⟨q, r⟩ kn
      dsimp only at kn ⊢
      have hle := kn_le K1 kn
      have hlt := kn.lt
      by_cases hC : 4294967296 ≤ q ∨ r * 4294967296 + d1 < q * y0
      · obtain ⟨hpos, hst⟩ : 0 < q ∧ (r + y1 < 4294967296 → Kn u d1 y1 y0 (q - 1) (r + y1)) := ⟨Nat.lt_of_le_of_lt (Nat.zero_le _) (kn_lt K1 kn hC), fun hr => (kn_step K1 kn hC hr).2⟩
        have o1 : IntKind.wrap .u64 ((q : Int) - 1) = ((q - 1 : Nat) : Int) := by rw [IntKind.wrap_u64]; omega
        have o2 := u_add (a := r) (b := y1) (by omega)
        by_cases hr : r + y1 < 4294967296
        · by_cases hq : 4294967296 ≤ q
          · (repeat' (first | refine zss ?_ | ((first | (with_reducible first | apply At.val | apply AtQ.val)); (first | exact pr_sub (by rfl) (by rfl) o1 | exact pr_add (by rfl) (by rfl) o2 | exact zprA); exact rfl) | refine zs0 ?_ | (refine zsp ?_ ?_ <;> (intro hc; (try simp only [zhcs, reduceCtorEq] at hc); (try (exfalso; first | omega | contradiction | omega | exact absurd rfl hc | exact absurd (by decide) hc))))))
            all_goals ((with_reducible refine At.reachk (⟨q - 1, r + y1⟩) ?_ ?_ ?_ ?_); exact zsubs; exact zml; exact zente; exact ⟨hst hr, by dsimp only; omega⟩)
          · have hn := hC.resolve_left hq
            have p1 := u_mul (a := q) (b := y0) (by have : q * y0 ≤ 4294967295 * 4294967295 := Nat.mul_le_mul (by omega) (by omega); omega)
            have p2 : IntKind.wrap .u64 (4294967296 * (r : Int)) = ((r * 4294967296 : Nat) : Int) := by rw [IntKind.wrap_u64]; omega
            have p3 := u_add (a := r * 4294967296) (b := d1) (by omega)
            generalize q * y0 = X at hn p1
            (repeat' (first | refine zss ?_ | ((first | (with_reducible first | apply At.val | apply AtQ.val)); (first | exact pr_sub (by rfl) (by rfl) o1 | exact pr_add (by rfl) (by rfl) o2 | exact pr_mul (by rfl) (by rfl) p1 | exact pr_mul (by rfl) (by rfl) p2 | exact pr_add (by rfl) (by rfl) p3 | exact zprA); exact rfl) | refine zs0 ?_ | (refine zsp ?_ ?_ <;> (intro hc; (try simp only [zhcs, reduceCtorEq] at hc); (try (exfalso; first | omega | contradiction | omega | exact absurd rfl hc | exact absurd (by decide) hc))))))
            all_goals ((with_reducible refine At.reachk (⟨q - 1, r + y1⟩) ?_ ?_ ?_ ?_); exact zsubs; exact zml; exact zente; exact ⟨hst hr, by dsimp only; omega⟩)
        · have hbr := kn_break K1 kn hC (by omega)
          rw [hYy, hq1] at hbr
          by_cases hq : 4294967296 ≤ q
          · (repeat' (first | refine zss ?_ | ((first | (with_reducible first | apply At.val | apply AtQ.val)); (first | exact pr_sub (by rfl) (by rfl) o1 | exact pr_add (by rfl) (by rfl) o2 | exact zprA); exact rfl) | refine zs0 ?_ | (refine zsp ?_ ?_ <;> (intro hc; (try simp only [zhcs, reduceCtorEq] at hc); (try (exfalso; first | omega | contradiction | omega | exact absurd rfl hc | exact absurd (by decide) hc))))))
            all_goals ((with_reducible refine At.reachk ((q - 1)) ?_ ?_ ?_ ?_); exact zsubs; exact zml; exact zente; exact hbr.symm)
          · have hn := hC.resolve_left hq
            have p1 := u_mul (a := q) (b := y0) (by have : q * y0 ≤ 4294967295 * 4294967295 := Nat.mul_le_mul (by omega) (by omega); omega)
            have p2 : IntKind.wrap .u64 (4294967296 * (r : Int)) = ((r * 4294967296 : Nat) : Int) := by rw [IntKind.wrap_u64]; omega
            have p3 := u_add (a := r * 4294967296) (b := d1) (by omega)
            generalize q * y0 = X at hn p1
            (repeat' (first | refine zss ?_ | ((first | (with_reducible first | apply At.val | apply AtQ.val)); (first | exact pr_sub (by rfl) (by rfl) o1 | exact pr_add (by rfl) (by rfl) o2 | exact pr_mul (by rfl) (by rfl) p1 | exact pr_mul (by rfl) (by rfl) p2 | exact pr_add (by rfl) (by rfl) p3 | exact zprA); exact rfl) | refine zs0 ?_ | (refine zsp ?_ ?_ <;> (intro hc; (try simp only [zhcs, reduceCtorEq] at hc); (try (exfalso; first | omega | contradiction | omega | exact absurd rfl hc | exact absurd (by decide) hc))))))
            all_goals ((with_reducible refine At.reachk ((q - 1)) ?_ ?_ ?_ ?_); exact zsubs; exact zml; exact zente; exact hbr.symm)
      · have hbr := kn_stop K1 kn (by omega)
        rw [hYy, hq1] at hbr
        have hq : q < 4294967296 := by omega
        have hn : ¬ r * 4294967296 + d1 < q * y0 := fun x => hC (.inr x)
        have p1 := u_mul (a := q) (b := y0) (by have : q * y0 ≤ 4294967295 * 4294967295 := Nat.mul_le_mul (by omega) (by omega); omega)
        have p2 : IntKind.wrap .u64 (4294967296 * (r : Int)) = ((r * 4294967296 : Nat) : Int) := by rw [IntKind.wrap_u64]; omega
        have p3 := u_add (a := r * 4294967296) (b := d1) (by omega)
        clear hC
        generalize q * y0 = X at hn p1
        (repeat' (first | refine zss ?_ | ((first | (with_reducible first | apply At.val | apply AtQ.val)); (first | exact pr_mul (by rfl) (by rfl) p1 | exact pr_mul (by rfl) (by rfl) p2 | exact pr_add (by rfl) (by rfl) p3 | exact zprA); exact rfl) | refine zs0 ?_ | (refine zsp ?_ ?_ <;> (intro hc; (try simp only [zhcs, reduceCtorEq] at hc); (try (exfalso; first | omega | contradiction | omega | exact absurd rfl hc | exact absurd (by decide) hc))))))
        all_goals ((with_reducible refine At.reachk (q) ?_ ?_ ?_ ?_); exact zsubs; exact zml; exact zente; exact hbr.symm)
    · rintro z rfl
      clear m1 m2 m3 g1 g2 g3 g4 hsh hfA hfC hfE hor hsub hlz
      (repeat' (first | ((refine At.cutb (id := 2) (σ := Nat) [2, 8, 14, 15, 17] (fun s F0 => (18, .int .u64 (s : Int)) :: F0) (fun s => m) (fun s => Rest) (fun s => s = q0) (by rfl) ?_ ?_)) | refine zss ?_ | ((first | (with_reducible first | apply At.val | apply AtQ.val)); (first | exact pr_mul (by rfl) (by rfl) t1 | exact pr_add (by rfl) (by rfl) t2 | exact pr_mul (by rfl) (by rfl) t3 | exact pr_sub (by rfl) (by rfl) t4 | exact pr_quo (by rfl) (by rfl) (by omega) n1 | exact pr_mul (by rfl) (by rfl) n2 | exact pr_sub (by rfl) (by rfl) n3 | exact zprA); exact rfl) | refine zs0 ?_ | (refine zsp ?_ ?_ <;> (intro hc; (try simp only [zhcs, reduceCtorEq] at hc); (try (exfalso; first | omega | contradiction | omega | exact absurd rfl hc | exact absurd (by decide) hc))))))
      · clear n1 n2 n3 v1 v2 v3 v4 v5 v6 v7 k1 k2 l1 l2
        (refine At.loopk (σ := KS) [2, 8, 9, 10, 14, 15, 17] (fun s F0 => (18, .int .u64 (s.q : Int)) :: (16, .int .u64 (s.r : Int)) :: F0) (fun s => m) (fun s => Rest) (fun s => Kn r1 d0 y1 y0 s.q s.r) (fun s => s.q) ⟨r1 / y1, r1 % y1⟩ (by rfl) ?_ zsubs zml zente ?_)
        · exact kn_init K2
        rintro ⟨q, r⟩ kn
        dsimp only at kn ⊢
        have hle := kn_le K2 kn
        have hlt := kn.lt
        by_cases hC : 4294967296 ≤ q ∨ r * 4294967296 + d0 < q * y0
        · obtain ⟨hpos, hst⟩ : 0 < q ∧ (r + y1 < 4294967296 → Kn r1 d0 y1 y0 (q - 1) (r + y1)) := ⟨Nat.lt_of_le_of_lt (Nat.zero_le _) (kn_lt K2 kn hC), fun hr => (kn_step K2 kn hC hr).2⟩
          have o1 : IntKind.wrap .u64 ((q : Int) - 1) = ((q - 1 : Nat) : Int) := by rw [IntKind.wrap_u64]; omega
          have o2 := u_add (a := r) (b := y1) (by omega)
          by_cases hr : r + y1 < 4294967296
          · by_cases hq : 4294967296 ≤ q
            · (repeat' (first | refine zss ?_ | ((first | (with_reducible first | apply At.val | apply AtQ.val)); (first | exact pr_sub (by rfl) (by rfl) o1 | exact pr_add (by rfl) (by rfl) o2 | exact zprA); exact rfl) | refine zs0 ?_ | (refine zsp ?_ ?_ <;> (intro hc; (try simp only [zhcs, reduceCtorEq] at hc); (try (exfalso; first | omega | contradiction | omega | exact absurd rfl hc | exact absurd (by decide) hc))))))
              all_goals ((with_reducible refine At.reachk (⟨q - 1, r + y1⟩) ?_ ?_ ?_ ?_); exact zsubs; exact zml; exact zente; exact ⟨hst hr, by dsimp only; omega⟩)
            · have hn := hC.resolve_left hq
              have p1 := u_mul (a := q) (b := y0) (by have : q * y0 ≤ 4294967295 * 4294967295 := Nat.mul_le_mul (by omega) (by omega); omega)
              have p2 : IntKind.wrap .u64 (4294967296 * (r : Int)) = ((r * 4294967296 : Nat) : Int) := by rw [IntKind.wrap_u64]; omega
              have p3 := u_add (a := r * 4294967296) (b := d0) (by omega)
              generalize q * y0 = X at hn p1
              (repeat' (first | refine zss ?_ | ((first | (with_reducible first | apply At.val | apply AtQ.val)); (first | exact pr_sub (by rfl) (by rfl) o1 | exact pr_add (by rfl) (by rfl) o2 | exact pr_mul (by rfl) (by rfl) p1 | exact pr_mul (by rfl) (by rfl) p2 | exact pr_add (by rfl) (by rfl) p3 | exact zprA); exact rfl) | refine zs0 ?_ | (refine zsp ?_ ?_ <;> (intro hc; (try simp only [zhcs, reduceCtorEq] at hc); (try (exfalso; first | omega | contradiction | omega | exact absurd rfl hc | exact absurd (by decide) hc))))))
              all_goals ((with_reducible refine At.reachk (⟨q - 1, r + y1⟩) ?_ ?_ ?_ ?_); exact zsubs; exact zml; exact zente; exact ⟨hst hr, by dsimp only; omega⟩)
          · have hbr := kn_break K2 kn hC (by omega)
            rw [hYy, hq0] at hbr
            by_cases hq : 4294967296 ≤ q
            · (repeat' (first | refine zss ?_ | ((first | (with_reducible first | apply At.val | apply AtQ.val)); (first | exact pr_sub (by rfl) (by rfl) o1 | exact pr_add (by rfl) (by rfl) o2 | exact zprA); exact rfl) | refine zs0 ?_ | (refine zsp ?_ ?_ <;> (intro hc; (try simp only [zhcs, reduceCtorEq] at hc); (try (exfalso; first | omega | contradiction | omega | exact absurd rfl hc | exact absurd (by decide) hc))))))
              all_goals ((with_reducible refine At.reachk ((q - 1)) ?_ ?_ ?_ ?_); exact zsubs; exact zml; exact zente; exact hbr.symm)
            · have hn := hC.resolve_left hq
              have p1 := u_mul (a := q) (b := y0) (by have : q * y0 ≤ 4294967295 * 4294967295 := Nat.mul_le_mul (by omega) (by omega); omega)
              have p2 : IntKind.wrap .u64 (4294967296 * (r : Int)) = ((r * 4294967296 : Nat) : Int) := by rw [IntKind.wrap_u64]; omega
              have p3 := u_add (a := r * 4294967296) (b := d0) (by omega)
              generalize q * y0 = X at hn p1
              (repeat' (first | refine zss ?_ | ((first | (with_reducible first | apply At.val | apply AtQ.val)); (first | exact pr_sub (by rfl) (by rfl) o1 | exact pr_add (by rfl) (by rfl) o2 | exact pr_mul (by rfl) (by rfl) p1 | exact pr_mul (by rfl) (by rfl) p2 | exact pr_add (by rfl) (by rfl) p3 | exact zprA); exact rfl) | refine zs0 ?_ | (refine zsp ?_ ?_ <;> (intro hc; (try simp only [zhcs, reduceCtorEq] at hc); (try (exfalso; first | omega | contradiction | omega | exact absurd rfl hc | exact absurd (by decide) hc))))))
              all_goals ((with_reducible refine At.reachk ((q - 1)) ?_ ?_ ?_ ?_); exact zsubs; exact zml; exact zente; exact hbr.symm)
        · have hbr := kn_stop K2 kn (by omega)
          rw [hYy, hq0] at hbr
          have hq : q < 4294967296 := by omega
          have hn : ¬ r * 4294967296 + d0 < q * y0 := fun x => hC (.inr x)
          have p1 := u_mul (a := q) (b := y0) (by have : q * y0 ≤ 4294967295 * 4294967295 := Nat.mul_le_mul (by omega) (by omega); omega)
          have p2 : IntKind.wrap .u64 (4294967296 * (r : Int)) = ((r * 4294967296 : Nat) : Int) := by rw [IntKind.wrap_u64]; omega
          have p3 := u_add (a := r * 4294967296) (b := d0) (by omega)
          clear hC
          generalize q * y0 = X at hn p1
          (repeat' (first | refine zss ?_ | ((first | (with_reducible first | apply At.val | apply AtQ.val)); (first | exact pr_mul (by rfl) (by rfl) p1 | exact pr_mul (by rfl) (by rfl) p2 | exact pr_add (by rfl) (by rfl) p3 | exact zprA); exact rfl) | refine zs0 ?_ | (refine zsp ?_ ?_ <;> (intro hc; (try simp only [zhcs, reduceCtorEq] at hc); (try (exfalso; first | omega | contradiction | omega | exact absurd rfl hc | exact absurd (by decide) hc))))))
          all_goals ((with_reducible refine At.reachk (q) ?_ ?_ ?_ ?_); exact zsubs; exact zml; exact zente; exact hbr.symm)
      · rintro z rfl
        (repeat' (first | refine zss ?_ | ((first | (with_reducible first | apply At.val | apply AtQ.val)); (first | exact pr_mul (by rfl) (by rfl) v1 | exact pr_add (by rfl) (by rfl) v2 | exact pr_mul (by rfl) (by rfl) v3 | exact pr_sub (by rfl) (by rfl) v4 | exact pr_mul (by rfl) (by rfl) v5 | exact pr_add (by rfl) (by rfl) v6 | exact pr_shrv (by rfl) (by rfl) (by omega) (by simp only [IntKind.bits]; omega) v7 | exact zprA); exact rfl) | refine zs0 ?_ | (refine zsp ?_ ?_ <;> (intro hc; (try simp only [zhcs, reduceCtorEq] at hc); (try (exfalso; first | omega | contradiction | omega | exact absurd rfl hc | exact absurd (by decide) hc))))))
        all_goals ((with_reducible apply At.retB2 (B := [])); (iterate 3 exact rfl); exact zml; exact zkp; exact ⟨rfl, rfl, rfl⟩)
end Wide
end Go.Proofs.YtkoijdmlehkhbaaGreatDoor
namespace Go.Proofs.YtkoijdmlehkhbaaGreatDoor
open Go
namespace Ra
/-- how many noughts a number of 128 bits ends in -/
def nt (x : Nat) : Nat := if x % 18446744073709551616 = 0 then 64 + Lib.ctz 64 (x / 18446744073709551616) else Lib.ctz 64 (x % 18446744073709551616)
/-- what is left of it without them -/
def od (x : Nat) : Nat := x / 2 ^ nt x
theorem ctz_at {y : Nat} (h0 : y ≠ 0) (h : y < 18446744073709551616) : ∃ k, y = 2 ^ Lib.ctz 64 y * (2 * k + 1) ∧ Lib.ctz 64 y < 64 := by
  unfold Lib.ctz
  rw [if_neg h0]
  exact Lib.ctzFrom_spec 64 y (Nat.pos_of_ne_zero h0) h
theorem nt_spec {x : Nat} (h0 : x ≠ 0) (hx : x < 340282366920938463463374607431768211456) : ∃ k, x = 2 ^ nt x * (2 * k + 1) ∧ nt x < 128 := by
  unfold nt
  have hd := Nat.div_add_mod x 18446744073709551616
  by_cases h : x % 18446744073709551616 = 0
  · rw [if_pos h]
    rw [h, Nat.add_zero] at hd
    obtain ⟨k, h1, h2⟩ := ctz_at (y := x / 18446744073709551616) (fun e => h0 (by rw [e] at hd; omega)) (by omega)
    refine ⟨k, ?_, by omega⟩
    rw [Nat.pow_add, Nat.mul_assoc, ← h1]
    exact hd.symm
  · rw [if_neg h]
    obtain ⟨k, h1, h2⟩ := ctz_at (y := x % 18446744073709551616) h (by omega)
    generalize Lib.ctz 64 (x % 18446744073709551616) = c at h1 h2
    refine ⟨x / 18446744073709551616 * 2 ^ (63 - c) + k, ?_, by omega⟩
    have e : (18446744073709551616 : Nat) = 2 ^ c * (2 * 2 ^ (63 - c)) := by
      rw [← Nat.pow_succ', ← Nat.pow_add, show c + (63 - c).succ = 64 by omega]
    rw [show 2 * (x / 18446744073709551616 * 2 ^ (63 - c) + k) + 1 = x / 18446744073709551616 * (2 * 2 ^ (63 - c)) + (2 * k + 1) by
      rw [Nat.mul_add, Nat.mul_left_comm, Nat.add_assoc]]
    rw [Nat.mul_add, ← h1, Nat.mul_left_comm, ← e, Nat.mul_comm]
    exact hd.symm
theorem od_spec {x : Nat} (h0 : x ≠ 0) (hx : x < 340282366920938463463374607431768211456) : x = 2 ^ nt x * od x ∧ od x % 2 = 1 := by
  obtain ⟨k, h1, _⟩ := nt_spec h0 hx
  have e : od x = 2 * k + 1 := by
    unfold od
    conv => lhs; lhs; rw [h1]
    exact Nat.mul_div_cancel_left _ (Nat.two_pow_pos _)
  rw [e]
  exact ⟨h1, by omega⟩
theorem odd_co {a : Nat} (h : a % 2 = 1) (i : Nat) : (2 ^ i).Coprime a := by
  refine Nat.Coprime.pow_left i ?_
  show Nat.gcd 2 a = 1
  rw [Nat.gcd_rec, h]; rfl
theorem gcd_od {a b : Nat} (h : a % 2 = 1) (h0 : b ≠ 0) (hb : b < 340282366920938463463374607431768211456) : Nat.gcd a (od b) = Nat.gcd a b := by
  conv => rhs; rw [(od_spec h0 hb).1]
  rw [Nat.gcd_comm a (2 ^ nt b * od b), Nat.Coprime.gcd_mul_left_cancel _ (odd_co h _), Nat.gcd_comm]
/-- a step of the halving -/
theorem gcd_step {a b : Nat} (h : a % 2 = 1) (h0 : b ≠ 0) (hb : b < 340282366920938463463374607431768211456) :
    Nat.gcd (min a (od b)) (max a (od b) - min a (od b)) = Nat.gcd a b ∧ min a (od b) % 2 = 1 ∧ min a (od b) + (max a (od b) - min a (od b)) < a + b := by
  obtain ⟨h1, h2⟩ := od_spec h0 hb
  have hle : od b ≤ b := by
    conv => rhs; rw [h1]
    exact Nat.le_mul_of_pos_left _ (Nat.two_pow_pos _)
  rw [← gcd_od h h0 hb]
  generalize od b = c at h2 hle
  rcases Nat.le_total a c with hac | hac
  · rw [Nat.min_eq_left hac, Nat.max_eq_right hac]
    exact ⟨Nat.gcd_sub_self_right hac, h, by omega⟩
  · rw [Nat.min_eq_right hac, Nat.max_eq_left hac, Nat.gcd_comm a c]
    exact ⟨Nat.gcd_sub_self_right hac, h2, by omega⟩
/-- what the halving comes to -/
theorem gcd_end {a b : Nat} (ha0 : a ≠ 0) (ha : a < 340282366920938463463374607431768211456) (hb0 : b ≠ 0) (hb : b < 340282366920938463463374607431768211456) : 2 ^ min (nt a) (nt b) * Nat.gcd (od a) b = Nat.gcd a b := by
  obtain ⟨h1, h2⟩ := od_spec ha0 ha
  obtain ⟨h3, h4⟩ := od_spec hb0 hb
  have e1 : Nat.gcd (od a) b = Nat.gcd (od a) (od b) := (gcd_od h2 hb0 hb).symm
  rw [e1]
  generalize od a = u at h1 h2
  generalize od b = v at h3 h4
  generalize nt a = i at h1
  generalize nt b = j at h3
  subst h1 h3
  rcases Nat.le_total i j with hij | hij
  · obtain ⟨k, rfl⟩ := Nat.exists_eq_add_of_le hij
    rw [Nat.min_eq_left hij, Nat.pow_add, Nat.mul_assoc, Nat.gcd_mul_left, Nat.gcd_comm u (2 ^ k * v), Nat.Coprime.gcd_mul_left_cancel _ (odd_co h2 _), Nat.gcd_comm v u]
  · obtain ⟨k, rfl⟩ := Nat.exists_eq_add_of_le hij
    rw [Nat.min_eq_right hij, Nat.pow_add, Nat.mul_assoc, Nat.gcd_mul_left, Nat.Coprime.gcd_mul_left_cancel _ (odd_co h4 _)]
theorem pow64 {k : Nat} (hk : k ≤ 64) : (18446744073709551616 : Nat) = 2 ^ k * 2 ^ (64 - k) := by
  rw [← Nat.pow_add, show k + (64 - k) = 64 by omega]
theorem or_add {a b i : Nat} (hb : b < 2 ^ i) : a * 2 ^ i ||| b = a * 2 ^ i + b := by
  rw [← Nat.shiftLeft_eq, Nat.shiftLeft_add_eq_or_of_lt hb]
/-- a number without its last k digits, in parts -/
theorem dn_parts {x k : Nat} (hk : k ≤ 64) : x / 2 ^ k / 18446744073709551616 = x / 18446744073709551616 / 2 ^ k ∧ x / 2 ^ k % 18446744073709551616 = (x / 18446744073709551616 % 2 ^ k) * 2 ^ (64 - k) + x % 18446744073709551616 / 2 ^ k ∧ x % 18446744073709551616 / 2 ^ k < 2 ^ (64 - k) := by
  have hd := Nat.div_add_mod x 18446744073709551616
  have hl : x % 18446744073709551616 < 18446744073709551616 := Nat.mod_lt _ (by decide)
  have e := pow64 hk
  have hA := Nat.two_pow_pos k
  generalize x / 18446744073709551616 = h at hd ⊢
  generalize x % 18446744073709551616 = l at hd hl ⊢
  generalize 18446744073709551616 = D at hd hl e ⊢
  generalize 2 ^ k = A at e hA ⊢
  generalize 2 ^ (64 - k) = B at e ⊢
  subst e
  have h1 : x / A = h * B + l / A := by
    rw [← hd, Nat.mul_assoc, Nat.mul_add_div hA, Nat.mul_comm B h]
  have h2 : l / A < B := Nat.div_lt_of_lt_mul hl
  have h3 : h * B = A * B * (h / A) + h % A * B := by
    conv => lhs; rw [← Nat.div_add_mod h A]
    rw [Nat.add_mul, Nat.mul_right_comm]
  have h4 : h % A * B + l / A < A * B := by
    have := Nat.mod_lt h hA
    calc h % A * B + l / A < h % A * B + B := by omega
      _ = (h % A + 1) * B := by rw [Nat.add_mul, Nat.one_mul]
      _ ≤ A * B := Nat.mul_le_mul_right _ this
  refine ⟨?_, ?_, h2⟩
  · rw [h1, h3, Nat.add_assoc, Nat.mul_add_div (by omega), Nat.div_eq_of_lt h4, Nat.add_zero]
  · rw [h1, h3, Nat.add_assoc, Nat.mul_add_mod, Nat.mod_eq_of_lt h4]
theorem dn_far {x k : Nat} (hx : x < 340282366920938463463374607431768211456) (hk : 64 ≤ k) : x / 2 ^ k / 18446744073709551616 = 0 ∧ x / 2 ^ k % 18446744073709551616 = x / 18446744073709551616 / 2 ^ (k - 64) := by
  have e : x / 2 ^ k = x / 18446744073709551616 / 2 ^ (k - 64) := by
    rw [Nat.div_div_eq_div_mul, show (18446744073709551616 : Nat) = 2 ^ 64 from rfl, ← Nat.pow_add, show 64 + (k - 64) = k by omega]
  have h1 : x / 18446744073709551616 / 2 ^ (k - 64) ≤ x / 18446744073709551616 := Nat.div_le_self _ _
  rw [e]
  generalize x / 18446744073709551616 / 2 ^ (k - 64) = q at h1 ⊢
  omega
/-- a number with k noughts more, in parts -/
theorem up_parts {x k : Nat} (hk : k ≤ 64) : x * 2 ^ k / 18446744073709551616 = x / 18446744073709551616 * 2 ^ k + x % 18446744073709551616 / 2 ^ (64 - k) ∧ x * 2 ^ k % 18446744073709551616 = x % 18446744073709551616 * 2 ^ k % 18446744073709551616 ∧ x % 18446744073709551616 / 2 ^ (64 - k) < 2 ^ k := by
  have hd := Nat.div_add_mod x 18446744073709551616
  have hl : x % 18446744073709551616 < 18446744073709551616 := Nat.mod_lt _ (by decide)
  have e := pow64 hk
  have hA := Nat.two_pow_pos k
  have hB := Nat.two_pow_pos (64 - k)
  have hmm : x * 2 ^ k % 18446744073709551616 = x % 18446744073709551616 * 2 ^ k % 18446744073709551616 := by rw [Nat.mod_mul_mod]
  refine ⟨?_, hmm, ?_⟩
  · generalize x / 18446744073709551616 = h at hd ⊢
    generalize x % 18446744073709551616 = l at hd hl ⊢
    generalize 18446744073709551616 = D at hd hl e ⊢
    generalize 2 ^ k = A at e hA ⊢
    generalize 2 ^ (64 - k) = B at e hB ⊢
    subst e
    rw [← hd, Nat.add_mul, Nat.mul_assoc, Nat.mul_add_div (Nat.mul_pos hA hB), Nat.mul_comm A B, Nat.mul_div_mul_right _ _ hA]
  · exact Nat.div_lt_of_lt_mul (by rw [Nat.mul_comm, ← e]; exact hl)
theorem up_far {x k : Nat} (hx : x * 2 ^ k < 340282366920938463463374607431768211456) (hk : 64 ≤ k) : x * 2 ^ k / 18446744073709551616 = x % 18446744073709551616 * 2 ^ (k - 64) % 18446744073709551616 ∧ x * 2 ^ k % 18446744073709551616 = 0 := by
  have e : x * 2 ^ k = x * 2 ^ (k - 64) * 18446744073709551616 := by
    rw [show (18446744073709551616 : Nat) = 2 ^ 64 from rfl, Nat.mul_assoc, ← Nat.pow_add, show k - 64 + 64 = k by omega]
  rw [e] at hx ⊢
  have hp := Nat.two_pow_pos (k - 64)
  have h1 : x ≤ x * 2 ^ (k - 64) := Nat.le_mul_of_pos_right _ hp
  generalize hq : x * 2 ^ (k - 64) = q at hx h1 ⊢
  have h2 : x % 18446744073709551616 = x := Nat.mod_eq_of_lt (by omega)
  rw [h2, hq]
  omega
end Ra
end Go.Proofs.YtkoijdmlehkhbaaGreatDoor

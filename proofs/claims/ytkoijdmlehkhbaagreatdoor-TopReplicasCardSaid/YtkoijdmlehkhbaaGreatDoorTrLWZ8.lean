/- Part 8 of what the law's proof needs: rules of the walk, contracts of functions, plain laws. No condition. -/
import Derived.Test.YtkoijdmlehkhbaaGreatDoorTrLWZ7
set_option linter.unusedSimpArgs false
set_option linter.unusedVariables false
set_option linter.unusedSectionVars false
set_option maxRecDepth 20000
set_option maxHeartbeats 4000000
namespace Go.Proofs.YtkoijdmlehkhbaaGreatDoor
open Go Go.J
attribute [local irreducible] At AtQ AtM AtM1 PR Ct Pu Rd Res.blk Res.own Res.ex RVs RV
namespace St
open Se Win
theorem mk_bd {u : Sta} (hk : u.k.ok) (ht : tm u.now) : 0 ≤ mk u ∧ mk u ≤ u.now := by
  have f := mod_bd (t := u.now) (w := u.k.a) hk.ha.1
  have g : u.now % u.k.a ≤ u.now := by
    have := Int.emod_add_mul_ediv u.now u.k.a
    have h2 := Int.mul_nonneg (show 0 ≤ u.k.a by have := hk.ha; omega) (Int.ediv_nonneg ht.1 (show 0 ≤ u.k.a by have := hk.ha; omega))
    omega
  unfold mk
  omega
/-- what a place has may be, twins aside -/
def rgh (u : Sta) (x : Ser) : Prop := sok u.k x ∧ 0 ≤ x.last ∧ x.last < mk u + u.k.a
instance (u : Sta) (x : Ser) : Decidable (rgh u x) := by unfold rgh; infer_instance
def rgt (u : Sta) (i : Nat) : Bool := emp u.pl.l[i]! || (decide (rgh u u.pl.l[i]!) && !twn u i)
theorem right {m : Mem} (u : Sta) (i : Nat) (hs : u.Ok m) (hi : i < u.pl.l.length) (hk : u.k.ok) (ht : tm u.now) : Rd Tryz.prog 39 #[u.v, .int .i64 (i : Int)] m [] (.bool (rgt u i)) := by
  unfold Rd
  have sl0 := hs.sl
  have np := hs.np
  have hb := mk_bd hk ht
  have ha := hk.ha
  have hx := hs.at hi
  have k1 := fun (m' : Mem) (h : m.le m') => empty u.pl.l[i]! (hx.mono h)
  have k2 := fun (m' : Mem) (h : m.le m') => checkS u.k u.pl.l[i]! (hx.mono h)
  have k3 := mark u hk ht
  have k4 := fun (m' : Mem) (h : m.le m') => twin u i (hs.mono h) hi
  unfold tm at ht
  unfold rgt
  unfold schk at k2
  clear hs hx hk
  generalize emp u.pl.l[i]! = e at k1 ⊢
  generalize twn u i = w at k4 ⊢
  cases e
  rotate_left
  · rw [Bool.true_or]
    refine Ct.enterV (by rfl) Tryz.func39 rfl Tryz.ntmps39 rfl (fun w0 Rest => ?_)
    (repeat' (first | refine zss ?_ | refine zsM ?_ | ((with_reducible first | apply AtM1.cr | apply AtQ.cr | apply At.cr); exact rfl; exact rfl; exact fun _ hmm => k1 _ hmm; exact ztk; kernel_rfl) | ((with_reducible apply At.box (d := 2)); exact rfl; exact rfl; exact rfl; intro b2) | ((with_reducible apply At.alloc (d := 5)); exact rfl; exact rfl; intro b5) | (refine zsp ?_ ?_ <;> (intro hc; (try simp only [zhcs, reduceCtorEq] at hc); (try (exfalso; first | (first | omega | exact absurd rfl hc) | contradiction | omega | exact absurd rfl hc | exact absurd (by decide) hc))))))
    all_goals ((with_reducible apply At.retB1 (B := [])); exact rfl; exact rfl; exact zml; exact zkp; exact ⟨rfl, rfl, rfl⟩)
  rw [Bool.false_or]
  by_cases h1 : sok u.k u.pl.l[i]!
  rotate_left
  · rw [if_neg h1] at k2
    rw [decide_eq_false (fun h => h1 h.1), Bool.false_and]
    refine Ct.enterV (by rfl) Tryz.func39 rfl Tryz.ntmps39 rfl (fun w0 Rest => ?_)
    (repeat' (first | refine zss ?_ | refine zsM ?_ | ((with_reducible first | apply AtM1.cr | apply AtQ.cr | apply At.cr); exact rfl; exact rfl; exact fun _ hmm => k1 _ hmm; exact ztk; kernel_rfl) | ((with_reducible first | apply AtM1.cr | apply AtQ.cr | apply At.cr); exact rfl; exact rfl; exact fun _ hmm => k2 _ hmm; exact ztk; kernel_rfl) | ((with_reducible apply At.box (d := 2)); exact rfl; exact rfl; exact rfl; intro b2) | ((with_reducible apply At.alloc (d := 5)); exact rfl; exact rfl; intro b5) | (refine zsp ?_ ?_ <;> (intro hc; (try simp only [zhcs, reduceCtorEq] at hc); (try (exfalso; first | (first | omega | exact absurd rfl hc) | contradiction | omega | exact absurd rfl hc | exact absurd (by decide) hc))))))
    all_goals ((with_reducible apply At.retB1 (B := [])); exact rfl; exact rfl; exact zml; exact zkp; exact ⟨rfl, rfl, rfl⟩)
  rw [if_pos h1] at k2
  by_cases h2 : 0 ≤ u.pl.l[i]!.last
  rotate_left
  · rw [decide_eq_false (fun h => h2 h.2.1), Bool.false_and]
    refine Ct.enterV (by rfl) Tryz.func39 rfl Tryz.ntmps39 rfl (fun w0 Rest => ?_)
    (repeat' (first | refine zss ?_ | refine zsM ?_ | ((with_reducible first | apply AtM1.cr | apply AtQ.cr | apply At.cr); exact rfl; exact rfl; exact fun _ hmm => k1 _ hmm; exact ztk; kernel_rfl) | ((with_reducible first | apply AtM1.cr | apply AtQ.cr | apply At.cr); exact rfl; exact rfl; exact fun _ hmm => k2 _ hmm; exact ztk; kernel_rfl) | ((with_reducible apply At.box (d := 2)); exact rfl; exact rfl; exact rfl; intro b2) | ((with_reducible apply At.alloc (d := 5)); exact rfl; exact rfl; intro b5) | (refine zsp ?_ ?_ <;> (intro hc; (try simp only [zhcs, reduceCtorEq] at hc); (try (exfalso; first | (first | omega | exact absurd rfl hc) | contradiction | omega | exact absurd rfl hc | exact absurd (by decide) hc))))))
    all_goals ((with_reducible apply At.retB1 (B := [])); exact rfl; exact rfl; exact zml; exact zkp; exact ⟨rfl, rfl, rfl⟩)
  by_cases h3 : u.pl.l[i]!.last < mk u + u.k.a
  rotate_left
  · rw [decide_eq_false (fun h => h3 h.2.2), Bool.false_and]
    clear h1
    refine Ct.enterV (by rfl) Tryz.func39 rfl Tryz.ntmps39 rfl (fun w0 Rest => ?_)
    (repeat' (first | refine zss ?_ | ((first | (with_reducible first | apply At.val | apply AtQ.val)); (exact pr_indexArr (k := 0) (by rfl) (by rfl) (by rfl) (by rfl) (by decide)); exact rfl) | refine zsM ?_ | ((with_reducible first | apply AtM1.cr | apply AtQ.cr | apply At.cr); exact rfl; exact rfl; exact fun _ hmm => k1 _ hmm; exact ztk; kernel_rfl) | ((with_reducible first | apply AtM1.cr | apply AtQ.cr | apply At.cr); exact rfl; exact rfl; exact fun _ hmm => k2 _ hmm; exact ztk; kernel_rfl) | ((with_reducible first | apply AtM1.callp | apply AtQ.callp | apply At.callp); kernel_rfl; exact rfl; exact rfl; exact k3) | ((with_reducible apply At.box (d := 2)); exact rfl; exact rfl; exact rfl; intro b2) | ((with_reducible apply At.alloc (d := 5)); exact rfl; exact rfl; intro b5) | (refine zsp ?_ ?_ <;> (intro hc; (try simp only [zhcs, reduceCtorEq] at hc); (try (exfalso; first | (first | omega | exact absurd rfl hc) | contradiction | omega | exact absurd rfl hc | exact absurd (by decide) hc))))))
    all_goals ((with_reducible apply At.retB1 (B := [])); exact rfl; exact rfl; exact zml; exact zkp; exact ⟨rfl, rfl, rfl⟩)
  · rw [decide_eq_true (show rgh u u.pl.l[i]! from ⟨h1, h2, h3⟩), Bool.true_and]
    clear h1
    refine Ct.enterV (by rfl) Tryz.func39 rfl Tryz.ntmps39 rfl (fun w0 Rest => ?_)
    (repeat' (first | refine zss ?_ | ((first | (with_reducible first | apply At.val | apply AtQ.val)); (exact pr_indexArr (k := 0) (by rfl) (by rfl) (by rfl) (by rfl) (by decide)); exact rfl) | refine zsM ?_ | ((with_reducible first | apply AtM1.cr | apply AtQ.cr | apply At.cr); exact rfl; exact rfl; exact fun _ hmm => k1 _ hmm; exact ztk; kernel_rfl) | ((with_reducible first | apply AtM1.cr | apply AtQ.cr | apply At.cr); exact rfl; exact rfl; exact fun _ hmm => k2 _ hmm; exact ztk; kernel_rfl) | ((with_reducible first | apply AtM1.callp | apply AtQ.callp | apply At.callp); kernel_rfl; exact rfl; exact rfl; exact k3) | ((with_reducible first | apply AtM1.cr | apply AtQ.cr | apply At.cr); exact rfl; exact rfl; exact fun _ hmm => k4 _ hmm; exact ztk; kernel_rfl) | ((with_reducible apply At.box (d := 2)); exact rfl; exact rfl; exact rfl; intro b2) | ((with_reducible apply At.alloc (d := 5)); exact rfl; exact rfl; intro b5) | (refine zsp ?_ ?_ <;> (intro hc; (try simp only [zhcs, reduceCtorEq] at hc); (try (exfalso; first | (first | omega | exact absurd rfl hc) | contradiction | omega | exact absurd rfl hc | exact absurd (by decide) hc))))))
    all_goals ((with_reducible apply At.retB1 (B := [])); exact rfl; exact rfl; exact zml; exact zkp; exact ⟨rfl, rfl, rfl⟩)
theorem check1 {m : Mem} (b : Nat) (u : Sta) (i : Nat) (hs : u.Ok m) (hi : i < u.pl.l.length) (hk : u.k.ok) (ht : tm u.now) : Ct Tryz.prog 38 #[.int .i64 (i : Int), pt b] m [vb b u] (fun v m' B => v = .bool (!rgt u i) ∧ m = m' ∧ B = [vb b u]) := by
  have k1 := fun (m' : Mem) (h : m.le m') => right u i (hs.mono h) hi hk ht
  refine Ct.enterV (by rfl) Tryz.func38 rfl Tryz.ntmps38 rfl (fun w0 Rest => ?_)
  (repeat' (first | refine zss ?_ | refine zs0 ?_ | ((with_reducible first | apply AtM1.cr | apply AtQ.cr | apply At.cr); exact rfl; exact rfl; exact fun _ hmm => k1 _ hmm; exact ztk; kernel_rfl) | (refine zsp ?_ ?_ <;> (intro hc; (try simp only [zhcs, reduceCtorEq] at hc); (try (exfalso; first | contradiction | omega | exact absurd rfl hc | exact absurd (by decide) hc))))))
  all_goals ((with_reducible apply At.retB1 (B := [vb b u])); exact rfl; exact rfl; exact zml; exact zkp; exact ⟨rfl, rfl, rfl⟩)
/-- a state is right -/
def okU (u : Sta) : Prop := whole u ∧ clk u ∧ ∀ i, i < u.pl.l.length → rgt u i = true
instance (u : Sta) : Decidable (okU u) := by unfold okU; infer_instance
def chk (u : Sta) : Int := if okU u then 0 else 2
theorem check {m : Mem} (u : Sta) (hs : u.Ok m) : Rd Tryz.prog 8 #[u.v] m [] (.int .i64 (chk u)) := by
  unfold Rd
  by_cases h0 : whole u
  rotate_left
  · have k0 := openN u h0
    rw [show chk u = 2 from if_neg (fun h => h0 h.1)]
    refine Ct.enterV (by rfl) Tryz.func8 rfl Tryz.ntmps8 rfl (fun w0 Rest => ?_)
    (repeat' (first | refine zss ?_ | refine zs0 ?_ | ((with_reducible first | apply AtM1.callp | apply AtQ.callp | apply At.callp); kernel_rfl; exact rfl; exact rfl; exact k0) | ((with_reducible apply At.box (d := 1)); exact rfl; exact rfl; exact rfl; intro b1) | ((with_reducible apply At.alloc (d := 3)); exact rfl; exact rfl; intro b3) | (refine zsp ?_ ?_ <;> (intro hc; (try simp only [zhcs, reduceCtorEq] at hc); (try (exfalso; first | (first | omega | exact absurd rfl hc) | contradiction | omega | exact absurd rfl hc | exact absurd (by decide) hc))))))
    all_goals ((with_reducible apply At.retB1 (B := [])); exact rfl; exact rfl; exact zml; exact zkp; exact ⟨rfl, rfl, rfl⟩)
  have k0 := openK u h0
  have k1 := clock u
  by_cases h1 : clk u
  rotate_left
  · rw [decide_eq_false h1] at k1
    rw [show chk u = 2 from if_neg (fun h => h1 h.2.1)]
    refine Ct.enterV (by rfl) Tryz.func8 rfl Tryz.ntmps8 rfl (fun w0 Rest => ?_)
    (repeat' (first | refine zss ?_ | refine zs0 ?_ | ((with_reducible first | apply AtM1.callp | apply AtQ.callp | apply At.callp); kernel_rfl; exact rfl; exact rfl; exact k0) | ((with_reducible first | apply AtM1.callp | apply AtQ.callp | apply At.callp); kernel_rfl; exact rfl; exact rfl; exact k1) | ((with_reducible apply At.box (d := 1)); exact rfl; exact rfl; exact rfl; intro b1) | ((with_reducible apply At.alloc (d := 3)); exact rfl; exact rfl; intro b3) | (refine zsp ?_ ?_ <;> (intro hc; (try simp only [zhcs, reduceCtorEq] at hc); (try (exfalso; first | (first | omega | exact absurd rfl hc) | contradiction | omega | exact absurd rfl hc | exact absurd (by decide) hc))))))
    all_goals ((with_reducible apply At.retB1 (B := [])); exact rfl; exact rfl; exact zml; exact zkp; exact ⟨rfl, rfl, rfl⟩)
  rw [decide_eq_true h1] at k1
  have k2 := fun (m' : Mem) (h : m.le m') b => place u 38 [pt b] [vb b u] (fun i => !rgt u i) (hs.mono h) (by kernel_rfl) (fun m'' h' k hk => check1 b u k (hs.mono (Mem.le_trans h h')) hk h0.1 h1.1)
  have hc0 : chk u = 0 ↔ ∀ i, i < u.pl.l.length → rgt u i = true := by
    unfold chk
    constructor
    · intro h
      by_cases g : okU u
      · exact g.2.2
      · rw [if_neg g] at h; exact absurd h (by decide)
    · exact fun h => if_pos ⟨h0, h1, h⟩
  refine Ct.enterV (by rfl) Tryz.func8 rfl Tryz.ntmps8 rfl (fun w0 Rest => ?_)
  (repeat' (first | refine zss ?_ | refine zs0 ?_ | ((with_reducible first | apply AtM1.callp | apply AtQ.callp | apply At.callp); kernel_rfl; exact rfl; exact rfl; exact k0) | ((with_reducible first | apply AtM1.callp | apply AtQ.callp | apply At.callp); kernel_rfl; exact rfl; exact rfl; exact k1) | ((with_reducible first | apply At.c1 | apply At.c0); exact rfl; exact rfl; exact k2 _ (Mem.le_refl _) _; exact ztk; kernel_rfl; rintro v' m' B' hm' ⟨hf, rfl, rfl⟩; skip; (try (have hq0 : hm' = Mem.le_refl _ := rfl; clear hq0 hm'))) | (rcases hf with ⟨rfl, hn⟩ | ⟨k, rfl, hk, hq, -⟩) | ((with_reducible apply At.box (d := 1)); exact rfl; exact rfl; exact rfl; intro b1) | ((with_reducible apply At.alloc (d := 3)); exact rfl; exact rfl; intro b3) | (refine zsp ?_ ?_ <;> (intro hc; (try simp only [zhcs, reduceCtorEq] at hc); (try (exfalso; first | (first | omega | exact absurd rfl hc) | contradiction | omega | exact absurd rfl hc | exact absurd (by decide) hc))))))
  · rw [hc0.2 (fun i hi => by have := hn i hi; simpa using this)]
    ((with_reducible apply At.retB1 (B := [])); exact rfl; exact rfl; exact zml; exact zkp; exact ⟨rfl, rfl, rfl⟩)
  · rw [show chk u = 2 from if_neg (fun h => by have := h.2.2 k hk; dsimp only at hq; rw [this] at hq; exact absurd hq (by decide))]
    ((with_reducible apply At.retB1 (B := [])); exact rfl; exact rfl; exact zml; exact zkp; exact ⟨rfl, rfl, rfl⟩)
/-- the first place of which something holds, or why there is none -/
def fstO (n : Nat) (q : Nat → Bool) : Option Nat := (List.range n).find? q
theorem fst_none {n : Nat} {q : Nat → Bool} (h : ∀ i, i < n → q i = false) : fstO n q = none := by
  unfold fstO
  rw [List.find?_eq_none]
  intro x hx
  rw [h x (List.mem_range.1 hx)]
  decide
theorem fst_some {n : Nat} {q : Nat → Bool} {k : Nat} (hk : k < n) (hq : q k = true) (hn : ∀ i, i < k → q i = false) : fstO n q = some k := by
  unfold fstO
  rw [List.find?_range_eq_some]
  exact ⟨hq, List.mem_range.2 hk, fun j hj => by rw [hn j hj]; rfl⟩
def sel (u : Sta) (q : Nat → Bool) (e : Int) : Int × Int := if whole u then (match fstO u.pl.l.length q with | some k => ((k : Int), 0) | none => (0, e)) else (0, 2)
theorem sel_none {u : Sta} {q : Nat → Bool} {e : Int} (hw : whole u) (h : ∀ i, i < u.pl.l.length → q i = false) : sel u q e = (0, e) := by unfold sel; rw [if_pos hw, fst_none h]
theorem sel_some {u : Sta} {q : Nat → Bool} {e : Int} {k : Nat} (hw : whole u) (hk : k < u.pl.l.length) (hq : q k = true) (hn : ∀ i, i < k → q i = false) : sel u q e = ((k : Int), 0) := by unfold sel; rw [if_pos hw, fst_some hk hq hn]
theorem sel_bad {u : Sta} {q : Nat → Bool} {e : Int} (hw : ¬ whole u) : sel u q e = (0, 2) := if_neg hw
/-- a series of these labels lives here -/
def fnd (u : Sta) (l : List Lab) (i : Nat) : Bool := decide (u.pl.l[i]!.lab.l = l) && liv u u.pl.l[i]!
abbrev sb (b : Nat) (u : Sta) : Res := .blk b 28 u.cells
abbrev lb (b : Nat) (l : Lst Lab) : Res := .blk b 50 [l.v]
theorem find1 {m : Mem} (b c d : Nat) (u : Sta) (l : Lst Lab) (i : Nat) (hs : u.Ok m) (hi : i < u.pl.l.length) (hl : l.l.length ≤ 1000000000) (sl1 : Sl m Lb.cells 2 l.p l.c l.l) :
    Ct Tryz.prog 146 #[.int .i64 (i : Int), pt b, pt c, pt d] m [sb b u, lb c l, vb d u] (fun v m' B => v = .bool (fnd u l.l i) ∧ m = m' ∧ B = [sb b u, lb c l, vb d u]) := by
  have sl0 := hs.sl
  have np := hs.np
  have k1 := fun (m' : Mem) (h : m.le m') => lives u i (hs.mono h) hi
  have hb := hs.at hi
  have k2 := fun (m' : Mem) (h : m.le m') => Lb.same u.pl.l[i]!.lab.p u.pl.l[i]!.lab.c u.pl.l[i]!.lab.l l.p l.c l.l (Nat.le_trans hb.nl (by decide)) hl (hb.sl.mono h) (sl1.mono h)
  unfold fnd
  generalize liv u u.pl.l[i]! = e at k1 ⊢
  generalize decide (u.pl.l[i]!.lab.l = l.l) = w at k2 ⊢
  clear hs hb
  cases w
  · refine Ct.enterV (by rfl) Tryz.func146 rfl Tryz.ntmps146 rfl (fun w0 Rest => ?_)
    (repeat' (first | refine zss ?_ | refine zsM ?_ | ((with_reducible first | apply AtM1.cr | apply AtQ.cr | apply At.cr); exact rfl; exact rfl; exact fun _ hmm => k2 _ hmm; exact ztk; kernel_rfl) | (refine zsp ?_ ?_ <;> (intro hc; (try simp only [zhcs, reduceCtorEq] at hc); (try (exfalso; first | (first | omega | exact absurd rfl hc) | contradiction | omega | exact absurd rfl hc | exact absurd (by decide) hc))))))
    all_goals ((with_reducible apply At.retB1 (B := [sb b u, lb c l, vb d u])); exact rfl; exact rfl; exact zml; exact zkp; exact ⟨rfl, rfl, rfl⟩)
  · refine Ct.enterV (by rfl) Tryz.func146 rfl Tryz.ntmps146 rfl (fun w0 Rest => ?_)
    (repeat' (first | refine zss ?_ | refine zsM ?_ | ((with_reducible first | apply AtM1.cr | apply AtQ.cr | apply At.cr); exact rfl; exact rfl; exact fun _ hmm => k2 _ hmm; exact ztk; kernel_rfl) | ((with_reducible first | apply AtM1.cr | apply AtQ.cr | apply At.cr); exact rfl; exact rfl; exact fun _ hmm => k1 _ hmm; exact ztk; kernel_rfl) | (refine zsp ?_ ?_ <;> (intro hc; (try simp only [zhcs, reduceCtorEq] at hc); (try (exfalso; first | (first | omega | exact absurd rfl hc) | contradiction | omega | exact absurd rfl hc | exact absurd (by decide) hc))))))
    all_goals ((with_reducible apply At.retB1 (B := [sb b u, lb c l, vb d u])); exact rfl; exact rfl; exact zml; exact zkp; exact ⟨rfl, rfl, rfl⟩)
theorem find {m : Mem} (u : Sta) (l : Lst Lab) (hs : u.Ok m) (hl : l.l.length ≤ 1000000000) (sl1 : Sl m Lb.cells 2 l.p l.c l.l) :
    Rd Tryz.prog 94 #[u.v, l.v] m [] (.tuple #[.int .i64 (sel u (fnd u l.l) 3).1, .int .i64 (sel u (fnd u l.l) 3).2]) := by
  unfold Rd
  by_cases h0 : whole u
  rotate_left
  · have k0 := openN u h0
    rw [sel_bad h0]
    refine Ct.enterV (by rfl) Tryz.func94 rfl Tryz.ntmps94 rfl (fun w0 Rest => ?_)
    (repeat' (first | refine zss ?_ | refine zs0 ?_ | ((with_reducible first | apply AtM1.callp | apply AtQ.callp | apply At.callp); kernel_rfl; exact rfl; exact rfl; exact k0) | ((with_reducible apply At.box (d := 2)); exact rfl; exact rfl; exact rfl; intro b2) | ((with_reducible apply At.box (d := 3)); exact rfl; exact rfl; exact rfl; intro b3) | ((with_reducible apply At.alloc (d := 6)); exact rfl; exact rfl; intro b6) | (refine zsp ?_ ?_ <;> (intro hc; (try simp only [zhcs, reduceCtorEq] at hc); (try (exfalso; first | (first | omega | exact absurd rfl hc) | contradiction | omega | exact absurd rfl hc | exact absurd (by decide) hc))))))
    all_goals ((with_reducible apply At.retV (B := [])); exact rfl; (repeat' (first | exact RVs.nil | (with_reducible apply RVs.cons) | exact rv_tmp (by rfl) | exact rv_cellN (by rfl) (by repeat constructor) (by rfl) (by rfl) (by rfl) | exact rv_cell1 (by rfl) (by repeat constructor) (by rfl) (by rfl))); exact zml; exact zkp; exact ⟨rfl, rfl, rfl⟩)
  have k0 := openK u h0
  have k2 := fun (m' : Mem) (h : m.le m') b c d => place u 146 [pt b, pt c, pt d] [sb b u, lb c l, vb d u] (fnd u l.l) (hs.mono h) (by kernel_rfl) (fun m'' h' k hk => find1 b c d u l k (hs.mono (Mem.le_trans h h')) hk hl (sl1.mono (Mem.le_trans h h')))
  have np := hs.np
  refine Ct.enterV (by rfl) Tryz.func94 rfl Tryz.ntmps94 rfl (fun w0 Rest => ?_)
  (repeat' (first | refine zss ?_ | refine zs0 ?_ | ((with_reducible first | apply AtM1.callp | apply AtQ.callp | apply At.callp); kernel_rfl; exact rfl; exact rfl; exact k0) | ((with_reducible first | apply At.c1 | apply At.c0); exact rfl; exact rfl; exact k2 _ (Mem.le_refl _) _ _ _; exact ztk; kernel_rfl; rintro v' m' B' hm' ⟨hf, rfl, rfl⟩; (try replace sl1 := sl1.mono hm'); (try (have hq0 : hm' = Mem.le_refl _ := rfl; clear hq0 hm'))) | (rcases hf with ⟨rfl, hn⟩ | ⟨k, rfl, hk, hq, hn⟩) | ((with_reducible apply At.box (d := 2)); exact rfl; exact rfl; exact rfl; intro b2) | ((with_reducible apply At.box (d := 3)); exact rfl; exact rfl; exact rfl; intro b3) | ((with_reducible apply At.alloc (d := 6)); exact rfl; exact rfl; intro b6) | (refine zsp ?_ ?_ <;> (intro hc; (try simp only [zhcs, reduceCtorEq] at hc); (try (exfalso; first | (first | omega | exact absurd rfl hc) | contradiction | omega | exact absurd rfl hc | exact absurd (by decide) hc))))))
  · rw [sel_none h0 hn]
    ((with_reducible apply At.retV (B := [])); exact rfl; (repeat' (first | exact RVs.nil | (with_reducible apply RVs.cons) | exact rv_tmp (by rfl) | exact rv_cellN (by rfl) (by repeat constructor) (by rfl) (by rfl) (by rfl) | exact rv_cell1 (by rfl) (by repeat constructor) (by rfl) (by rfl))); exact zml; exact zkp; exact ⟨rfl, rfl, rfl⟩)
  · rw [sel_some h0 hk hq hn]
    ((with_reducible apply At.retV (B := [])); exact rfl; (repeat' (first | exact RVs.nil | (with_reducible apply RVs.cons) | exact rv_tmp (by rfl) | exact rv_cellN (by rfl) (by repeat constructor) (by rfl) (by rfl) (by rfl) | exact rv_cell1 (by rfl) (by repeat constructor) (by rfl) (by rfl))); exact zml; exact zkp; exact ⟨rfl, rfl, rfl⟩)
def roo (u : Sta) (i : Nat) : Bool := !liv u u.pl.l[i]!
theorem room1 {m : Mem} (b : Nat) (u : Sta) (i : Nat) (hs : u.Ok m) (hi : i < u.pl.l.length) : Ct Tryz.prog 199 #[.int .i64 (i : Int), pt b] m [vb b u] (fun v m' B => v = .bool (roo u i) ∧ m = m' ∧ B = [vb b u]) := by
  have k1 := fun (m' : Mem) (h : m.le m') => lives u i (hs.mono h) hi
  refine Ct.enterV (by rfl) Tryz.func199 rfl Tryz.ntmps199 rfl (fun w0 Rest => ?_)
  (repeat' (first | refine zss ?_ | refine zs0 ?_ | ((with_reducible first | apply AtM1.cr | apply AtQ.cr | apply At.cr); exact rfl; exact rfl; exact fun _ hmm => k1 _ hmm; exact ztk; kernel_rfl) | (refine zsp ?_ ?_ <;> (intro hc; (try simp only [zhcs, reduceCtorEq] at hc); (try (exfalso; first | contradiction | omega | exact absurd rfl hc | exact absurd (by decide) hc))))))
  all_goals ((with_reducible apply At.retB1 (B := [vb b u])); exact rfl; exact rfl; exact zml; exact zkp; exact ⟨rfl, rfl, rfl⟩)
theorem room {m : Mem} (u : Sta) (hs : u.Ok m) : Rd Tryz.prog 156 #[u.v] m [] (.tuple #[.int .i64 (sel u (roo u) 7).1, .int .i64 (sel u (roo u) 7).2]) := by
  unfold Rd
  by_cases h0 : whole u
  rotate_left
  · have k0 := openN u h0
    rw [sel_bad h0]
    refine Ct.enterV (by rfl) Tryz.func156 rfl Tryz.ntmps156 rfl (fun w0 Rest => ?_)
    (repeat' (first | refine zss ?_ | refine zs0 ?_ | ((with_reducible first | apply AtM1.callp | apply AtQ.callp | apply At.callp); kernel_rfl; exact rfl; exact rfl; exact k0) | ((with_reducible apply At.box (d := 1)); exact rfl; exact rfl; exact rfl; intro b1) | ((with_reducible apply At.alloc (d := 4)); exact rfl; exact rfl; intro b4) | (refine zsp ?_ ?_ <;> (intro hc; (try simp only [zhcs, reduceCtorEq] at hc); (try (exfalso; first | (first | omega | exact absurd rfl hc) | contradiction | omega | exact absurd rfl hc | exact absurd (by decide) hc))))))
    all_goals ((with_reducible apply At.retV (B := [])); exact rfl; (repeat' (first | exact RVs.nil | (with_reducible apply RVs.cons) | exact rv_tmp (by rfl) | exact rv_cellN (by rfl) (by repeat constructor) (by rfl) (by rfl) (by rfl) | exact rv_cell1 (by rfl) (by repeat constructor) (by rfl) (by rfl))); exact zml; exact zkp; exact ⟨rfl, rfl, rfl⟩)
  have k0 := openK u h0
  have k2 := fun (m' : Mem) (h : m.le m') b => place u 199 [pt b] [vb b u] (roo u) (hs.mono h) (by kernel_rfl) (fun m'' h' k hk => room1 b u k (hs.mono (Mem.le_trans h h')) hk)
  have np := hs.np
  refine Ct.enterV (by rfl) Tryz.func156 rfl Tryz.ntmps156 rfl (fun w0 Rest => ?_)
  (repeat' (first | refine zss ?_ | refine zs0 ?_ | ((with_reducible first | apply AtM1.callp | apply AtQ.callp | apply At.callp); kernel_rfl; exact rfl; exact rfl; exact k0) | ((with_reducible first | apply At.c1 | apply At.c0); exact rfl; exact rfl; exact k2 _ (Mem.le_refl _) _; exact ztk; kernel_rfl; rintro v' m' B' hm' ⟨hf, rfl, rfl⟩; skip; (try (have hq0 : hm' = Mem.le_refl _ := rfl; clear hq0 hm'))) | (rcases hf with ⟨rfl, hn⟩ | ⟨k, rfl, hk, hq, hn⟩) | ((with_reducible apply At.box (d := 1)); exact rfl; exact rfl; exact rfl; intro b1) | ((with_reducible apply At.alloc (d := 4)); exact rfl; exact rfl; intro b4) | (refine zsp ?_ ?_ <;> (intro hc; (try simp only [zhcs, reduceCtorEq] at hc); (try (exfalso; first | (first | omega | exact absurd rfl hc) | contradiction | omega | exact absurd rfl hc | exact absurd (by decide) hc))))))
  · rw [sel_none h0 hn]
    ((with_reducible apply At.retV (B := [])); exact rfl; (repeat' (first | exact RVs.nil | (with_reducible apply RVs.cons) | exact rv_tmp (by rfl) | exact rv_cellN (by rfl) (by repeat constructor) (by rfl) (by rfl) (by rfl) | exact rv_cell1 (by rfl) (by repeat constructor) (by rfl) (by rfl))); exact zml; exact zkp; exact ⟨rfl, rfl, rfl⟩)
  · rw [sel_some h0 hk hq hn]
    ((with_reducible apply At.retV (B := [])); exact rfl; (repeat' (first | exact RVs.nil | (with_reducible apply RVs.cons) | exact rv_tmp (by rfl) | exact rv_cellN (by rfl) (by repeat constructor) (by rfl) (by rfl) (by rfl) | exact rv_cell1 (by rfl) (by repeat constructor) (by rfl) (by rfl))); exact zml; exact zkp; exact ⟨rfl, rfl, rfl⟩)
/-- where the open window begins, if there is one -/
def mkU (u : Sta) : Int := if whole u ∧ tm u.now then mk u else 0
theorem markU {m : Mem} (u : Sta) : Rd Tryz.prog 198 #[u.v] m [] (.int .i64 (mkU u)) := by
  unfold Rd mkU
  by_cases h0 : whole u
  rotate_left
  · have k0 := openN u h0
    rw [if_neg (fun h => h0 h.1)]
    refine Ct.enterV (by rfl) Tryz.func198 rfl Tryz.ntmps198 rfl (fun w0 Rest => ?_)
    (repeat' (first | refine zss ?_ | refine zs0 ?_ | ((with_reducible first | apply AtM1.callp | apply AtQ.callp | apply At.callp); kernel_rfl; exact rfl; exact rfl; exact k0) | ((with_reducible apply At.box (d := 1)); exact rfl; exact rfl; exact rfl; intro b1) | ((with_reducible apply At.alloc (d := 3)); exact rfl; exact rfl; intro b3) | (refine zsp ?_ ?_ <;> (intro hc; (try simp only [zhcs, reduceCtorEq] at hc); (try (exfalso; first | (first | omega | exact absurd rfl hc) | contradiction | omega | exact absurd rfl hc | exact absurd (by decide) hc))))))
    all_goals ((with_reducible apply At.retB1 (B := [])); exact rfl; exact rfl; exact zml; exact zkp; exact ⟨rfl, rfl, rfl⟩)
  have k0 := openK u h0
  have k1 := time u.now
  by_cases h1 : tm u.now
  · have k2 := mark u h0.1 h1
    rw [decide_eq_true h1] at k1
    rw [if_pos ⟨h0, h1⟩]
    refine Ct.enterV (by rfl) Tryz.func198 rfl Tryz.ntmps198 rfl (fun w0 Rest => ?_)
    (repeat' (first | refine zss ?_ | refine zs0 ?_ | ((with_reducible first | apply AtM1.callp | apply AtQ.callp | apply At.callp); kernel_rfl; exact rfl; exact rfl; exact k0) | ((with_reducible first | apply AtM1.callp | apply AtQ.callp | apply At.callp); kernel_rfl; exact rfl; exact rfl; exact k1) | ((with_reducible first | apply AtM1.callp | apply AtQ.callp | apply At.callp); kernel_rfl; exact rfl; exact rfl; exact k2) | ((with_reducible apply At.box (d := 1)); exact rfl; exact rfl; exact rfl; intro b1) | ((with_reducible apply At.alloc (d := 3)); exact rfl; exact rfl; intro b3) | (refine zsp ?_ ?_ <;> (intro hc; (try simp only [zhcs, reduceCtorEq] at hc); (try (exfalso; first | (first | omega | exact absurd rfl hc) | contradiction | omega | exact absurd rfl hc | exact absurd (by decide) hc))))))
    all_goals ((with_reducible apply At.retB1 (B := [])); exact rfl; exact rfl; exact zml; exact zkp; exact ⟨rfl, rfl, rfl⟩)
  · rw [decide_eq_false h1] at k1
    rw [if_neg (fun h => h1 h.2)]
    refine Ct.enterV (by rfl) Tryz.func198 rfl Tryz.ntmps198 rfl (fun w0 Rest => ?_)
    (repeat' (first | refine zss ?_ | refine zs0 ?_ | ((with_reducible first | apply AtM1.callp | apply AtQ.callp | apply At.callp); kernel_rfl; exact rfl; exact rfl; exact k0) | ((with_reducible first | apply AtM1.callp | apply AtQ.callp | apply At.callp); kernel_rfl; exact rfl; exact rfl; exact k1) | ((with_reducible apply At.box (d := 1)); exact rfl; exact rfl; exact rfl; intro b1) | ((with_reducible apply At.alloc (d := 3)); exact rfl; exact rfl; intro b3) | (refine zsp ?_ ?_ <;> (intro hc; (try simp only [zhcs, reduceCtorEq] at hc); (try (exfalso; first | (first | omega | exact absurd rfl hc) | contradiction | omega | exact absurd rfl hc | exact absurd (by decide) hc))))))
    all_goals ((with_reducible apply At.retB1 (B := [])); exact rfl; exact rfl; exact zml; exact zkp; exact ⟨rfl, rfl, rfl⟩)
end St
end Go.Proofs.YtkoijdmlehkhbaaGreatDoor
namespace Go.Proofs.YtkoijdmlehkhbaaGreatDoor
open Go Go.J
attribute [local irreducible] At AtQ AtM AtM1 PR Ct Pu Rd Res.blk Res.own Res.ex RVs RV
namespace Ser
/-- what it has lies where it says; its numbers are numbers; it may be of any length -/
structure Lay (m : Mem) (s : Ser) : Prop where
  sl : Sl m Lb.cells 2 s.lab.p s.lab.c s.lab.l
  sr : Sl m Ev.cells 4 s.raw.p s.raw.c s.raw.l
  s0 : Sl m Slot.cells 15 s.t0.p s.t0.c s.t0.l
  s1 : Sl m Slot.cells 15 s.t1.p s.t1.c s.t1.l
  s2 : Sl m Slot.cells 15 s.t2.p s.t2.c s.t2.l
  i0 : ∀ x ∈ s.t0.l, Slot.In x
  i1 : ∀ x ∈ s.t1.l, Slot.In x
  i2 : ∀ x ∈ s.t2.l, Slot.In x
  io : Slot.In s.op
  ir : ∀ e ∈ s.raw.l, e.V < 18446744073709551616
  bl : -9223372036854775808 ≤ s.last ∧ s.last ≤ 9223372036854775807
theorem Lay.mono {m m' : Mem} {s : Ser} (h : Lay m s) (hm : m.le m') : Lay m' s := ⟨h.sl.mono hm, h.sr.mono hm, h.s0.mono hm, h.s1.mono hm, h.s2.mono hm, h.i0, h.i1, h.i2, h.io, h.ir, h.bl⟩
def sm (x : Ser) : Prop := Lb.few x.lab.l ∧ x.raw.l.length ≤ 60 ∧ x.t0.l.length ≤ 40 ∧ x.t1.l.length ≤ 40 ∧ x.t2.l.length ≤ 40
instance (x : Ser) : Decidable (sm x) := by unfold sm; infer_instance
end Ser
namespace St
open Se Win
end St
end Go.Proofs.YtkoijdmlehkhbaaGreatDoor
namespace Go.Proofs.YtkoijdmlehkhbaaGreatDoor
open Go Go.J
attribute [local irreducible] At AtQ AtM AtM1 PR Ct Pu Rd Res.blk Res.own Res.ex RVs RV
namespace Sta
structure Lay (m : Mem) (s : Sta) : Prop where
  sl : Sl m Ser.cells 23 s.pl.p s.pl.c s.pl.l
  pk : ∀ x ∈ s.pl.l, Ser.Lay m x
  bn : -9223372036854775808 ≤ s.now ∧ s.now ≤ 9223372036854775807
  bs : -9223372036854775808 ≤ s.swept ∧ s.swept ≤ 9223372036854775807
theorem Lay.mono {m m' : Mem} {s : Sta} (h : Lay m s) (hm : m.le m') : Lay m' s := ⟨h.sl.mono hm, fun x hx => (h.pk x hx).mono hm, h.bn, h.bs⟩
def sm (u : Sta) : Prop := u.pl.l.length ≤ 8 ∧ ∀ x ∈ u.pl.l, Ser.sm x
instance (u : Sta) : Decidable (sm u) := by unfold sm; infer_instance
end Sta
namespace St
open Se Win
/-- a new state -/
theorem new {m : Mem} (k : Cfg) (n : Nat) (hk : k.ok) (hn : (n : Int) = k.c) (hz : Conf.szv k.r k.x k.y k.w k.c k.g ≤ 16777216) :
    Ct Tryz.prog 51 #[k.v] m [] (fun v m' B => B = [] ∧ ∃ p c, v = .tuple #[(⟨k, 0, -1, ⟨p, c, List.replicate n Ser.z⟩⟩ : Sta).v, .int .i64 0] ∧ Sl m' Ser.cells 23 p c (List.replicate n Ser.z)) := by
  have k1 := Conf.sizeF hk
  rw [if_neg (by omega)] at k1
  have hc0 := hk.hc
  clear hk hz
  generalize Conf.szv k.r k.x k.y k.w k.c k.g = z at k1
  refine Ct.enterV (by rfl) Tryz.func51 rfl Tryz.ntmps51 rfl (fun w0 Rest => ?_)
  (repeat' (first | ((with_reducible apply At.mixed (id := 4) 7 (.q 0 (.q 1 (.q 2 (.l 3 (.q 4 (.x 5 (.q 6 .done)))))))); exact rfl; kernel_rfl; kernel_rfl; kernel_rfl) | refine zsx ?_ | refine zss ?_ | ((with_reducible apply AtM.bo); exact rfl; exact rfl; exact rfl) | refine zsO ?_ | refine zxO ?_ | ((with_reducible first | apply AtM1.callp | apply AtQ.callp | apply At.callp); kernel_rfl; exact rfl; exact rfl; exact k1) | ((with_reducible apply At.makeN (f := Ser.cells) (cp := n) (Ser.z)); exact inferInstance; (iterate 4 exact rfl); exact hn.symm; exact hn.symm; exact rfl; exact zom; exact rfl; intro bm) | ((with_reducible apply At.box (d := 1)); exact rfl; exact rfl; exact rfl; intro b1) | ((with_reducible apply At.alloc (d := 2)); exact rfl; exact rfl; intro b2) | (refine zsp ?_ ?_ <;> (intro hc; (try simp only [zhcs, reduceCtorEq] at hc); (try (exfalso; first | (first | omega | exact absurd rfl hc) | contradiction | omega | exact absurd rfl hc | exact absurd (by decide) hc))))))
  all_goals refine At.own_freeze inferInstance (by repeat constructor) fun m' hm' sl1 => ?_
  all_goals
    obtain ⟨L, hL⟩ : ∃ L, L = List.replicate n Ser.z := ⟨_, rfl⟩
    have e : n = L.length := by rw [hL, List.length_replicate]
    rw [← hL] at sl1 ⊢
    clear hL
    subst e
    ((with_reducible apply At.retV (B := [])); exact rfl; (repeat' (first | exact RVs.nil | (with_reducible apply RVs.cons) | exact rv_tmp (by rfl) | exact rv_cellN (by rfl) (by repeat constructor) (by rfl) (by rfl) (by rfl) | exact rv_cell1 (by rfl) (by repeat constructor) (by rfl) (by rfl))); exact zml; exact zkp; exact ⟨rfl, some ⟨bm, 0, none⟩, L.length, rfl, sl1⟩)
end St
end Go.Proofs.YtkoijdmlehkhbaaGreatDoor
namespace Go.Proofs.YtkoijdmlehkhbaaGreatDoor
open Go Go.J
attribute [local irreducible] At AtQ AtM AtM1 PR Ct Pu Rd Res.blk Res.own Res.ex RVs RV
namespace Ru
open Se Win St
theorem fstO_spec {n k : Nat} {q : Nat → Bool} (h : fstO n q = some k) : k < n ∧ q k = true ∧ ∀ j, j < k → q j = false := by
  unfold fstO at h
  rw [List.find?_range_eq_some] at h
  exact ⟨List.mem_range.1 h.2.1, h.1, fun j hj => by have := h.2.2 j hj; simpa using this⟩
def toB (u : Sta) : Int := min (mk u + u.k.a) 35184372088832
def opA (u : Sta) : Int := if okU u then mk u else 0
def opB (u : Sta) : Int := if okU u then toB u else 0
theorem open_ {m : Mem} (u : Sta) (hs : u.Ok m) : Rd Tryz.prog 155 #[u.v] m [] (.tuple #[.int .i64 (opA u), .int .i64 (opB u)]) := by
  unfold Rd
  have k0 := fun (m' : Mem) (h : m.le m') => check u (hs.mono h)
  have k1 := fun (m' : Mem) => markU (m := m') u
  unfold chk at k0
  unfold opA opB
  clear hs
  by_cases h0 : okU u
  rotate_left
  · rw [if_neg h0] at k0
    rw [if_neg h0, if_neg h0]
    refine Ct.enterV (by rfl) Tryz.func155 rfl Tryz.ntmps155 rfl (fun w0 Rest => ?_)
    (repeat' (first | refine zss ?_ | refine zs0 ?_ | ((with_reducible first | apply AtM1.cr | apply AtQ.cr | apply At.cr); exact rfl; exact rfl; exact fun _ hmm => k0 _ hmm; exact ztk; kernel_rfl) | ((with_reducible apply At.box (d := 1)); exact rfl; exact rfl; exact rfl; intro b1) | (refine zsp ?_ ?_ <;> (intro hc; (try simp only [zhcs, reduceCtorEq] at hc); (try (exfalso; first | (first | omega | exact absurd rfl hc | exact absurd hc (by decide)) | contradiction | omega | exact absurd rfl hc | exact absurd (by decide) hc))))))
    all_goals ((with_reducible apply At.retV (B := [])); exact rfl; (repeat' (first | exact RVs.nil | (with_reducible apply RVs.cons) | exact rv_tmp (by rfl) | exact rv_cellN (by rfl) (by repeat constructor) (by rfl) (by rfl) (by rfl) | exact rv_cell1 (by rfl) (by repeat constructor) (by rfl) (by rfl))); exact zml; exact zkp; exact ⟨rfl, rfl, rfl⟩)
  rw [if_pos h0] at k0
  rw [if_pos h0, if_pos h0]
  have hb := mk_bd h0.1.1 h0.2.1.1
  have ht : tm u.now := h0.2.1.1
  have ha := h0.1.1.ha
  have hm : mkU u = mk u := if_pos ⟨h0.1, h0.2.1.1⟩
  rw [hm] at k1
  unfold tm at ht
  unfold toB
  clear h0 hm
  refine Ct.enterV (by rfl) Tryz.func155 rfl Tryz.ntmps155 rfl (fun w0 Rest => ?_)
  (repeat' (first | refine zss ?_ | ((first | (with_reducible first | apply At.val | apply AtQ.val)); (first | exact pr_minI (by rfl) (by rfl) | exact pr_indexArr (k := 0) (by rfl) (by rfl) (by rfl) (by rfl) (by decide)); exact rfl) | refine zs0 ?_ | ((with_reducible first | apply AtM1.cr | apply AtQ.cr | apply At.cr); exact rfl; exact rfl; exact fun _ hmm => k0 _ hmm; exact ztk; kernel_rfl) | ((with_reducible first | apply AtM1.cr | apply AtQ.cr | apply At.cr); exact rfl; exact rfl; exact fun _ hmm => k1 _; exact ztk; kernel_rfl) | ((with_reducible apply At.box (d := 1)); exact rfl; exact rfl; exact rfl; intro b1) | (refine zsp ?_ ?_ <;> (intro hc; (try simp only [zhcs, reduceCtorEq] at hc); (try (exfalso; first | (first | omega | exact absurd rfl hc | exact absurd hc (by decide)) | contradiction | omega | exact absurd rfl hc | exact absurd (by decide) hc))))))
  all_goals ((with_reducible apply At.retV (B := [])); exact rfl; (repeat' (first | exact RVs.nil | (with_reducible apply RVs.cons) | exact rv_tmp (by rfl) | exact rv_cellN (by rfl) (by repeat constructor) (by rfl) (by rfl) (by rfl) | exact rv_cell1 (by rfl) (by repeat constructor) (by rfl) (by rfl))); exact zml; exact zkp; exact ⟨rfl, rfl, rfl⟩)
/-- whether, and where, an event may be written: the place, whether it is a new series', and why not -/
def whr (u : Sta) (l : List Lab) (e : Ev) : Int × Bool × Int :=
  if ¬ okU u then (0, false, 2) else if ¬ Lb.right l then (0, false, 8) else if ¬ e.ok then (0, false, 2)
  else if e.T < mk u ∨ toB u ≤ e.T then (0, false, 9)
  else match fstO u.pl.l.length (fnd u l) with
    | some i => if e.T ≤ u.pl.l[i]!.last then (0, false, 9) else ((i : Int), false, 0)
    | none => if e.S then (0, false, 3) else match fstO u.pl.l.length (roo u) with
      | some i => ((i : Int), true, 0)
      | none => (0, false, 7)
abbrev whv (w : Int × Bool × Int) : Value := .tuple #[.int .i64 w.1, .bool w.2.1, .int .i64 w.2.2]
theorem where_ {m : Mem} (u : Sta) (l : Lst Lab) (e : Ev) (hs : u.Ok m) (hl : l.l.length ≤ 1000000000) (hm : Lb.Mid l.l) (sl1 : Sl m Lb.cells 2 l.p l.c l.l) :
    Rd Tryz.prog 105 #[u.v, l.v, e.v] m [] (whv (whr u l.l e)) := by
  unfold Rd
  have sl0 := hs.sl
  have np := hs.np
  have k0 := fun (m' : Mem) (h : m.le m') => check u (hs.mono h)
  have k1 := fun (m' : Mem) (h : m.le m') => Lb.check l.p l.c l.l hm (sl1.mono h)
  have k2 := Ev.check e
  have k3 := fun (m' : Mem) (h : m.le m') => open_ u (hs.mono h)
  have k4 := fun (m' : Mem) (h : m.le m') => find u l (hs.mono h) hl (sl1.mono h)
  have k5 := fun (m' : Mem) (h : m.le m') => room u (hs.mono h)
  unfold chk at k0
  unfold Lb.chk at k1
  unfold Ev.chk at k2
  unfold opA opB at k3
  unfold sel at k4 k5
  unfold whr
  clear hs hm
  by_cases h0 : okU u
  rotate_left
  · rw [if_neg h0] at k0
    rw [if_pos h0]
    refine Ct.enterV (by rfl) Tryz.func105 rfl Tryz.ntmps105 rfl (fun w0 Rest => ?_)
    (repeat' (first | refine zss ?_ | refine zs0 ?_ | ((with_reducible first | apply AtM1.cr | apply AtQ.cr | apply At.cr); exact rfl; exact rfl; exact fun _ hmm => k0 _ hmm; exact ztk; kernel_rfl) | ((with_reducible apply At.box (d := 3)); exact rfl; exact rfl; exact rfl; intro b3) | ((with_reducible apply At.box (d := 5)); exact rfl; exact rfl; exact rfl; intro b5) | (refine zsp ?_ ?_ <;> (intro hc; (try simp only [zhcs, reduceCtorEq] at hc); (try (exfalso; first | (first | omega | exact absurd rfl hc | exact absurd hc (by decide)) | contradiction | omega | exact absurd rfl hc | exact absurd (by decide) hc))))))
    all_goals ((with_reducible apply At.retV (B := [])); exact rfl; (repeat' (first | exact RVs.nil | (with_reducible apply RVs.cons) | exact rv_tmp (by rfl) | exact rv_cellN (by rfl) (by repeat constructor) (by rfl) (by rfl) (by rfl) | exact rv_cell1 (by rfl) (by repeat constructor) (by rfl) (by rfl))); exact zml; exact zkp; exact ⟨rfl, rfl, rfl⟩)
  rw [if_pos h0] at k0
  rw [if_pos h0, if_pos h0] at k3
  rw [if_pos h0.1] at k4 k5
  rw [if_neg (not_not_intro h0)]
  by_cases h1 : Lb.right l.l
  rotate_left
  · rw [if_neg h1] at k1
    rw [if_pos h1]
    clear h0
    refine Ct.enterV (by rfl) Tryz.func105 rfl Tryz.ntmps105 rfl (fun w0 Rest => ?_)
    (repeat' (first | refine zss ?_ | refine zs0 ?_ | ((with_reducible first | apply AtM1.cr | apply AtQ.cr | apply At.cr); exact rfl; exact rfl; exact fun _ hmm => k0 _ hmm; exact ztk; kernel_rfl) | ((with_reducible first | apply AtM1.cr | apply AtQ.cr | apply At.cr); exact rfl; exact rfl; exact fun _ hmm => k1 _ hmm; exact ztk; kernel_rfl) | ((with_reducible apply At.box (d := 3)); exact rfl; exact rfl; exact rfl; intro b3) | ((with_reducible apply At.box (d := 5)); exact rfl; exact rfl; exact rfl; intro b5) | (refine zsp ?_ ?_ <;> (intro hc; (try simp only [zhcs, reduceCtorEq] at hc); (try (exfalso; first | (first | omega | exact absurd rfl hc | exact absurd hc (by decide)) | contradiction | omega | exact absurd rfl hc | exact absurd (by decide) hc))))))
    all_goals ((with_reducible apply At.retV (B := [])); exact rfl; (repeat' (first | exact RVs.nil | (with_reducible apply RVs.cons) | exact rv_tmp (by rfl) | exact rv_cellN (by rfl) (by repeat constructor) (by rfl) (by rfl) (by rfl) | exact rv_cell1 (by rfl) (by repeat constructor) (by rfl) (by rfl))); exact zml; exact zkp; exact ⟨rfl, rfl, rfl⟩)
  rw [if_pos h1] at k1
  rw [if_neg (not_not_intro h1)]
  by_cases h2 : e.ok
  rotate_left
  · rw [if_neg h2] at k2
    rw [if_pos h2]
    clear h0 h1
    refine Ct.enterV (by rfl) Tryz.func105 rfl Tryz.ntmps105 rfl (fun w0 Rest => ?_)
    (repeat' (first | refine zss ?_ | refine zs0 ?_ | ((with_reducible first | apply AtM1.cr | apply AtQ.cr | apply At.cr); exact rfl; exact rfl; exact fun _ hmm => k0 _ hmm; exact ztk; kernel_rfl) | ((with_reducible first | apply AtM1.cr | apply AtQ.cr | apply At.cr); exact rfl; exact rfl; exact fun _ hmm => k1 _ hmm; exact ztk; kernel_rfl) | ((with_reducible first | apply AtM1.callp | apply AtQ.callp | apply At.callp); kernel_rfl; exact rfl; exact rfl; exact k2) | ((with_reducible apply At.box (d := 3)); exact rfl; exact rfl; exact rfl; intro b3) | ((with_reducible apply At.box (d := 5)); exact rfl; exact rfl; exact rfl; intro b5) | (refine zsp ?_ ?_ <;> (intro hc; (try simp only [zhcs, reduceCtorEq] at hc); (try (exfalso; first | (first | omega | exact absurd rfl hc | exact absurd hc (by decide)) | contradiction | omega | exact absurd rfl hc | exact absurd (by decide) hc))))))
    all_goals ((with_reducible apply At.retV (B := [])); exact rfl; (repeat' (first | exact RVs.nil | (with_reducible apply RVs.cons) | exact rv_tmp (by rfl) | exact rv_cellN (by rfl) (by repeat constructor) (by rfl) (by rfl) (by rfl) | exact rv_cell1 (by rfl) (by repeat constructor) (by rfl) (by rfl))); exact zml; exact zkp; exact ⟨rfl, rfl, rfl⟩)
  rw [if_pos h2] at k2
  rw [if_neg (not_not_intro h2)]
  clear h0 h1 h2
  generalize toB u = tb at k3 ⊢
  generalize mk u = ta at k3 ⊢
  by_cases h3 : e.T < ta ∨ tb ≤ e.T
  · rw [if_pos h3]
    generalize (match fstO u.pl.l.length (fnd u l.l) with | some k => ((k : Int), (0 : Int)) | none => (0, 3)) = fv at k4
    clear k5
    refine Ct.enterV (by rfl) Tryz.func105 rfl Tryz.ntmps105 rfl (fun w0 Rest => ?_)
    (repeat' (first | refine zss ?_ | refine zs0 ?_ | ((with_reducible first | apply AtM1.cr | apply AtQ.cr | apply At.cr); exact rfl; exact rfl; exact fun _ hmm => k0 _ hmm; exact ztk; kernel_rfl) | ((with_reducible first | apply AtM1.cr | apply AtQ.cr | apply At.cr); exact rfl; exact rfl; exact fun _ hmm => k1 _ hmm; exact ztk; kernel_rfl) | ((with_reducible first | apply AtM1.callp | apply AtQ.callp | apply At.callp); kernel_rfl; exact rfl; exact rfl; exact k2) | ((with_reducible first | apply AtM1.cr | apply AtQ.cr | apply At.cr); exact rfl; exact rfl; exact fun _ hmm => k3 _ hmm; exact ztk; kernel_rfl) | ((with_reducible first | apply AtM1.cr | apply AtQ.cr | apply At.cr); exact rfl; exact rfl; exact fun _ hmm => k4 _ hmm; exact ztk; kernel_rfl) | ((with_reducible apply At.box (d := 3)); exact rfl; exact rfl; exact rfl; intro b3) | ((with_reducible apply At.box (d := 5)); exact rfl; exact rfl; exact rfl; intro b5) | (refine zsp ?_ ?_ <;> (intro hc; (try simp only [zhcs, reduceCtorEq] at hc); (try (exfalso; first | (first | omega | exact absurd rfl hc | exact absurd hc (by decide)) | contradiction | omega | exact absurd rfl hc | exact absurd (by decide) hc))))))
    all_goals ((with_reducible apply At.retV (B := [])); exact rfl; (repeat' (first | exact RVs.nil | (with_reducible apply RVs.cons) | exact rv_tmp (by rfl) | exact rv_cellN (by rfl) (by repeat constructor) (by rfl) (by rfl) (by rfl) | exact rv_cell1 (by rfl) (by repeat constructor) (by rfl) (by rfl))); exact zml; exact zkp; exact ⟨rfl, rfl, rfl⟩)
  rw [if_neg h3]
  cases hf : fstO u.pl.l.length (fnd u l.l) with
  | some i =>
    obtain ⟨hi, -, -⟩ := fstO_spec hf
    rw [hf] at k4
    dsimp only at k4 ⊢
    clear hf k5
    by_cases h4 : e.T ≤ u.pl.l[i]!.last
    · rw [if_pos h4]
      refine Ct.enterV (by rfl) Tryz.func105 rfl Tryz.ntmps105 rfl (fun w0 Rest => ?_)
      (repeat' (first | refine zss ?_ | refine zsM ?_ | ((with_reducible first | apply AtM1.cr | apply AtQ.cr | apply At.cr); exact rfl; exact rfl; exact fun _ hmm => k0 _ hmm; exact ztk; kernel_rfl) | ((with_reducible first | apply AtM1.cr | apply AtQ.cr | apply At.cr); exact rfl; exact rfl; exact fun _ hmm => k1 _ hmm; exact ztk; kernel_rfl) | ((with_reducible first | apply AtM1.callp | apply AtQ.callp | apply At.callp); kernel_rfl; exact rfl; exact rfl; exact k2) | ((with_reducible first | apply AtM1.cr | apply AtQ.cr | apply At.cr); exact rfl; exact rfl; exact fun _ hmm => k3 _ hmm; exact ztk; kernel_rfl) | ((with_reducible first | apply AtM1.cr | apply AtQ.cr | apply At.cr); exact rfl; exact rfl; exact fun _ hmm => k4 _ hmm; exact ztk; kernel_rfl) | ((with_reducible apply At.box (d := 3)); exact rfl; exact rfl; exact rfl; intro b3) | ((with_reducible apply At.box (d := 5)); exact rfl; exact rfl; exact rfl; intro b5) | (refine zsp ?_ ?_ <;> (intro hc; (try simp only [zhcs, reduceCtorEq] at hc); (try (exfalso; first | (first | omega | exact absurd rfl hc | exact absurd hc (by decide)) | contradiction | omega | exact absurd rfl hc | exact absurd (by decide) hc))))))
      all_goals ((with_reducible apply At.retV (B := [])); exact rfl; (repeat' (first | exact RVs.nil | (with_reducible apply RVs.cons) | exact rv_tmp (by rfl) | exact rv_cellN (by rfl) (by repeat constructor) (by rfl) (by rfl) (by rfl) | exact rv_cell1 (by rfl) (by repeat constructor) (by rfl) (by rfl))); exact zml; exact zkp; exact ⟨rfl, rfl, rfl⟩)
    · rw [if_neg h4]
      refine Ct.enterV (by rfl) Tryz.func105 rfl Tryz.ntmps105 rfl (fun w0 Rest => ?_)
      (repeat' (first | refine zss ?_ | refine zsM ?_ | ((with_reducible first | apply AtM1.cr | apply AtQ.cr | apply At.cr); exact rfl; exact rfl; exact fun _ hmm => k0 _ hmm; exact ztk; kernel_rfl) | ((with_reducible first | apply AtM1.cr | apply AtQ.cr | apply At.cr); exact rfl; exact rfl; exact fun _ hmm => k1 _ hmm; exact ztk; kernel_rfl) | ((with_reducible first | apply AtM1.callp | apply AtQ.callp | apply At.callp); kernel_rfl; exact rfl; exact rfl; exact k2) | ((with_reducible first | apply AtM1.cr | apply AtQ.cr | apply At.cr); exact rfl; exact rfl; exact fun _ hmm => k3 _ hmm; exact ztk; kernel_rfl) | ((with_reducible first | apply AtM1.cr | apply AtQ.cr | apply At.cr); exact rfl; exact rfl; exact fun _ hmm => k4 _ hmm; exact ztk; kernel_rfl) | ((with_reducible apply At.box (d := 3)); exact rfl; exact rfl; exact rfl; intro b3) | ((with_reducible apply At.box (d := 5)); exact rfl; exact rfl; exact rfl; intro b5) | (refine zsp ?_ ?_ <;> (intro hc; (try simp only [zhcs, reduceCtorEq] at hc); (try (exfalso; first | (first | omega | exact absurd rfl hc | exact absurd hc (by decide)) | contradiction | omega | exact absurd rfl hc | exact absurd (by decide) hc))))))
      all_goals ((with_reducible apply At.retV (B := [])); exact rfl; (repeat' (first | exact RVs.nil | (with_reducible apply RVs.cons) | exact rv_tmp (by rfl) | exact rv_cellN (by rfl) (by repeat constructor) (by rfl) (by rfl) (by rfl) | exact rv_cell1 (by rfl) (by repeat constructor) (by rfl) (by rfl))); exact zml; exact zkp; exact ⟨rfl, rfl, rfl⟩)
  | none =>
    rw [hf] at k4
    dsimp only at k4 ⊢
    clear hf
    cases hst : e.S
    rotate_left
    · rw [if_pos rfl]
      clear k5
      refine Ct.enterV (by rfl) Tryz.func105 rfl Tryz.ntmps105 rfl (fun w0 Rest => ?_)
      (repeat' (first | refine zss ?_ | refine zsM ?_ | ((with_reducible first | apply AtM1.cr | apply AtQ.cr | apply At.cr); exact rfl; exact rfl; exact fun _ hmm => k0 _ hmm; exact ztk; kernel_rfl) | ((with_reducible first | apply AtM1.cr | apply AtQ.cr | apply At.cr); exact rfl; exact rfl; exact fun _ hmm => k1 _ hmm; exact ztk; kernel_rfl) | ((with_reducible first | apply AtM1.callp | apply AtQ.callp | apply At.callp); kernel_rfl; exact rfl; exact rfl; exact k2) | ((with_reducible first | apply AtM1.cr | apply AtQ.cr | apply At.cr); exact rfl; exact rfl; exact fun _ hmm => k3 _ hmm; exact ztk; kernel_rfl) | ((with_reducible first | apply AtM1.cr | apply AtQ.cr | apply At.cr); exact rfl; exact rfl; exact fun _ hmm => k4 _ hmm; exact ztk; kernel_rfl) | ((with_reducible apply At.box (d := 3)); exact rfl; exact rfl; exact rfl; intro b3) | ((with_reducible apply At.box (d := 5)); exact rfl; exact rfl; exact rfl; intro b5) | (refine zsp ?_ ?_ <;> (intro hc; (try simp only [zhcs, reduceCtorEq] at hc); (try (exfalso; first | (first | omega | exact absurd rfl hc | exact absurd hc (by decide) | exact absurd hst hc | (rw [hst] at hc; exact absurd hc (by decide))) | contradiction | omega | exact absurd rfl hc | exact absurd (by decide) hc))))))
      all_goals ((with_reducible apply At.retV (B := [])); exact rfl; (repeat' (first | exact RVs.nil | (with_reducible apply RVs.cons) | exact rv_tmp (by rfl) | exact rv_cellN (by rfl) (by repeat constructor) (by rfl) (by rfl) (by rfl) | exact rv_cell1 (by rfl) (by repeat constructor) (by rfl) (by rfl))); exact zml; exact zkp; exact ⟨rfl, rfl, rfl⟩)
    rw [if_neg (by decide)]
    cases hr : fstO u.pl.l.length (roo u) with
    | some i =>
      rw [hr] at k5
      dsimp only at k5 ⊢
      clear hr
      refine Ct.enterV (by rfl) Tryz.func105 rfl Tryz.ntmps105 rfl (fun w0 Rest => ?_)
      (repeat' (first | refine zss ?_ | refine zsM ?_ | ((with_reducible first | apply AtM1.cr | apply AtQ.cr | apply At.cr); exact rfl; exact rfl; exact fun _ hmm => k0 _ hmm; exact ztk; kernel_rfl) | ((with_reducible first | apply AtM1.cr | apply AtQ.cr | apply At.cr); exact rfl; exact rfl; exact fun _ hmm => k1 _ hmm; exact ztk; kernel_rfl) | ((with_reducible first | apply AtM1.callp | apply AtQ.callp | apply At.callp); kernel_rfl; exact rfl; exact rfl; exact k2) | ((with_reducible first | apply AtM1.cr | apply AtQ.cr | apply At.cr); exact rfl; exact rfl; exact fun _ hmm => k3 _ hmm; exact ztk; kernel_rfl) | ((with_reducible first | apply AtM1.cr | apply AtQ.cr | apply At.cr); exact rfl; exact rfl; exact fun _ hmm => k4 _ hmm; exact ztk; kernel_rfl) | ((with_reducible first | apply AtM1.cr | apply AtQ.cr | apply At.cr); exact rfl; exact rfl; exact fun _ hmm => k5 _ hmm; exact ztk; kernel_rfl) | ((with_reducible apply At.box (d := 3)); exact rfl; exact rfl; exact rfl; intro b3) | ((with_reducible apply At.box (d := 5)); exact rfl; exact rfl; exact rfl; intro b5) | (refine zsp ?_ ?_ <;> (intro hc; (try simp only [zhcs, reduceCtorEq] at hc); (try (exfalso; first | (first | omega | exact absurd rfl hc | exact absurd hc (by decide) | (rw [hst] at hc; exact absurd hc (by decide))) | contradiction | omega | exact absurd rfl hc | exact absurd (by decide) hc))))))
      all_goals ((with_reducible apply At.retV (B := [])); exact rfl; (repeat' (first | exact RVs.nil | (with_reducible apply RVs.cons) | exact rv_tmp (by rfl) | exact rv_cellN (by rfl) (by repeat constructor) (by rfl) (by rfl) (by rfl) | exact rv_cell1 (by rfl) (by repeat constructor) (by rfl) (by rfl))); exact zml; exact zkp; exact ⟨rfl, rfl, rfl⟩)
    | none =>
      rw [hr] at k5
      dsimp only at k5 ⊢
      clear hr
      refine Ct.enterV (by rfl) Tryz.func105 rfl Tryz.ntmps105 rfl (fun w0 Rest => ?_)
      (repeat' (first | refine zss ?_ | refine zsM ?_ | ((with_reducible first | apply AtM1.cr | apply AtQ.cr | apply At.cr); exact rfl; exact rfl; exact fun _ hmm => k0 _ hmm; exact ztk; kernel_rfl) | ((with_reducible first | apply AtM1.cr | apply AtQ.cr | apply At.cr); exact rfl; exact rfl; exact fun _ hmm => k1 _ hmm; exact ztk; kernel_rfl) | ((with_reducible first | apply AtM1.callp | apply AtQ.callp | apply At.callp); kernel_rfl; exact rfl; exact rfl; exact k2) | ((with_reducible first | apply AtM1.cr | apply AtQ.cr | apply At.cr); exact rfl; exact rfl; exact fun _ hmm => k3 _ hmm; exact ztk; kernel_rfl) | ((with_reducible first | apply AtM1.cr | apply AtQ.cr | apply At.cr); exact rfl; exact rfl; exact fun _ hmm => k4 _ hmm; exact ztk; kernel_rfl) | ((with_reducible first | apply AtM1.cr | apply AtQ.cr | apply At.cr); exact rfl; exact rfl; exact fun _ hmm => k5 _ hmm; exact ztk; kernel_rfl) | ((with_reducible apply At.box (d := 3)); exact rfl; exact rfl; exact rfl; intro b3) | ((with_reducible apply At.box (d := 5)); exact rfl; exact rfl; exact rfl; intro b5) | (refine zsp ?_ ?_ <;> (intro hc; (try simp only [zhcs, reduceCtorEq] at hc); (try (exfalso; first | (first | omega | exact absurd rfl hc | exact absurd hc (by decide) | (rw [hst] at hc; exact absurd hc (by decide))) | contradiction | omega | exact absurd rfl hc | exact absurd (by decide) hc))))))
      all_goals ((with_reducible apply At.retV (B := [])); exact rfl; (repeat' (first | exact RVs.nil | (with_reducible apply RVs.cons) | exact rv_tmp (by rfl) | exact rv_cellN (by rfl) (by repeat constructor) (by rfl) (by rfl) (by rfl) | exact rv_cell1 (by rfl) (by repeat constructor) (by rfl) (by rfl))); exact zml; exact zkp; exact ⟨rfl, rfl, rfl⟩)
end Ru
end Go.Proofs.YtkoijdmlehkhbaaGreatDoor
namespace Go.Proofs.YtkoijdmlehkhbaaGreatDoor
namespace So
section
variable {α : Type} [Inhabited α]
theorem set_get (l : List α) (i k : Nat) (x : α) (hi : i < l.length) : (l.set i x)[k]! = if i = k then x else l[k]! := by
  rw [List.getElem!_eq_getElem?_getD, List.getElem!_eq_getElem?_getD, List.getElem?_set]
  by_cases h : i = k
  · rw [if_pos h, if_pos h, if_pos (h ▸ hi)]; rfl
  · rw [if_neg h, if_neg h]
def swp (l : List α) (i j : Nat) : List α := (l.set i l[j]!).set j l[i]!
theorem swp_len (l : List α) (i j : Nat) : (swp l i j).length = l.length := by unfold swp; rw [List.length_set, List.length_set]
theorem swp_get {l : List α} {i j : Nat} (hi : i < l.length) (hj : j < l.length) (k : Nat) : (swp l i j)[k]! = if k = j then l[i]! else if k = i then l[j]! else l[k]! := by
  unfold swp
  rw [set_get _ _ _ _ (by rw [List.length_set]; exact hj), set_get _ _ _ _ hi]
  by_cases h1 : j = k
  · rw [if_pos h1, if_pos h1.symm]
  · rw [if_neg h1, if_neg (show ¬ k = j from fun e => h1 e.symm)]
    by_cases h2 : i = k
    · rw [if_pos h2, if_pos h2.symm]
    · rw [if_neg h2, if_neg (show ¬ k = i from fun e => h2 e.symm)]
theorem swp_perm {l : List α} {i j : Nat} (hi : i < l.length) (hj : j < l.length) : (swp l i j).Perm l := by
  unfold swp
  rw [getElem!_pos l i hi, getElem!_pos l j hj]
  exact List.set_set_perm hi hj
/-- two ranges swapped -/
def sw {β : Type} (a b n : Nat) (f : Nat → β) (k : Nat) : β := if a ≤ k ∧ k < a + n then f (k - a + b) else if b ≤ k ∧ k < b + n then f (k - b + a) else f k
theorem sw_zero {β : Type} (a b : Nat) (f : Nat → β) (k : Nat) : sw a b 0 f k = f k := by
  unfold sw
  repeat' split
  all_goals first | omega | (congr 1 <;> omega)
theorem sw_step {β : Type} {a b i : Nat} (f : Nat → β) (h : a + i < b) (k : Nat) : sw a b (i + 1) f k = if k = b + i then sw a b i f (a + i) else if k = a + i then sw a b i f (b + i) else sw a b i f k := by
  unfold sw
  repeat' split
  all_goals first | omega | (congr 1 <;> omega)
/-- two ranges side by side, turned round -/
def rot {β : Type} (a m b : Nat) (f : Nat → β) (k : Nat) : β := if a ≤ k ∧ k < b then (if k < a + (b - m) then f (k - a + m) else f (k - (b - m))) else f k
theorem rot_same {β : Type} {a m b : Nat} (f : Nat → β) (h1 : a ≤ m) (h2 : m ≤ b) (h : a = m ∨ m = b) (k : Nat) : rot a m b f k = f k := by
  unfold rot
  repeat' split
  all_goals first | omega | (congr 1 <;> omega)
theorem rot_end {β : Type} {m i : Nat} (f : Nat → β) (h : i ≤ m) (k : Nat) : rot (m - i) m (m + i) f k = sw (m - i) m i f k := by
  unfold rot sw
  repeat' split
  all_goals first | omega | (congr 1 <;> omega)
theorem rot_left {β : Type} {m i j : Nat} (f : Nat → β) (h : i ≤ m) (hj : j < i) (k : Nat) : rot (m - (i - j)) m (m + j) (sw (m - i) m j f) k = rot (m - i) m (m + j) f k := by
  unfold rot sw
  repeat' split
  all_goals first | omega | (congr 1 <;> omega)
theorem rot_right {β : Type} {m i j : Nat} (f : Nat → β) (h : i ≤ m) (hj : i < j) (k : Nat) : rot (m - i) m (m + (j - i)) (sw (m - i) (m + j - i) i f) k = rot (m - i) m (m + j) f k := by
  unfold rot sw
  repeat' split
  all_goals first | omega | (congr 1 <;> omega)
/-- only what lies in a range is moved, and within it -/
structure Mv (a b : Nat) (l L : List α) : Prop where
  len : L.length = l.length
  perm : L.Perm l
  out : ∀ k, k < a ∨ b ≤ k → L[k]! = l[k]!
  ins : ∀ k, a ≤ k → k < b → ∃ j, a ≤ j ∧ j < b ∧ L[k]! = l[j]!
theorem Mv.refl (a b : Nat) (l : List α) : Mv a b l l := ⟨rfl, List.Perm.refl _, fun _ _ => rfl, fun k h1 h2 => ⟨k, h1, h2, rfl⟩⟩
theorem Mv.trans {a b : Nat} {l L M : List α} (h : Mv a b l L) (g : Mv a b L M) : Mv a b l M :=
  ⟨g.len.trans h.len, g.perm.trans h.perm, fun k hk => (g.out k hk).trans (h.out k hk), fun k h1 h2 => by
    obtain ⟨j, j1, j2, e⟩ := g.ins k h1 h2
    obtain ⟨i, i1, i2, e2⟩ := h.ins j j1 j2
    exact ⟨i, i1, i2, e.trans e2⟩⟩
theorem Mv.wide {a b a' b' : Nat} {l L : List α} (h : Mv a b l L) (h1 : a' ≤ a) (h2 : b ≤ b') : Mv a' b' l L :=
  ⟨h.len, h.perm, fun k hk => h.out k (by omega), fun k k1 k2 => by
    by_cases hk : a ≤ k ∧ k < b
    · obtain ⟨j, j1, j2, e⟩ := h.ins k hk.1 hk.2
      exact ⟨j, by omega, by omega, e⟩
    · exact ⟨k, k1, k2, h.out k (by omega)⟩⟩
theorem Mv.swp {l : List α} {i j a b : Nat} (hi : a ≤ i ∧ i < b) (hj : a ≤ j ∧ j < b) (hb : b ≤ l.length) : Mv a b l (swp l i j) :=
  ⟨swp_len l i j, swp_perm (by omega) (by omega), fun k hk => by rw [swp_get (by omega) (by omega), if_neg (by omega), if_neg (by omega)], fun k k1 k2 => by
    rw [swp_get (by omega) (by omega)]
    by_cases h1 : k = j
    · rw [if_pos h1]; exact ⟨i, hi.1, hi.2, rfl⟩
    · rw [if_neg h1]
      by_cases h2 : k = i
      · rw [if_pos h2]; exact ⟨j, hj.1, hj.2, rfl⟩
      · rw [if_neg h2]; exact ⟨k, k1, k2, rfl⟩⟩
theorem Mv.rot {l L : List α} {a m b : Nat} (h1 : a ≤ m) (h2 : m ≤ b) (hl : L.length = l.length) (hp : L.Perm l) (h : ∀ k, L[k]! = rot a m b (fun k => l[k]!) k) : Mv a b l L :=
  ⟨hl, hp, fun k hk => by rw [h]; unfold So.rot; rw [if_neg (by omega)], fun k k1 k2 => by
    rw [h]
    unfold So.rot
    rw [if_pos ⟨k1, k2⟩]
    by_cases h3 : k < a + (b - m)
    · rw [if_pos h3]; exact ⟨k - a + m, by omega, by omega, rfl⟩
    · rw [if_neg h3]; exact ⟨k - (b - m), by omega, by omega, rfl⟩⟩
variable (κ : α → Int)
/-- sorted from a to b -/
def Srt (a b : Nat) (l : List α) : Prop := ∀ i j, a ≤ i → i < j → j < b → κ l[i]! ≤ κ l[j]!
theorem Srt.le {κ : α → Int} {a b : Nat} {l : List α} (h : Srt κ a b l) {i j : Nat} (h1 : a ≤ i) (h2 : i ≤ j) (h3 : j < b) : κ l[i]! ≤ κ l[j]! := by
  rcases Nat.eq_or_lt_of_le h2 with rfl | h2
  · exact Int.le_refl _
  · exact h i j h1 h2 h3
/-- what putting two sorted rows together comes to -/
def Mg (a k b : Nat) (l L : List α) : Prop := Mv a b l L ∧ (Srt κ a k l → Srt κ k b l → Srt κ a b L)
theorem Mg.none {a k b : Nat} (l : List α) (h : k ≤ a ∨ b ≤ k) : Mg κ a k b l l :=
  ⟨Mv.refl a b l, fun h1 h2 i j g1 g2 g3 => by
    rcases h with h | h
    · exact h2 i j (by omega) g2 g3
    · exact h1 i j g1 g2 (by omega)⟩
/-- one moved up through what is less -/
def shl {β : Type} (a k : Nat) (f : Nat → β) (q : Nat) : β := if a ≤ q ∧ q < k then f (q + 1) else if q = k then f a else f q
theorem shl_zero {β : Type} (a : Nat) (f : Nat → β) (q : Nat) : shl a a f q = f q := by
  unfold shl
  repeat' split
  all_goals first | omega | (congr 1 <;> omega)
theorem shl_step {β : Type} {a k : Nat} (f : Nat → β) (h : a ≤ k) (q : Nat) : shl a (k + 1) f q = if q = k + 1 then shl a k f k else if q = k then shl a k f (k + 1) else shl a k f q := by
  unfold shl
  repeat' split
  all_goals first | omega | (congr 1 <;> omega)
theorem shl_srt {κ : α → Int} {a i b : Nat} {l L : List α} (hi : a < i) (hib : i ≤ b) (h : ∀ q, L[q]! = shl a (i - 1) (fun q => l[q]!) q) (hs : Srt κ (a + 1) b l) (h1 : a + 1 < i → κ l[i - 1]! < κ l[a]!) (h2 : i < b → κ l[a]! ≤ κ l[i]!) : Srt κ a b L := by
  intro x y g1 g2 g3
  rw [h, h]
  unfold shl
  dsimp only
  by_cases c1 : a ≤ x ∧ x < i - 1
  · rw [if_pos c1]
    by_cases c2 : a ≤ y ∧ y < i - 1
    · rw [if_pos c2]; exact hs.le (by omega) (by omega) (by omega)
    · rw [if_neg c2]
      by_cases c3 : y = i - 1
      · rw [if_pos c3]
        have := hs.le (i := x + 1) (j := i - 1) (by omega) (by omega) (by omega)
        have := h1 (by omega)
        omega
      · rw [if_neg c3]; exact hs.le (by omega) (by omega) (by omega)
  · rw [if_neg c1]
    by_cases c3 : x = i - 1
    · rw [if_pos c3, if_neg (by omega), if_neg (by omega)]
      have := h2 (by omega)
      have := hs.le (i := i) (j := y) (by omega) (by omega) (by omega)
      omega
    · rw [if_neg c3, if_neg (by omega), if_neg (by omega)]
      exact hs.le (by omega) (by omega) (by omega)
/-- one moved down through what is greater -/
def shr {β : Type} (k m : Nat) (f : Nat → β) (q : Nat) : β := if q = k then f m else if k < q ∧ q ≤ m then f (q - 1) else f q
theorem shr_zero {β : Type} (m : Nat) (f : Nat → β) (q : Nat) : shr m m f q = f q := by
  unfold shr
  repeat' split
  all_goals first | omega | (congr 1 <;> omega)
theorem shr_step {β : Type} {k m : Nat} (f : Nat → β) (h : k + 1 ≤ m) (q : Nat) : shr k m f q = if q = k then shr (k + 1) m f (k + 1) else if q = k + 1 then shr (k + 1) m f k else shr (k + 1) m f q := by
  unfold shr
  repeat' split
  all_goals first | omega | (congr 1 <;> omega)
theorem shr_srt {κ : α → Int} {a i m : Nat} {l L : List α} (hi : a ≤ i) (hib : i ≤ m) (h : ∀ q, L[q]! = shr i m (fun q => l[q]!) q) (hs : Srt κ a m l) (h1 : a < i → κ l[i - 1]! ≤ κ l[m]!) (h2 : i < m → κ l[m]! < κ l[i]!) : Srt κ a (m + 1) L := by
  intro x y g1 g2 g3
  rw [h, h]
  unfold shr
  dsimp only
  by_cases c1 : x = i
  · rw [if_pos c1, if_neg (by omega), if_pos (by omega)]
    have := h2 (by omega)
    have := hs.le (i := i) (j := y - 1) (by omega) (by omega) (by omega)
    omega
  · rw [if_neg c1]
    by_cases c2 : i < x ∧ x ≤ m
    · rw [if_pos c2, if_neg (by omega), if_pos (by omega)]
      exact hs.le (by omega) (by omega) (by omega)
    · rw [if_neg c2]
      by_cases c3 : y = i
      · rw [if_pos c3]
        have := h1 (by omega)
        have := hs.le (i := x) (j := i - 1) (by omega) (by omega) (by omega)
        omega
      · rw [if_neg c3]
        by_cases c4 : i < y ∧ y ≤ m
        · rw [if_pos c4]; exact hs.le (by omega) (by omega) (by omega)
        · rw [if_neg c4]; exact hs.le (by omega) (by omega) (by omega)
/-- turned round at a place that parts both rows, and both halves put together -/
theorem sym_fin {κ : α → Int} {a k b x s e : Nat} {l l1 l2 l3 : List α} (ha : a < x) (hxb : x < b) (g1 : a ≤ s) (g2 : s ≤ k) (g3 : k ≤ e) (g4 : e ≤ b) (he : s + e = x + k) (gs : s ≤ x)
    (h1 : a < s → e < b → κ l[s - 1]! ≤ κ l[e]!) (h2 : k < e → s < k → κ l[e - 1]! ≤ κ l[s]!)
    (m1 : Mv s e l l1) (r1 : ∀ q, l1[q]! = rot s k e (fun q => l[q]!) q) (m2 : Mg κ a s x l1 l2) (m3 : Mg κ x e b l2 l3) : Mg κ a k b l l3 := by
  refine ⟨((m1.wide g1 g4).trans (m2.1.wide (Nat.le_refl _) (Nat.le_of_lt hxb))).trans (m3.1.wide (Nat.le_of_lt ha) (Nat.le_refl _)), fun sa sb => ?_⟩
  have lo : ∀ q, q < s → l1[q]! = l[q]! := fun q hq => m1.out q (.inl hq)
  have hi : ∀ q, e ≤ q → l1[q]! = l[q]! := fun q hq => m1.out q (.inr hq)
  have ml : ∀ q, s ≤ q → q < x → l1[q]! = l[q - s + k]! := fun q q1 q2 => by rw [r1]; unfold rot; rw [if_pos (by omega), if_pos (by omega)]
  have mh : ∀ q, x ≤ q → q < e → l1[q]! = l[q - (e - k)]! := fun q q1 q2 => by rw [r1]; unfold rot; rw [if_pos (by omega), if_neg (by omega)]
  have s2 : Srt κ a x l2 := m2.2 (fun i j i1 i2 i3 => by rw [lo i (by omega), lo j i3]; exact sa i j i1 i2 (by omega)) (fun i j i1 i2 i3 => by rw [ml i i1 (by omega), ml j (by omega) i3]; exact sb _ _ (by omega) (by omega) (by omega))
  have o2 : ∀ q, x ≤ q → l2[q]! = l1[q]! := fun q hq => m2.1.out q (.inr hq)
  have s3 : Srt κ x b l3 := m3.2 (fun i j i1 i2 i3 => by rw [o2 i i1, o2 j (by omega), mh i i1 (by omega), mh j (by omega) i3]; exact sa _ _ (by omega) (by omega) (by omega)) (fun i j i1 i2 i3 => by rw [o2 i (by omega), o2 j (by omega), hi i i1, hi j (by omega)]; exact sb _ _ (by omega) i2 i3)
  have cross : ∀ i j, a ≤ i → i < x → x ≤ j → j < b → κ l1[i]! ≤ κ l1[j]! := fun i j i1 i2 j1 j2 => by
    by_cases ci : i < s
    · rw [lo i ci]
      by_cases cj : j < e
      · rw [mh j j1 cj]; exact sa _ _ i1 (by omega) (by omega)
      · rw [hi j (by omega)]
        have p1 := sa.le (i := i) (j := s - 1) i1 (by omega) (by omega)
        have p2 := h1 (by omega) (by omega)
        have p3 := sb.le (i := e) (j := j) (by omega) (by omega) j2
        omega
    · rw [ml i (by omega) i2]
      by_cases cj : j < e
      · rw [mh j j1 cj]
        have p1 := sb.le (i := i - s + k) (j := e - 1) (by omega) (by omega) (by omega)
        have p2 := h2 (by omega) (by omega)
        have p3 := sa.le (i := s) (j := j - (e - k)) (by omega) (by omega) (by omega)
        omega
      · rw [hi j (by omega)]; exact sb.le (by omega) (by omega) j2
  intro i j i1 i2 i3
  by_cases ci : i < x
  · rw [m3.1.out i (.inl ci)]
    by_cases cj : j < x
    · rw [m3.1.out j (.inl cj)]; exact s2 i j i1 i2 cj
    · obtain ⟨u, u1, u2, eu⟩ := m2.1.ins i i1 ci
      obtain ⟨v, v1, v2, ev⟩ := m3.1.ins j (by omega) i3
      rw [eu, ev, o2 v v1]
      exact cross u v u1 u2 v1 v2
  · exact s3 i j (by omega) i2 i3
/-- blocks of so many are sorted -/
def Blk (w : Nat) (l : List α) : Prop := ∀ i j, i < j → j < l.length → i / w = j / w → κ l[i]! ≤ κ l[j]!
/-- blocks of twice as many, up to a place; of so many from there on -/
def Two (a w : Nat) (l : List α) : Prop := (∀ i j, i < j → j < a → i / (2 * w) = j / (2 * w) → κ l[i]! ≤ κ l[j]!) ∧ (∀ i j, a ≤ i → i < j → j < l.length → i / w = j / w → κ l[i]! ≤ κ l[j]!)
end
end So
end Go.Proofs.YtkoijdmlehkhbaaGreatDoor
namespace Go.Proofs.YtkoijdmlehkhbaaGreatDoor
open Go Go.J
attribute [local irreducible] At AtQ AtM AtM1 PR Ct Pu Rd Res.blk Res.own Res.ex RVs RV
namespace Cell
open Ev Wide
def In (c : Cell) : Prop := (-9223372036854775808 ≤ c.n ∧ c.n ≤ 9223372036854775807) ∧ c.F.V < 18446744073709551616 ∧ c.L.V < 18446744073709551616 ∧ c.I < 340282366920938463463374607431768211456
theorem z_in : In z := by unfold In; decide
theorem Full.bd {c : Cell} (h : Full c) : c.n ≤ 35184372088833 ∧ c.I ≤ 649037107316853434412140771606528 ∧ c.R ≤ 35184372088833 ∧ c.G ≤ 35184372088833 ∧ c.X ≤ 35184372088833 := by
  have ⟨p1, p2, _⟩ := h.F
  have ⟨p3, p4, _⟩ := h.L
  have h1 := h.len
  have h2 := h.I
  have h3 := h.RG
  have h4 := h.R
  have h5 := h.G
  have h6 := h.XL
  have h7 := h.n
  exact ⟨by omega, by omega, by omega, by omega, by omega⟩
theorem Full.in {c : Cell} (h : Full c) (h1 : c.F.V < 18446744073709551616) (h2 : c.L.V < 18446744073709551616) : In c := by
  have hb := h.bd
  have hn := h.n
  exact ⟨by omega, h1, h2, by omega⟩
theorem mrg_in {a b : Cell} (ha : In a) (hb : In b) : In (mrg a b).1 := by
  rcases mrg_cases (a := a) (b := b) with ⟨e, _⟩ | ⟨e, h1, h2⟩ | ⟨e, h1, h2⟩ | ⟨e, _⟩ | ⟨e, h1, h2, h3⟩ <;> rw [e]
  · exact z_in
  · exact hb
  · exact ha
  · exact z_in
  · exact (join_full h1 h2 h3 hb.2.1).in ha.2.1 hb.2.2.1
theorem v_mk {c : Cell} {h l : Int} (hh : h = ((c.I / 18446744073709551616 : Nat) : Int)) (hl : l = ((c.I % 18446744073709551616 : Nat) : Int)) :
    Value.agg #[.int .i64 c.n, .int .i64 c.F.T, .int .u64 (c.F.V : Int), .int .i64 c.F.C, .bool c.F.S, .int .i64 c.L.T, .int .u64 (c.L.V : Int), .int .i64 c.L.C, .bool c.L.S, .int .u64 h, .int .u64 l, .int .i64 c.R, .int .i64 c.G, .int .i64 c.X] = c.v := by subst hh hl; rfl
theorem one_v (e : Ev) : Value.agg #[.int .i64 1, .int .i64 e.T, .int .u64 (e.V : Int), .int .i64 e.C, .bool e.S, .int .i64 e.T, .int .u64 (e.V : Int), .int .i64 e.C, .bool e.S, .int .u64 0, .int .u64 0, .int .i64 0, .int .i64 0, .int .i64 0] = (one e).v :=
  v_mk (c := one e) (h := 0) (l := 0) (by dsimp only [one]; omega) (by dsimp only [one]; omega)
theorem one_ (e : Ev) : Pu Tryz.prog 54 #[e.v] (one e).v := Pu.intro fun m => by
  refine Ct.enterV (by rfl) Tryz.func54 rfl Tryz.ntmps54 rfl (fun w0 Rest => ?_)
  (repeat' (first | refine zss ?_ | refine zs0 ?_ | ((with_reducible apply At.box (d := 1)); exact rfl; exact rfl; exact rfl; intro b1) | ((with_reducible apply At.alloc (d := 2)); exact rfl; exact rfl; intro b2) | (refine zsp ?_ ?_ <;> (intro hc; (try simp only [zhcs, reduceCtorEq] at hc); (try (exfalso; first | contradiction | omega | exact absurd rfl hc | exact absurd (by decide) hc))))))
  all_goals ((with_reducible apply At.retV (B := [])); exact rfl; (repeat' (first | exact RVs.nil | (with_reducible apply RVs.cons) | exact rv_tmp (by rfl) | exact rv_cellN (by rfl) (by repeat constructor) (by rfl) (by rfl) (by rfl) | exact rv_cell1 (by rfl) (by repeat constructor) (by rfl) (by rfl))); exact zml; exact zkp; exact ⟨one_v e, rfl, rfl⟩)
set_option maxHeartbeats 1000000 in
theorem join_ (a b : Cell) (ha : Full a) (hb : Full b) (ia : In a) (ib : In b) : Pu Tryz.prog 104 #[a.v, b.v] (.tuple #[(mrg a b).1.v, .int .i64 (mrg a b).2]) := Pu.of_le fun m => by
  have kb := Ev.between a.L b.F ia.2.2.1 ib.2.1
  by_cases h : a.L.T < b.F.T
  · rw [mrg_join ha hb h]
    obtain ⟨w, xR, xG, xRG, xX, xXL, xI⟩ := btw_bd ha.L hb.F h
    have ab := ha.bd
    have bb := hb.bd
    have a1 := ha.n
    have a2 := ha.R
    have a3 := ha.G
    have a4 := ha.X
    have b1 := hb.n
    have b2 := hb.R
    have b3 := hb.G
    have b4 := hb.X
    have ⟨p1, p2, _⟩ := hb.F
    have ⟨p3, p4, _⟩ := ha.L
    have bV := ib.2.1
    have jn : a.n + b.n = (join a b).n := rfl
    have jI : a.I + (btw a.L b.F).1.I + b.I = (join a b).I := rfl
    have jR : (btw a.L b.F).1.R + (a.R + b.R) = (join a b).R := by show _ = a.R + (btw a.L b.F).1.R + b.R; omega
    have jG : (btw a.L b.F).1.G + (a.G + b.G) = (join a b).G := by show _ = a.G + (btw a.L b.F).1.G + b.G; omega
    have jX : (btw a.L b.F).1.X + (a.X + b.X) = (join a b).X := by show _ = a.X + (btw a.L b.F).1.X + b.X; omega
    have jF : a.F = (join a b).F := rfl
    have jL : b.L = (join a b).L := rfl
    rw [w] at kb
    obtain ⟨x, ex⟩ : ∃ x, (btw a.L b.F).1 = x := ⟨_, rfl⟩
    rw [ex] at kb xR xG xRG xX xXL xI jI jR jG jX
    obtain ⟨J, eJ⟩ : ∃ J, join a b = J := ⟨_, rfl⟩
    rw [eJ] at jn jI jR jG jX jF jL ⊢
    have wn : IntKind.wrap .i64 (a.n + b.n) = J.n := by rw [← jn]; exact IntWalk.i64_in _ (by omega)
    have wR : IntKind.wrap .i64 (x.R + (a.R + b.R)) = J.R := by rw [← jR]; exact IntWalk.i64_in _ (by omega)
    have wG : IntKind.wrap .i64 (x.G + (a.G + b.G)) = J.G := by rw [← jG]; exact IntWalk.i64_in _ (by omega)
    have wX : IntKind.wrap .i64 (x.X + (a.X + b.X)) = J.X := by rw [← jX]; exact IntWalk.i64_in _ (by omega)
    have hsum : ∀ (m : Mem) p c, Sl m wd 2 p c [a.I, x.I, b.I] → Ct Tryz.prog 154 #[.slice p 3 c] m [] (fun v m' B => v = .tuple #[wv J.I, .int .i64 0] ∧ m = m' ∧ B = []) := fun m p c sl => by
      have hs := sum_ p c [a.I, x.I, b.I] (by show 3 ≤ _; decide) (by simp only [List.forall_mem_cons]; exact ⟨by omega, by omega, by omega, fun _ h => by cases h⟩) sl
      have e1 : [a.I, x.I, b.I].sum = J.I := by rw [← jI]; simp [Nat.add_assoc]
      obtain ⟨e2, e3⟩ := sV_small (x := J.I) (by rw [← jI]; omega)
      rw [e1, e2, e3] at hs
      exact hs
    refine Ct.enterV (by rfl) Tryz.func104 rfl Tryz.ntmps104 rfl (fun w0 Rest => ?_)
    (repeat' (first | ((with_reducible apply At.mixedX (id := 4) [.blk b6 59 (Cell.cells x)] 15 (.q 0 (.q 1 (.q 2 (.q 3 (.q 4 (.q 5 (.q 6 (.q 7 (.q 8 (.q 9 (.l 10 (.q 11 (.l 12 (.q 13 (.x 14 .done)))))))))))))))); (repeat' (first | exact Take.nil | ((with_reducible apply Take.cons); (focus ((repeat constructor); done))))); exact rfl; kernel_rfl; kernel_rfl; kernel_rfl) | refine zsx ?_ | refine zss ?_ | ((with_reducible apply AtM.bo); exact rfl; exact rfl; exact rfl) | ((first | (with_reducible first | apply At.val | apply AtQ.val) | ((with_reducible first | apply AtM1.valz | apply AtM1.val); exact rfl) | ((with_reducible apply AtM1.val); exact rfl)); (first | exact pr_add (by rfl) (by rfl) wn | exact pr_add (by rfl) (by rfl) wR | exact pr_add (by rfl) (by rfl) wG | exact pr_add (by rfl) (by rfl) wX); exact rfl) | refine zs0 ?_ | refine zx0 ?_ | ((with_reducible first | apply AtM1.callp | apply AtQ.callp | apply At.callp); kernel_rfl; exact rfl; exact rfl; exact kb) | ((with_reducible apply At.litF wd [a.I, x.I, b.I]); exact inferInstance; (iterate 7 exact rfl); intro b' m' hm' sl0; skip) | ((with_reducible first | apply At.c1 | apply At.c0); exact rfl; exact rfl; exact hsum _ _ _ sl0; exact ztk; kernel_rfl; rintro v' m' B' hm' ⟨rfl, rfl, rfl⟩; (try replace sl0 := sl0.mono hm'); (try (have hq0 : hm' = Mem.le_refl _ := rfl; clear hq0 hm'))) | ((with_reducible apply At.box (d := 2)); exact rfl; exact rfl; exact rfl; intro b2) | ((with_reducible apply At.box (d := 3)); exact rfl; exact rfl; exact rfl; intro b3) | ((with_reducible apply At.alloc (d := 4)); exact rfl; exact rfl; intro b4) | ((with_reducible apply At.alloc (d := 6)); exact rfl; exact rfl; intro b6) | (refine zsp ?_ ?_ <;> (intro hc; (try simp only [zhcs, reduceCtorEq] at hc); (try (exfalso; first | omega | contradiction | omega | exact absurd rfl hc | exact absurd (by decide) hc))))))
    all_goals ((with_reducible apply At.retV (B := [])); exact rfl; (repeat' (first | exact RVs.nil | (with_reducible apply RVs.cons) | exact rv_tmp (by rfl) | exact rv_cellN (by rfl) (by repeat constructor) (by rfl) (by rfl) (by rfl) | exact rv_cell1 (by rfl) (by repeat constructor) (by rfl) (by rfl))); exact zml; exact zkp; exact ⟨by subst eJ; rfl, by assumption, rfl⟩)
  · have e : mrg a b = (z, 9) := by
      unfold mrg
      rw [if_neg (not_not_intro ⟨.inr ha, .inr hb⟩), if_neg ha.ne, if_neg hb.ne, if_pos (by omega)]
    rw [e]
    have eb : btw a.L b.F = (z, 9) := by unfold btw; rw [if_neg (not_not_intro (show two a.L b.F from ⟨ha.L, hb.F⟩)), if_pos (by omega)]
    rw [eb] at kb
    refine Ct.enterV (by rfl) Tryz.func104 rfl Tryz.ntmps104 rfl (fun w0 Rest => ?_)
    (repeat' (first | refine zss ?_ | refine zs0 ?_ | ((with_reducible first | apply AtM1.callp | apply AtQ.callp | apply At.callp); kernel_rfl; exact rfl; exact rfl; exact kb) | ((with_reducible apply At.box (d := 2)); exact rfl; exact rfl; exact rfl; intro b2) | ((with_reducible apply At.box (d := 3)); exact rfl; exact rfl; exact rfl; intro b3) | ((with_reducible apply At.alloc (d := 4)); exact rfl; exact rfl; intro b4) | ((with_reducible apply At.alloc (d := 6)); exact rfl; exact rfl; intro b6) | (refine zsp ?_ ?_ <;> (intro hc; (try simp only [zhcs, reduceCtorEq] at hc); (try (exfalso; first | omega | contradiction | omega | exact absurd rfl hc | exact absurd (by decide) hc))))))
    all_goals ((with_reducible apply At.retV (B := [])); exact rfl; (repeat' (first | exact RVs.nil | (with_reducible apply RVs.cons) | exact rv_tmp (by rfl) | exact rv_cellN (by rfl) (by repeat constructor) (by rfl) (by rfl) (by rfl) | exact rv_cell1 (by rfl) (by repeat constructor) (by rfl) (by rfl))); exact zml; exact zkp; exact ⟨rfl, Mem.le_refl _, rfl⟩)
theorem chk_ok {c : Cell} (h : ok c) : chk c = 0 := if_pos h
theorem chk_no {c : Cell} (h : ¬ ok c) : chk c = 2 := if_neg h
set_option maxHeartbeats 1000000 in
theorem merge (a b : Cell) (ia : In a) (ib : In b) : Pu Tryz.prog 53 #[a.v, b.v] (.tuple #[(mrg a b).1.v, .int .i64 (mrg a b).2]) := Pu.of_le fun m => by
  have ca := check a ia.1
  have cb := check b ib.1
  have na := none_ a
  have nb := none_ b
  by_cases oa : ok a
  · rw [chk_ok oa] at ca
    by_cases ob : ok b
    · rw [chk_ok ob] at cb
      by_cases za : a = z
      · rw [decide_eq_true za] at na
        rw [show mrg a b = (b, 0) by rw [za]; exact mrg_zl ob]
        refine Ct.enterV (by rfl) Tryz.func53 rfl Tryz.ntmps53 rfl (fun w0 Rest => ?_)
        (repeat' (first | refine zss ?_ | refine zs0 ?_ | ((with_reducible first | apply AtM1.callp | apply AtQ.callp | apply At.callp); kernel_rfl; exact rfl; exact rfl; exact ca) | ((with_reducible first | apply AtM1.callp | apply AtQ.callp | apply At.callp); kernel_rfl; exact rfl; exact rfl; exact cb) | ((with_reducible first | apply AtM1.callp | apply AtQ.callp | apply At.callp); kernel_rfl; exact rfl; exact rfl; exact na) | ((with_reducible apply At.box (d := 2)); exact rfl; exact rfl; exact rfl; intro b2) | ((with_reducible apply At.box (d := 3)); exact rfl; exact rfl; exact rfl; intro b3) | ((with_reducible apply At.alloc (d := 4)); exact rfl; exact rfl; intro b4) | (refine zsp ?_ ?_ <;> (intro hc; (try simp only [zhcs, reduceCtorEq] at hc); (try (exfalso; first | omega | contradiction | omega | exact absurd rfl hc | exact absurd (by decide) hc))))))
        all_goals ((with_reducible apply At.retV (B := [])); exact rfl; (repeat' (first | exact RVs.nil | (with_reducible apply RVs.cons) | exact rv_tmp (by rfl) | exact rv_cellN (by rfl) (by repeat constructor) (by rfl) (by rfl) (by rfl) | exact rv_cell1 (by rfl) (by repeat constructor) (by rfl) (by rfl))); exact zml; exact zkp; exact ⟨rfl, Mem.le_refl _, rfl⟩)
      · rw [decide_eq_false za] at na
        by_cases zb : b = z
        · rw [decide_eq_true zb] at nb
          rw [show mrg a b = (a, 0) by rw [zb]; exact mrg_zr oa]
          refine Ct.enterV (by rfl) Tryz.func53 rfl Tryz.ntmps53 rfl (fun w0 Rest => ?_)
          (repeat' (first | refine zss ?_ | refine zs0 ?_ | ((with_reducible first | apply AtM1.callp | apply AtQ.callp | apply At.callp); kernel_rfl; exact rfl; exact rfl; exact ca) | ((with_reducible first | apply AtM1.callp | apply AtQ.callp | apply At.callp); kernel_rfl; exact rfl; exact rfl; exact cb) | ((with_reducible first | apply AtM1.callp | apply AtQ.callp | apply At.callp); kernel_rfl; exact rfl; exact rfl; exact na) | ((with_reducible first | apply AtM1.callp | apply AtQ.callp | apply At.callp); kernel_rfl; exact rfl; exact rfl; exact nb) | ((with_reducible apply At.box (d := 2)); exact rfl; exact rfl; exact rfl; intro b2) | ((with_reducible apply At.box (d := 3)); exact rfl; exact rfl; exact rfl; intro b3) | ((with_reducible apply At.alloc (d := 4)); exact rfl; exact rfl; intro b4) | (refine zsp ?_ ?_ <;> (intro hc; (try simp only [zhcs, reduceCtorEq] at hc); (try (exfalso; first | omega | contradiction | omega | exact absurd rfl hc | exact absurd (by decide) hc))))))
          all_goals ((with_reducible apply At.retV (B := [])); exact rfl; (repeat' (first | exact RVs.nil | (with_reducible apply RVs.cons) | exact rv_tmp (by rfl) | exact rv_cellN (by rfl) (by repeat constructor) (by rfl) (by rfl) (by rfl) | exact rv_cell1 (by rfl) (by repeat constructor) (by rfl) (by rfl))); exact zml; exact zkp; exact ⟨rfl, Mem.le_refl _, rfl⟩)
        · rw [decide_eq_false zb] at nb
          have kj := join_ a b (oa.resolve_left za) (ob.resolve_left zb) ia ib
          obtain ⟨r, er⟩ : ∃ r, mrg a b = r := ⟨_, rfl⟩
          rw [er] at kj ⊢
          refine Ct.enterV (by rfl) Tryz.func53 rfl Tryz.ntmps53 rfl (fun w0 Rest => ?_)
          (repeat' (first | refine zss ?_ | refine zs0 ?_ | ((with_reducible first | apply AtM1.callp | apply AtQ.callp | apply At.callp); kernel_rfl; exact rfl; exact rfl; exact ca) | ((with_reducible first | apply AtM1.callp | apply AtQ.callp | apply At.callp); kernel_rfl; exact rfl; exact rfl; exact cb) | ((with_reducible first | apply AtM1.callp | apply AtQ.callp | apply At.callp); kernel_rfl; exact rfl; exact rfl; exact na) | ((with_reducible first | apply AtM1.callp | apply AtQ.callp | apply At.callp); kernel_rfl; exact rfl; exact rfl; exact nb) | ((with_reducible first | apply AtM1.callp | apply AtQ.callp | apply At.callp); kernel_rfl; exact rfl; exact rfl; exact kj) | ((with_reducible apply At.box (d := 2)); exact rfl; exact rfl; exact rfl; intro b2) | ((with_reducible apply At.box (d := 3)); exact rfl; exact rfl; exact rfl; intro b3) | ((with_reducible apply At.alloc (d := 4)); exact rfl; exact rfl; intro b4) | (refine zsp ?_ ?_ <;> (intro hc; (try simp only [zhcs, reduceCtorEq] at hc); (try (exfalso; first | omega | contradiction | omega | exact absurd rfl hc | exact absurd (by decide) hc))))))
          all_goals ((with_reducible apply At.retV (B := [])); exact rfl; (repeat' (first | exact RVs.nil | (with_reducible apply RVs.cons) | exact rv_tmp (by rfl) | exact rv_cellN (by rfl) (by repeat constructor) (by rfl) (by rfl) (by rfl) | exact rv_cell1 (by rfl) (by repeat constructor) (by rfl) (by rfl))); exact zml; exact zkp; exact ⟨rfl, Mem.le_refl _, rfl⟩)
    · rw [chk_no ob] at cb
      rw [show mrg a b = (z, 2) from if_pos (fun h => ob h.2)]
      refine Ct.enterV (by rfl) Tryz.func53 rfl Tryz.ntmps53 rfl (fun w0 Rest => ?_)
      (repeat' (first | refine zss ?_ | refine zs0 ?_ | ((with_reducible first | apply AtM1.callp | apply AtQ.callp | apply At.callp); kernel_rfl; exact rfl; exact rfl; exact ca) | ((with_reducible first | apply AtM1.callp | apply AtQ.callp | apply At.callp); kernel_rfl; exact rfl; exact rfl; exact cb) | ((with_reducible apply At.box (d := 2)); exact rfl; exact rfl; exact rfl; intro b2) | ((with_reducible apply At.box (d := 3)); exact rfl; exact rfl; exact rfl; intro b3) | ((with_reducible apply At.alloc (d := 4)); exact rfl; exact rfl; intro b4) | (refine zsp ?_ ?_ <;> (intro hc; (try simp only [zhcs, reduceCtorEq] at hc); (try (exfalso; first | omega | contradiction | omega | exact absurd rfl hc | exact absurd (by decide) hc))))))
      all_goals ((with_reducible apply At.retV (B := [])); exact rfl; (repeat' (first | exact RVs.nil | (with_reducible apply RVs.cons) | exact rv_tmp (by rfl) | exact rv_cellN (by rfl) (by repeat constructor) (by rfl) (by rfl) (by rfl) | exact rv_cell1 (by rfl) (by repeat constructor) (by rfl) (by rfl))); exact zml; exact zkp; exact ⟨rfl, Mem.le_refl _, rfl⟩)
  · rw [chk_no oa] at ca
    rw [show mrg a b = (z, 2) from if_pos (fun h => oa h.1)]
    refine Ct.enterV (by rfl) Tryz.func53 rfl Tryz.ntmps53 rfl (fun w0 Rest => ?_)
    (repeat' (first | refine zss ?_ | refine zs0 ?_ | ((with_reducible first | apply AtM1.callp | apply AtQ.callp | apply At.callp); kernel_rfl; exact rfl; exact rfl; exact ca) | ((with_reducible first | apply AtM1.callp | apply AtQ.callp | apply At.callp); kernel_rfl; exact rfl; exact rfl; exact cb) | ((with_reducible apply At.box (d := 2)); exact rfl; exact rfl; exact rfl; intro b2) | ((with_reducible apply At.box (d := 3)); exact rfl; exact rfl; exact rfl; intro b3) | ((with_reducible apply At.alloc (d := 4)); exact rfl; exact rfl; intro b4) | (refine zsp ?_ ?_ <;> (intro hc; (try simp only [zhcs, reduceCtorEq] at hc); (try (exfalso; first | omega | contradiction | omega | exact absurd rfl hc | exact absurd (by decide) hc))))))
    all_goals ((with_reducible apply At.retV (B := [])); exact rfl; (repeat' (first | exact RVs.nil | (with_reducible apply RVs.cons) | exact rv_tmp (by rfl) | exact rv_cellN (by rfl) (by repeat constructor) (by rfl) (by rfl) (by rfl) | exact rv_cell1 (by rfl) (by repeat constructor) (by rfl) (by rfl))); exact zml; exact zkp; exact ⟨rfl, Mem.le_refl _, rfl⟩)
def addE (c : Cell) (e : Ev) : Cell × Int := if e.ok then mrg c (one e) else (z, 2)
theorem one_in {e : Ev} (h : e.V < 18446744073709551616) : In (one e) := ⟨by show (-9223372036854775808 ≤ (1 : Int) ∧ (1 : Int) ≤ 9223372036854775807); decide, h, h, by show 0 < _; decide⟩
theorem add_ (c : Cell) (e : Ev) (ic : In c) (he : e.V < 18446744073709551616) : Pu Tryz.prog 121 #[c.v, e.v] (.tuple #[(addE c e).1.v, .int .i64 (addE c e).2]) := Pu.of_le fun m => by
  have ke := Ev.check e
  have ko := one_ e
  have km := merge c (one e) ic (one_in he)
  unfold addE
  by_cases h : e.ok
  · rw [if_pos h]
    rw [show e.chk = 0 from if_pos h] at ke
    obtain ⟨r, er⟩ : ∃ r, mrg c (one e) = r := ⟨_, rfl⟩
    rw [er] at km ⊢
    refine Ct.enterV (by rfl) Tryz.func121 rfl Tryz.ntmps121 rfl (fun w0 Rest => ?_)
    (repeat' (first | ((with_reducible apply At.mixed (id := 4) 8 (.q 0 (.q 1 (.q 2 (.q 3 (.q 4 (.q 5 (.x 6 (.q 7 .done))))))))); exact rfl; kernel_rfl; kernel_rfl; kernel_rfl) | refine zsx ?_ | refine zss ?_ | ((with_reducible apply AtM.bo); exact rfl; exact rfl; exact rfl) | refine zs0 ?_ | refine zx0 ?_ | ((with_reducible first | apply AtM1.callp | apply AtQ.callp | apply At.callp); kernel_rfl; exact rfl; exact rfl; exact ke) | ((with_reducible first | apply AtM1.callp | apply AtQ.callp | apply At.callp); kernel_rfl; exact rfl; exact rfl; exact ko) | ((with_reducible first | apply AtM1.callp | apply AtQ.callp | apply At.callp); kernel_rfl; exact rfl; exact rfl; exact km) | ((with_reducible apply At.box (d := 2)); exact rfl; exact rfl; exact rfl; intro b2) | ((with_reducible apply At.box (d := 3)); exact rfl; exact rfl; exact rfl; intro b3) | ((with_reducible apply At.alloc (d := 4)); exact rfl; exact rfl; intro b4) | (refine zsp ?_ ?_ <;> (intro hc; (try simp only [zhcs, reduceCtorEq] at hc); (try (exfalso; first | omega | contradiction | omega | exact absurd rfl hc | exact absurd (by decide) hc))))))
    all_goals ((with_reducible apply At.retV (B := [])); exact rfl; (repeat' (first | exact RVs.nil | (with_reducible apply RVs.cons) | exact rv_tmp (by rfl) | exact rv_cellN (by rfl) (by repeat constructor) (by rfl) (by rfl) (by rfl) | exact rv_cell1 (by rfl) (by repeat constructor) (by rfl) (by rfl))); exact zml; exact zkp; exact ⟨rfl, Mem.le_refl _, rfl⟩)
  · rw [if_neg h]
    rw [show e.chk = 2 from if_neg h] at ke
    refine Ct.enterV (by rfl) Tryz.func121 rfl Tryz.ntmps121 rfl (fun w0 Rest => ?_)
    (repeat' (first | ((with_reducible apply At.mixed (id := 4) 8 (.q 0 (.q 1 (.q 2 (.q 3 (.q 4 (.q 5 (.x 6 (.q 7 .done))))))))); exact rfl; kernel_rfl; kernel_rfl; kernel_rfl) | refine zsx ?_ | refine zss ?_ | ((with_reducible apply AtM.bo); exact rfl; exact rfl; exact rfl) | refine zs0 ?_ | refine zx0 ?_ | ((with_reducible first | apply AtM1.callp | apply AtQ.callp | apply At.callp); kernel_rfl; exact rfl; exact rfl; exact ke) | ((with_reducible apply At.box (d := 2)); exact rfl; exact rfl; exact rfl; intro b2) | ((with_reducible apply At.box (d := 3)); exact rfl; exact rfl; exact rfl; intro b3) | ((with_reducible apply At.alloc (d := 4)); exact rfl; exact rfl; intro b4) | (refine zsp ?_ ?_ <;> (intro hc; (try simp only [zhcs, reduceCtorEq] at hc); (try (exfalso; first | omega | contradiction | omega | exact absurd rfl hc | exact absurd (by decide) hc))))))
    all_goals ((with_reducible apply At.retV (B := [])); exact rfl; (repeat' (first | exact RVs.nil | (with_reducible apply RVs.cons) | exact rv_tmp (by rfl) | exact rv_cellN (by rfl) (by repeat constructor) (by rfl) (by rfl) (by rfl) | exact rv_cell1 (by rfl) (by repeat constructor) (by rfl) (by rfl))); exact zml; exact zkp; exact ⟨rfl, Mem.le_refl _, rfl⟩)
end Cell
end Go.Proofs.YtkoijdmlehkhbaaGreatDoor

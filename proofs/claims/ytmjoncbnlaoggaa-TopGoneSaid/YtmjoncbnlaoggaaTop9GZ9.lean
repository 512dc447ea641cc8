/- Part 9 of what the law's proof needs: rules of the walk, contracts of functions, plain laws. No condition. -/
import Derived.Test.YtmjoncbnlaoggaaTop9GZ8
import Derived.ProofKit
import Derived.OpenShut
import Derived.Below
import Derived.Carry
import Derived.Deep.Slices
/- States: which are right; where a series is found, and where there is room. -/
set_option linter.unusedSimpArgs false
set_option linter.unusedVariables false
set_option linter.unusedSectionVars false
set_option maxRecDepth 20000
set_option maxHeartbeats 4000000
namespace Go.Proofs.Ytmjoncbnlaoggaa
open Go Go.J
attribute [local irreducible] At AtQ AtM AtM1 PR Ct Pu Rd Res.blk Res.own Res.ex RVs RV
namespace St
open Se Win
theorem mk_bd {u : Sta} (hk : u.k.ok) (ht : tm u.now) : 0 ≤ mk u ∧ mk u ≤ u.now := by
  have f := mod_bd (t := u.now) (w := u.k.a) hk.ha.1
  have g : u.now % u.k.a ≤ u.now := by
    have := Int.emod_add_mul_ediv u.now u.k.a
    have h2 := Int.mul_nonneg (show 0 ≤ u.k.a by have := hk.ha; omega) (Int.ediv_nonneg ht.1 (show 0 ≤ u.k.a by have := hk.ha; omega))
    omega
  unfold mk
  omega
/-- what a place has may be, twins aside -/
def rgh (u : Sta) (x : Ser) : Prop := sok u.k x ∧ 0 ≤ x.last ∧ x.last < mk u + u.k.a
instance (u : Sta) (x : Ser) : Decidable (rgh u x) := by unfold rgh; infer_instance
def rgt (u : Sta) (i : Nat) : Bool := emp u.pl.l[i]! || (decide (rgh u u.pl.l[i]!) && !twn u i)
theorem right {m : Mem} (u : Sta) (i : Nat) (hs : u.Ok m) (hi : i < u.pl.l.length) (hk : u.k.ok) (ht : tm u.now) : Rd Try.prog 22 #[u.v, .int .i64 (i : Int)] m [] (.bool (rgt u i)) := by
  unfold Rd
  have sl0 := hs.sl
  have np := hs.np
  have hb := mk_bd hk ht
  have ha := hk.ha
  have hx := hs.at hi
  have k1 := fun (m' : Mem) (h : m.le m') => empty u.pl.l[i]! (hx.mono h)
  have k2 := fun (m' : Mem) (h : m.le m') => checkS u.k u.pl.l[i]! (hx.mono h)
  have k3 := mark u hk ht
  have k4 := fun (m' : Mem) (h : m.le m') => twin u i (hs.mono h) hi
  unfold tm at ht
  unfold rgt
  unfold schk at k2
  clear hs hx hk
  generalize emp u.pl.l[i]! = e at k1 ⊢
  generalize twn u i = w at k4 ⊢
  cases e
  rotate_left
  · rw [Bool.true_or]
    refine Ct.enterV (by rfl) Try.func22 rfl Try.ntmps22 rfl (fun w0 Rest => ?_)
    (repeat' (first | refine zss ?_ | refine zsM ?_ | ((with_reducible first | apply AtM1.cr | apply AtQ.cr | apply At.cr); exact rfl; exact rfl; exact fun _ hmm => k1 _ hmm; exact ztk; kernel_rfl) | ((with_reducible apply At.box (d := 2)); exact rfl; exact rfl; exact rfl; intro b2) | ((with_reducible apply At.alloc (d := 5)); exact rfl; exact rfl; intro b5) | (refine zsp ?_ ?_ <;> (intro hc; (try simp only [zhcs, reduceCtorEq] at hc); (try (exfalso; first | (first | omega | exact absurd rfl hc) | contradiction | omega | exact absurd rfl hc | exact absurd (by decide) hc))))))
    all_goals ((with_reducible apply At.retB1 (B := [])); exact rfl; exact rfl; exact zml; exact zkp; exact ⟨rfl, rfl, rfl⟩)
  rw [Bool.false_or]
  by_cases h1 : sok u.k u.pl.l[i]!
  rotate_left
  · rw [if_neg h1] at k2
    rw [decide_eq_false (fun h => h1 h.1), Bool.false_and]
    refine Ct.enterV (by rfl) Try.func22 rfl Try.ntmps22 rfl (fun w0 Rest => ?_)
    (repeat' (first | refine zss ?_ | refine zsM ?_ | ((with_reducible first | apply AtM1.cr | apply AtQ.cr | apply At.cr); exact rfl; exact rfl; exact fun _ hmm => k1 _ hmm; exact ztk; kernel_rfl) | ((with_reducible first | apply AtM1.cr | apply AtQ.cr | apply At.cr); exact rfl; exact rfl; exact fun _ hmm => k2 _ hmm; exact ztk; kernel_rfl) | ((with_reducible apply At.box (d := 2)); exact rfl; exact rfl; exact rfl; intro b2) | ((with_reducible apply At.alloc (d := 5)); exact rfl; exact rfl; intro b5) | (refine zsp ?_ ?_ <;> (intro hc; (try simp only [zhcs, reduceCtorEq] at hc); (try (exfalso; first | (first | omega | exact absurd rfl hc) | contradiction | omega | exact absurd rfl hc | exact absurd (by decide) hc))))))
    all_goals ((with_reducible apply At.retB1 (B := [])); exact rfl; exact rfl; exact zml; exact zkp; exact ⟨rfl, rfl, rfl⟩)
  rw [if_pos h1] at k2
  by_cases h2 : 0 ≤ u.pl.l[i]!.last
  rotate_left
  · rw [decide_eq_false (fun h => h2 h.2.1), Bool.false_and]
    refine Ct.enterV (by rfl) Try.func22 rfl Try.ntmps22 rfl (fun w0 Rest => ?_)
    (repeat' (first | refine zss ?_ | refine zsM ?_ | ((with_reducible first | apply AtM1.cr | apply AtQ.cr | apply At.cr); exact rfl; exact rfl; exact fun _ hmm => k1 _ hmm; exact ztk; kernel_rfl) | ((with_reducible first | apply AtM1.cr | apply AtQ.cr | apply At.cr); exact rfl; exact rfl; exact fun _ hmm => k2 _ hmm; exact ztk; kernel_rfl) | ((with_reducible apply At.box (d := 2)); exact rfl; exact rfl; exact rfl; intro b2) | ((with_reducible apply At.alloc (d := 5)); exact rfl; exact rfl; intro b5) | (refine zsp ?_ ?_ <;> (intro hc; (try simp only [zhcs, reduceCtorEq] at hc); (try (exfalso; first | (first | omega | exact absurd rfl hc) | contradiction | omega | exact absurd rfl hc | exact absurd (by decide) hc))))))
    all_goals ((with_reducible apply At.retB1 (B := [])); exact rfl; exact rfl; exact zml; exact zkp; exact ⟨rfl, rfl, rfl⟩)
  by_cases h3 : u.pl.l[i]!.last < mk u + u.k.a
  rotate_left
  · rw [decide_eq_false (fun h => h3 h.2.2), Bool.false_and]
    clear h1
    refine Ct.enterV (by rfl) Try.func22 rfl Try.ntmps22 rfl (fun w0 Rest => ?_)
    (repeat' (first | refine zss ?_ | ((first | (with_reducible first | apply At.val | apply AtQ.val)); (exact pr_indexArr (k := 0) (by rfl) (by rfl) (by rfl) (by rfl) (by decide)); exact rfl) | refine zsM ?_ | ((with_reducible first | apply AtM1.cr | apply AtQ.cr | apply At.cr); exact rfl; exact rfl; exact fun _ hmm => k1 _ hmm; exact ztk; kernel_rfl) | ((with_reducible first | apply AtM1.cr | apply AtQ.cr | apply At.cr); exact rfl; exact rfl; exact fun _ hmm => k2 _ hmm; exact ztk; kernel_rfl) | ((with_reducible first | apply AtM1.callp | apply AtQ.callp | apply At.callp); kernel_rfl; exact rfl; exact rfl; exact k3) | ((with_reducible apply At.box (d := 2)); exact rfl; exact rfl; exact rfl; intro b2) | ((with_reducible apply At.alloc (d := 5)); exact rfl; exact rfl; intro b5) | (refine zsp ?_ ?_ <;> (intro hc; (try simp only [zhcs, reduceCtorEq] at hc); (try (exfalso; first | (first | omega | exact absurd rfl hc) | contradiction | omega | exact absurd rfl hc | exact absurd (by decide) hc))))))
    all_goals ((with_reducible apply At.retB1 (B := [])); exact rfl; exact rfl; exact zml; exact zkp; exact ⟨rfl, rfl, rfl⟩)
  · rw [decide_eq_true (show rgh u u.pl.l[i]! from ⟨h1, h2, h3⟩), Bool.true_and]
    clear h1
    refine Ct.enterV (by rfl) Try.func22 rfl Try.ntmps22 rfl (fun w0 Rest => ?_)
    (repeat' (first | refine zss ?_ | ((first | (with_reducible first | apply At.val | apply AtQ.val)); (exact pr_indexArr (k := 0) (by rfl) (by rfl) (by rfl) (by rfl) (by decide)); exact rfl) | refine zsM ?_ | ((with_reducible first | apply AtM1.cr | apply AtQ.cr | apply At.cr); exact rfl; exact rfl; exact fun _ hmm => k1 _ hmm; exact ztk; kernel_rfl) | ((with_reducible first | apply AtM1.cr | apply AtQ.cr | apply At.cr); exact rfl; exact rfl; exact fun _ hmm => k2 _ hmm; exact ztk; kernel_rfl) | ((with_reducible first | apply AtM1.callp | apply AtQ.callp | apply At.callp); kernel_rfl; exact rfl; exact rfl; exact k3) | ((with_reducible first | apply AtM1.cr | apply AtQ.cr | apply At.cr); exact rfl; exact rfl; exact fun _ hmm => k4 _ hmm; exact ztk; kernel_rfl) | ((with_reducible apply At.box (d := 2)); exact rfl; exact rfl; exact rfl; intro b2) | ((with_reducible apply At.alloc (d := 5)); exact rfl; exact rfl; intro b5) | (refine zsp ?_ ?_ <;> (intro hc; (try simp only [zhcs, reduceCtorEq] at hc); (try (exfalso; first | (first | omega | exact absurd rfl hc) | contradiction | omega | exact absurd rfl hc | exact absurd (by decide) hc))))))
    all_goals ((with_reducible apply At.retB1 (B := [])); exact rfl; exact rfl; exact zml; exact zkp; exact ⟨rfl, rfl, rfl⟩)
theorem check1 {m : Mem} (b : Nat) (u : Sta) (i : Nat) (hs : u.Ok m) (hi : i < u.pl.l.length) (hk : u.k.ok) (ht : tm u.now) : Ct Try.prog 21 #[.int .i64 (i : Int), pt b] m [vb b u] (fun v m' B => v = .bool (!rgt u i) ∧ m = m' ∧ B = [vb b u]) := by
  have k1 := fun (m' : Mem) (h : m.le m') => right u i (hs.mono h) hi hk ht
  refine Ct.enterV (by rfl) Try.func21 rfl Try.ntmps21 rfl (fun w0 Rest => ?_)
  (repeat' (first | refine zss ?_ | refine zs0 ?_ | ((with_reducible first | apply AtM1.cr | apply AtQ.cr | apply At.cr); exact rfl; exact rfl; exact fun _ hmm => k1 _ hmm; exact ztk; kernel_rfl) | (refine zsp ?_ ?_ <;> (intro hc; (try simp only [zhcs, reduceCtorEq] at hc); (try (exfalso; first | contradiction | omega | exact absurd rfl hc | exact absurd (by decide) hc))))))
  all_goals ((with_reducible apply At.retB1 (B := [vb b u])); exact rfl; exact rfl; exact zml; exact zkp; exact ⟨rfl, rfl, rfl⟩)
/-- a state is right -/
def okU (u : Sta) : Prop := whole u ∧ clk u ∧ ∀ i, i < u.pl.l.length → rgt u i = true
instance (u : Sta) : Decidable (okU u) := by unfold okU; infer_instance
def chk (u : Sta) : Int := if okU u then 0 else 2
theorem check {m : Mem} (u : Sta) (hs : u.Ok m) : Rd Try.prog 8 #[u.v] m [] (.int .i64 (chk u)) := by
  unfold Rd
  by_cases h0 : whole u
  rotate_left
  · have k0 := openN u h0
    rw [show chk u = 2 from if_neg (fun h => h0 h.1)]
    refine Ct.enterV (by rfl) Try.func8 rfl Try.ntmps8 rfl (fun w0 Rest => ?_)
    (repeat' (first | refine zss ?_ | refine zs0 ?_ | ((with_reducible first | apply AtM1.callp | apply AtQ.callp | apply At.callp); kernel_rfl; exact rfl; exact rfl; exact k0) | ((with_reducible apply At.box (d := 1)); exact rfl; exact rfl; exact rfl; intro b1) | ((with_reducible apply At.alloc (d := 3)); exact rfl; exact rfl; intro b3) | (refine zsp ?_ ?_ <;> (intro hc; (try simp only [zhcs, reduceCtorEq] at hc); (try (exfalso; first | (first | omega | exact absurd rfl hc) | contradiction | omega | exact absurd rfl hc | exact absurd (by decide) hc))))))
    all_goals ((with_reducible apply At.retB1 (B := [])); exact rfl; exact rfl; exact zml; exact zkp; exact ⟨rfl, rfl, rfl⟩)
  have k0 := openK u h0
  have k1 := clock u
  by_cases h1 : clk u
  rotate_left
  · rw [decide_eq_false h1] at k1
    rw [show chk u = 2 from if_neg (fun h => h1 h.2.1)]
    refine Ct.enterV (by rfl) Try.func8 rfl Try.ntmps8 rfl (fun w0 Rest => ?_)
    (repeat' (first | refine zss ?_ | refine zs0 ?_ | ((with_reducible first | apply AtM1.callp | apply AtQ.callp | apply At.callp); kernel_rfl; exact rfl; exact rfl; exact k0) | ((with_reducible first | apply AtM1.callp | apply AtQ.callp | apply At.callp); kernel_rfl; exact rfl; exact rfl; exact k1) | ((with_reducible apply At.box (d := 1)); exact rfl; exact rfl; exact rfl; intro b1) | ((with_reducible apply At.alloc (d := 3)); exact rfl; exact rfl; intro b3) | (refine zsp ?_ ?_ <;> (intro hc; (try simp only [zhcs, reduceCtorEq] at hc); (try (exfalso; first | (first | omega | exact absurd rfl hc) | contradiction | omega | exact absurd rfl hc | exact absurd (by decide) hc))))))
    all_goals ((with_reducible apply At.retB1 (B := [])); exact rfl; exact rfl; exact zml; exact zkp; exact ⟨rfl, rfl, rfl⟩)
  rw [decide_eq_true h1] at k1
  have k2 := fun (m' : Mem) (h : m.le m') b => place u 21 [pt b] [vb b u] (fun i => !rgt u i) (hs.mono h) (by kernel_rfl) (fun m'' h' k hk => check1 b u k (hs.mono (Mem.le_trans h h')) hk h0.1 h1.1)
  have hc0 : chk u = 0 ↔ ∀ i, i < u.pl.l.length → rgt u i = true := by
    unfold chk
    constructor
    · intro h
      by_cases g : okU u
      · exact g.2.2
      · rw [if_neg g] at h; exact absurd h (by decide)
    · exact fun h => if_pos ⟨h0, h1, h⟩
  refine Ct.enterV (by rfl) Try.func8 rfl Try.ntmps8 rfl (fun w0 Rest => ?_)
  (repeat' (first | refine zss ?_ | refine zs0 ?_ | ((with_reducible first | apply AtM1.callp | apply AtQ.callp | apply At.callp); kernel_rfl; exact rfl; exact rfl; exact k0) | ((with_reducible first | apply AtM1.callp | apply AtQ.callp | apply At.callp); kernel_rfl; exact rfl; exact rfl; exact k1) | ((with_reducible first | apply At.c1 | apply At.c0); exact rfl; exact rfl; exact k2 _ (Mem.le_refl _) _; exact ztk; kernel_rfl; rintro v' m' B' hm' ⟨hf, rfl, rfl⟩; skip; (try (have hq0 : hm' = Mem.le_refl _ := rfl; clear hq0 hm'))) | (rcases hf with ⟨rfl, hn⟩ | ⟨k, rfl, hk, hq, -⟩) | ((with_reducible apply At.box (d := 1)); exact rfl; exact rfl; exact rfl; intro b1) | ((with_reducible apply At.alloc (d := 3)); exact rfl; exact rfl; intro b3) | (refine zsp ?_ ?_ <;> (intro hc; (try simp only [zhcs, reduceCtorEq] at hc); (try (exfalso; first | (first | omega | exact absurd rfl hc) | contradiction | omega | exact absurd rfl hc | exact absurd (by decide) hc))))))
  · rw [hc0.2 (fun i hi => by have := hn i hi; simpa using this)]
    ((with_reducible apply At.retB1 (B := [])); exact rfl; exact rfl; exact zml; exact zkp; exact ⟨rfl, rfl, rfl⟩)
  · rw [show chk u = 2 from if_neg (fun h => by have := h.2.2 k hk; dsimp only at hq; rw [this] at hq; exact absurd hq (by decide))]
    ((with_reducible apply At.retB1 (B := [])); exact rfl; exact rfl; exact zml; exact zkp; exact ⟨rfl, rfl, rfl⟩)
/-- the first place of which something holds, or why there is none -/
def fstO (n : Nat) (q : Nat → Bool) : Option Nat := (List.range n).find? q
theorem fst_none {n : Nat} {q : Nat → Bool} (h : ∀ i, i < n → q i = false) : fstO n q = none := by
  unfold fstO
  rw [List.find?_eq_none]
  intro x hx
  rw [h x (List.mem_range.1 hx)]
  decide
theorem fst_some {n : Nat} {q : Nat → Bool} {k : Nat} (hk : k < n) (hq : q k = true) (hn : ∀ i, i < k → q i = false) : fstO n q = some k := by
  unfold fstO
  rw [List.find?_range_eq_some]
  exact ⟨hq, List.mem_range.2 hk, fun j hj => by rw [hn j hj]; rfl⟩
def sel (u : Sta) (q : Nat → Bool) (e : Int) : Int × Int := if whole u then (match fstO u.pl.l.length q with | some k => ((k : Int), 0) | none => (0, e)) else (0, 2)
theorem sel_none {u : Sta} {q : Nat → Bool} {e : Int} (hw : whole u) (h : ∀ i, i < u.pl.l.length → q i = false) : sel u q e = (0, e) := by unfold sel; rw [if_pos hw, fst_none h]
theorem sel_some {u : Sta} {q : Nat → Bool} {e : Int} {k : Nat} (hw : whole u) (hk : k < u.pl.l.length) (hq : q k = true) (hn : ∀ i, i < k → q i = false) : sel u q e = ((k : Int), 0) := by unfold sel; rw [if_pos hw, fst_some hk hq hn]
theorem sel_bad {u : Sta} {q : Nat → Bool} {e : Int} (hw : ¬ whole u) : sel u q e = (0, 2) := if_neg hw
/-- a series of these labels lives here -/
def fnd (u : Sta) (l : List Lab) (i : Nat) : Bool := decide (u.pl.l[i]!.lab.l = l) && liv u u.pl.l[i]!
abbrev sb (b : Nat) (u : Sta) : Res := .blk b 28 u.cells
abbrev lb (b : Nat) (l : Lst Lab) : Res := .blk b 29 [l.v]
theorem find1 {m : Mem} (b c d : Nat) (u : Sta) (l : Lst Lab) (i : Nat) (hs : u.Ok m) (hi : i < u.pl.l.length) (hl : l.l.length ≤ 1000000000) (sl1 : Sl m Lb.cells 2 l.p l.c l.l) :
    Ct Try.prog 23 #[.int .i64 (i : Int), pt b, pt c, pt d] m [sb b u, lb c l, vb d u] (fun v m' B => v = .bool (fnd u l.l i) ∧ m = m' ∧ B = [sb b u, lb c l, vb d u]) := by
  have sl0 := hs.sl
  have np := hs.np
  have k1 := fun (m' : Mem) (h : m.le m') => lives u i (hs.mono h) hi
  have hb := hs.at hi
  have k2 := fun (m' : Mem) (h : m.le m') => Lb.same u.pl.l[i]!.lab.p u.pl.l[i]!.lab.c u.pl.l[i]!.lab.l l.p l.c l.l (Nat.le_trans hb.nl (by decide)) hl (hb.sl.mono h) (sl1.mono h)
  unfold fnd
  generalize liv u u.pl.l[i]! = e at k1 ⊢
  generalize decide (u.pl.l[i]!.lab.l = l.l) = w at k2 ⊢
  clear hs hb
  cases w
  · refine Ct.enterV (by rfl) Try.func23 rfl Try.ntmps23 rfl (fun w0 Rest => ?_)
    (repeat' (first | refine zss ?_ | refine zsM ?_ | ((with_reducible first | apply AtM1.cr | apply AtQ.cr | apply At.cr); exact rfl; exact rfl; exact fun _ hmm => k2 _ hmm; exact ztk; kernel_rfl) | (refine zsp ?_ ?_ <;> (intro hc; (try simp only [zhcs, reduceCtorEq] at hc); (try (exfalso; first | (first | omega | exact absurd rfl hc) | contradiction | omega | exact absurd rfl hc | exact absurd (by decide) hc))))))
    all_goals ((with_reducible apply At.retB1 (B := [sb b u, lb c l, vb d u])); exact rfl; exact rfl; exact zml; exact zkp; exact ⟨rfl, rfl, rfl⟩)
  · refine Ct.enterV (by rfl) Try.func23 rfl Try.ntmps23 rfl (fun w0 Rest => ?_)
    (repeat' (first | refine zss ?_ | refine zsM ?_ | ((with_reducible first | apply AtM1.cr | apply AtQ.cr | apply At.cr); exact rfl; exact rfl; exact fun _ hmm => k2 _ hmm; exact ztk; kernel_rfl) | ((with_reducible first | apply AtM1.cr | apply AtQ.cr | apply At.cr); exact rfl; exact rfl; exact fun _ hmm => k1 _ hmm; exact ztk; kernel_rfl) | (refine zsp ?_ ?_ <;> (intro hc; (try simp only [zhcs, reduceCtorEq] at hc); (try (exfalso; first | (first | omega | exact absurd rfl hc) | contradiction | omega | exact absurd rfl hc | exact absurd (by decide) hc))))))
    all_goals ((with_reducible apply At.retB1 (B := [sb b u, lb c l, vb d u])); exact rfl; exact rfl; exact zml; exact zkp; exact ⟨rfl, rfl, rfl⟩)
theorem find {m : Mem} (u : Sta) (l : Lst Lab) (hs : u.Ok m) (hl : l.l.length ≤ 1000000000) (sl1 : Sl m Lb.cells 2 l.p l.c l.l) :
    Rd Try.prog 9 #[u.v, l.v] m [] (.tuple #[.int .i64 (sel u (fnd u l.l) 3).1, .int .i64 (sel u (fnd u l.l) 3).2]) := by
  unfold Rd
  by_cases h0 : whole u
  rotate_left
  · have k0 := openN u h0
    rw [sel_bad h0]
    refine Ct.enterV (by rfl) Try.func9 rfl Try.ntmps9 rfl (fun w0 Rest => ?_)
    (repeat' (first | refine zss ?_ | refine zs0 ?_ | ((with_reducible first | apply AtM1.callp | apply AtQ.callp | apply At.callp); kernel_rfl; exact rfl; exact rfl; exact k0) | ((with_reducible apply At.box (d := 2)); exact rfl; exact rfl; exact rfl; intro b2) | ((with_reducible apply At.box (d := 3)); exact rfl; exact rfl; exact rfl; intro b3) | ((with_reducible apply At.alloc (d := 6)); exact rfl; exact rfl; intro b6) | (refine zsp ?_ ?_ <;> (intro hc; (try simp only [zhcs, reduceCtorEq] at hc); (try (exfalso; first | (first | omega | exact absurd rfl hc) | contradiction | omega | exact absurd rfl hc | exact absurd (by decide) hc))))))
    all_goals ((with_reducible apply At.retV (B := [])); exact rfl; (repeat' (first | exact RVs.nil | (with_reducible apply RVs.cons) | exact rv_tmp (by rfl) | exact rv_cellN (by rfl) (by repeat constructor) (by rfl) (by rfl) (by rfl) | exact rv_cell1 (by rfl) (by repeat constructor) (by rfl) (by rfl))); exact zml; exact zkp; exact ⟨rfl, rfl, rfl⟩)
  have k0 := openK u h0
  have k2 := fun (m' : Mem) (h : m.le m') b c d => place u 23 [pt b, pt c, pt d] [sb b u, lb c l, vb d u] (fnd u l.l) (hs.mono h) (by kernel_rfl) (fun m'' h' k hk => find1 b c d u l k (hs.mono (Mem.le_trans h h')) hk hl (sl1.mono (Mem.le_trans h h')))
  have np := hs.np
  refine Ct.enterV (by rfl) Try.func9 rfl Try.ntmps9 rfl (fun w0 Rest => ?_)
  (repeat' (first | refine zss ?_ | refine zs0 ?_ | ((with_reducible first | apply AtM1.callp | apply AtQ.callp | apply At.callp); kernel_rfl; exact rfl; exact rfl; exact k0) | ((with_reducible first | apply At.c1 | apply At.c0); exact rfl; exact rfl; exact k2 _ (Mem.le_refl _) _ _ _; exact ztk; kernel_rfl; rintro v' m' B' hm' ⟨hf, rfl, rfl⟩; (try replace sl1 := sl1.mono hm'); (try (have hq0 : hm' = Mem.le_refl _ := rfl; clear hq0 hm'))) | (rcases hf with ⟨rfl, hn⟩ | ⟨k, rfl, hk, hq, hn⟩) | ((with_reducible apply At.box (d := 2)); exact rfl; exact rfl; exact rfl; intro b2) | ((with_reducible apply At.box (d := 3)); exact rfl; exact rfl; exact rfl; intro b3) | ((with_reducible apply At.alloc (d := 6)); exact rfl; exact rfl; intro b6) | (refine zsp ?_ ?_ <;> (intro hc; (try simp only [zhcs, reduceCtorEq] at hc); (try (exfalso; first | (first | omega | exact absurd rfl hc) | contradiction | omega | exact absurd rfl hc | exact absurd (by decide) hc))))))
  · rw [sel_none h0 hn]
    ((with_reducible apply At.retV (B := [])); exact rfl; (repeat' (first | exact RVs.nil | (with_reducible apply RVs.cons) | exact rv_tmp (by rfl) | exact rv_cellN (by rfl) (by repeat constructor) (by rfl) (by rfl) (by rfl) | exact rv_cell1 (by rfl) (by repeat constructor) (by rfl) (by rfl))); exact zml; exact zkp; exact ⟨rfl, rfl, rfl⟩)
  · rw [sel_some h0 hk hq hn]
    ((with_reducible apply At.retV (B := [])); exact rfl; (repeat' (first | exact RVs.nil | (with_reducible apply RVs.cons) | exact rv_tmp (by rfl) | exact rv_cellN (by rfl) (by repeat constructor) (by rfl) (by rfl) (by rfl) | exact rv_cell1 (by rfl) (by repeat constructor) (by rfl) (by rfl))); exact zml; exact zkp; exact ⟨rfl, rfl, rfl⟩)
def roo (u : Sta) (i : Nat) : Bool := !liv u u.pl.l[i]!
theorem room1 {m : Mem} (b : Nat) (u : Sta) (i : Nat) (hs : u.Ok m) (hi : i < u.pl.l.length) : Ct Try.prog 43 #[.int .i64 (i : Int), pt b] m [vb b u] (fun v m' B => v = .bool (roo u i) ∧ m = m' ∧ B = [vb b u]) := by
  have k1 := fun (m' : Mem) (h : m.le m') => lives u i (hs.mono h) hi
  refine Ct.enterV (by rfl) Try.func43 rfl Try.ntmps43 rfl (fun w0 Rest => ?_)
  (repeat' (first | refine zss ?_ | refine zs0 ?_ | ((with_reducible first | apply AtM1.cr | apply AtQ.cr | apply At.cr); exact rfl; exact rfl; exact fun _ hmm => k1 _ hmm; exact ztk; kernel_rfl) | (refine zsp ?_ ?_ <;> (intro hc; (try simp only [zhcs, reduceCtorEq] at hc); (try (exfalso; first | contradiction | omega | exact absurd rfl hc | exact absurd (by decide) hc))))))
  all_goals ((with_reducible apply At.retB1 (B := [vb b u])); exact rfl; exact rfl; exact zml; exact zkp; exact ⟨rfl, rfl, rfl⟩)
theorem room {m : Mem} (u : Sta) (hs : u.Ok m) : Rd Try.prog 29 #[u.v] m [] (.tuple #[.int .i64 (sel u (roo u) 7).1, .int .i64 (sel u (roo u) 7).2]) := by
  unfold Rd
  by_cases h0 : whole u
  rotate_left
  · have k0 := openN u h0
    rw [sel_bad h0]
    refine Ct.enterV (by rfl) Try.func29 rfl Try.ntmps29 rfl (fun w0 Rest => ?_)
    (repeat' (first | refine zss ?_ | refine zs0 ?_ | ((with_reducible first | apply AtM1.callp | apply AtQ.callp | apply At.callp); kernel_rfl; exact rfl; exact rfl; exact k0) | ((with_reducible apply At.box (d := 1)); exact rfl; exact rfl; exact rfl; intro b1) | ((with_reducible apply At.alloc (d := 4)); exact rfl; exact rfl; intro b4) | (refine zsp ?_ ?_ <;> (intro hc; (try simp only [zhcs, reduceCtorEq] at hc); (try (exfalso; first | (first | omega | exact absurd rfl hc) | contradiction | omega | exact absurd rfl hc | exact absurd (by decide) hc))))))
    all_goals ((with_reducible apply At.retV (B := [])); exact rfl; (repeat' (first | exact RVs.nil | (with_reducible apply RVs.cons) | exact rv_tmp (by rfl) | exact rv_cellN (by rfl) (by repeat constructor) (by rfl) (by rfl) (by rfl) | exact rv_cell1 (by rfl) (by repeat constructor) (by rfl) (by rfl))); exact zml; exact zkp; exact ⟨rfl, rfl, rfl⟩)
  have k0 := openK u h0
  have k2 := fun (m' : Mem) (h : m.le m') b => place u 43 [pt b] [vb b u] (roo u) (hs.mono h) (by kernel_rfl) (fun m'' h' k hk => room1 b u k (hs.mono (Mem.le_trans h h')) hk)
  have np := hs.np
  refine Ct.enterV (by rfl) Try.func29 rfl Try.ntmps29 rfl (fun w0 Rest => ?_)
  (repeat' (first | refine zss ?_ | refine zs0 ?_ | ((with_reducible first | apply AtM1.callp | apply AtQ.callp | apply At.callp); kernel_rfl; exact rfl; exact rfl; exact k0) | ((with_reducible first | apply At.c1 | apply At.c0); exact rfl; exact rfl; exact k2 _ (Mem.le_refl _) _; exact ztk; kernel_rfl; rintro v' m' B' hm' ⟨hf, rfl, rfl⟩; skip; (try (have hq0 : hm' = Mem.le_refl _ := rfl; clear hq0 hm'))) | (rcases hf with ⟨rfl, hn⟩ | ⟨k, rfl, hk, hq, hn⟩) | ((with_reducible apply At.box (d := 1)); exact rfl; exact rfl; exact rfl; intro b1) | ((with_reducible apply At.alloc (d := 4)); exact rfl; exact rfl; intro b4) | (refine zsp ?_ ?_ <;> (intro hc; (try simp only [zhcs, reduceCtorEq] at hc); (try (exfalso; first | (first | omega | exact absurd rfl hc) | contradiction | omega | exact absurd rfl hc | exact absurd (by decide) hc))))))
  · rw [sel_none h0 hn]
    ((with_reducible apply At.retV (B := [])); exact rfl; (repeat' (first | exact RVs.nil | (with_reducible apply RVs.cons) | exact rv_tmp (by rfl) | exact rv_cellN (by rfl) (by repeat constructor) (by rfl) (by rfl) (by rfl) | exact rv_cell1 (by rfl) (by repeat constructor) (by rfl) (by rfl))); exact zml; exact zkp; exact ⟨rfl, rfl, rfl⟩)
  · rw [sel_some h0 hk hq hn]
    ((with_reducible apply At.retV (B := [])); exact rfl; (repeat' (first | exact RVs.nil | (with_reducible apply RVs.cons) | exact rv_tmp (by rfl) | exact rv_cellN (by rfl) (by repeat constructor) (by rfl) (by rfl) (by rfl) | exact rv_cell1 (by rfl) (by repeat constructor) (by rfl) (by rfl))); exact zml; exact zkp; exact ⟨rfl, rfl, rfl⟩)
/-- where the open window begins, if there is one -/
def mkU (u : Sta) : Int := if whole u ∧ tm u.now then mk u else 0
theorem markU {m : Mem} (u : Sta) : Rd Try.prog 42 #[u.v] m [] (.int .i64 (mkU u)) := by
  unfold Rd mkU
  by_cases h0 : whole u
  rotate_left
  · have k0 := openN u h0
    rw [if_neg (fun h => h0 h.1)]
    refine Ct.enterV (by rfl) Try.func42 rfl Try.ntmps42 rfl (fun w0 Rest => ?_)
    (repeat' (first | refine zss ?_ | refine zs0 ?_ | ((with_reducible first | apply AtM1.callp | apply AtQ.callp | apply At.callp); kernel_rfl; exact rfl; exact rfl; exact k0) | ((with_reducible apply At.box (d := 1)); exact rfl; exact rfl; exact rfl; intro b1) | ((with_reducible apply At.alloc (d := 3)); exact rfl; exact rfl; intro b3) | (refine zsp ?_ ?_ <;> (intro hc; (try simp only [zhcs, reduceCtorEq] at hc); (try (exfalso; first | (first | omega | exact absurd rfl hc) | contradiction | omega | exact absurd rfl hc | exact absurd (by decide) hc))))))
    all_goals ((with_reducible apply At.retB1 (B := [])); exact rfl; exact rfl; exact zml; exact zkp; exact ⟨rfl, rfl, rfl⟩)
  have k0 := openK u h0
  have k1 := time u.now
  by_cases h1 : tm u.now
  · have k2 := mark u h0.1 h1
    rw [decide_eq_true h1] at k1
    rw [if_pos ⟨h0, h1⟩]
    refine Ct.enterV (by rfl) Try.func42 rfl Try.ntmps42 rfl (fun w0 Rest => ?_)
    (repeat' (first | refine zss ?_ | refine zs0 ?_ | ((with_reducible first | apply AtM1.callp | apply AtQ.callp | apply At.callp); kernel_rfl; exact rfl; exact rfl; exact k0) | ((with_reducible first | apply AtM1.callp | apply AtQ.callp | apply At.callp); kernel_rfl; exact rfl; exact rfl; exact k1) | ((with_reducible first | apply AtM1.callp | apply AtQ.callp | apply At.callp); kernel_rfl; exact rfl; exact rfl; exact k2) | ((with_reducible apply At.box (d := 1)); exact rfl; exact rfl; exact rfl; intro b1) | ((with_reducible apply At.alloc (d := 3)); exact rfl; exact rfl; intro b3) | (refine zsp ?_ ?_ <;> (intro hc; (try simp only [zhcs, reduceCtorEq] at hc); (try (exfalso; first | (first | omega | exact absurd rfl hc) | contradiction | omega | exact absurd rfl hc | exact absurd (by decide) hc))))))
    all_goals ((with_reducible apply At.retB1 (B := [])); exact rfl; exact rfl; exact zml; exact zkp; exact ⟨rfl, rfl, rfl⟩)
  · rw [decide_eq_false h1] at k1
    rw [if_neg (fun h => h1 h.2)]
    refine Ct.enterV (by rfl) Try.func42 rfl Try.ntmps42 rfl (fun w0 Rest => ?_)
    (repeat' (first | refine zss ?_ | refine zs0 ?_ | ((with_reducible first | apply AtM1.callp | apply AtQ.callp | apply At.callp); kernel_rfl; exact rfl; exact rfl; exact k0) | ((with_reducible first | apply AtM1.callp | apply AtQ.callp | apply At.callp); kernel_rfl; exact rfl; exact rfl; exact k1) | ((with_reducible apply At.box (d := 1)); exact rfl; exact rfl; exact rfl; intro b1) | ((with_reducible apply At.alloc (d := 3)); exact rfl; exact rfl; intro b3) | (refine zsp ?_ ?_ <;> (intro hc; (try simp only [zhcs, reduceCtorEq] at hc); (try (exfalso; first | (first | omega | exact absurd rfl hc) | contradiction | omega | exact absurd rfl hc | exact absurd (by decide) hc))))))
    all_goals ((with_reducible apply At.retB1 (B := [])); exact rfl; exact rfl; exact zml; exact zkp; exact ⟨rfl, rfl, rfl⟩)
def livU (u : Sta) (i : Int) : Bool := decide (whole u ∧ 0 ≤ i ∧ i < (u.pl.l.length : Int)) && liv u u.pl.l[i.toNat]!
theorem livesU {m : Mem} (u : Sta) (i : Int) (hs : u.Ok m) : Rd Try.prog 11 #[u.v, .int .i64 i] m [] (.bool (livU u i)) := by
  unfold Rd livU
  have np := hs.np
  by_cases h0 : whole u
  rotate_left
  · have k0 := openN u h0
    rw [decide_eq_false (fun h => h0 h.1), Bool.false_and]
    refine Ct.enterV (by rfl) Try.func11 rfl Try.ntmps11 rfl (fun w0 Rest => ?_)
    (repeat' (first | refine zss ?_ | refine zs0 ?_ | ((with_reducible first | apply AtM1.callp | apply AtQ.callp | apply At.callp); kernel_rfl; exact rfl; exact rfl; exact k0) | ((with_reducible apply At.box (d := 2)); exact rfl; exact rfl; exact rfl; intro b2) | ((with_reducible apply At.alloc (d := 5)); exact rfl; exact rfl; intro b5) | (refine zsp ?_ ?_ <;> (intro hc; (try simp only [zhcs, reduceCtorEq] at hc); (try (exfalso; first | (first | omega | exact absurd rfl hc) | contradiction | omega | exact absurd rfl hc | exact absurd (by decide) hc))))))
    all_goals ((with_reducible apply At.retB1 (B := [])); exact rfl; exact rfl; exact zml; exact zkp; exact ⟨rfl, rfl, rfl⟩)
  have k0 := openK u h0
  by_cases h1 : 0 ≤ i ∧ i < (u.pl.l.length : Int)
  · obtain ⟨k, rfl⟩ : ∃ k : Nat, i = (k : Int) := ⟨i.toNat, by omega⟩
    have k1 := fun (m' : Mem) (h : m.le m') => lives u k (hs.mono h) (by omega)
    rw [decide_eq_true ⟨h0, h1⟩, Bool.true_and, Int.toNat_natCast]
    generalize liv u u.pl.l[k]! = w at k1 ⊢
    refine Ct.enterV (by rfl) Try.func11 rfl Try.ntmps11 rfl (fun w0 Rest => ?_)
    (repeat' (first | refine zss ?_ | refine zs0 ?_ | ((with_reducible first | apply AtM1.callp | apply AtQ.callp | apply At.callp); kernel_rfl; exact rfl; exact rfl; exact k0) | ((with_reducible first | apply AtM1.cr | apply AtQ.cr | apply At.cr); exact rfl; exact rfl; exact fun _ hmm => k1 _ hmm; exact ztk; kernel_rfl) | ((with_reducible apply At.box (d := 2)); exact rfl; exact rfl; exact rfl; intro b2) | ((with_reducible apply At.alloc (d := 5)); exact rfl; exact rfl; intro b5) | (refine zsp ?_ ?_ <;> (intro hc; (try simp only [zhcs, reduceCtorEq] at hc); (try (exfalso; first | (first | omega | exact absurd rfl hc) | contradiction | omega | exact absurd rfl hc | exact absurd (by decide) hc))))))
    all_goals ((with_reducible apply At.retB1 (B := [])); exact rfl; exact rfl; exact zml; exact zkp; exact ⟨rfl, rfl, rfl⟩)
  · rw [decide_eq_false (fun h => h1 h.2), Bool.false_and]
    refine Ct.enterV (by rfl) Try.func11 rfl Try.ntmps11 rfl (fun w0 Rest => ?_)
    (repeat' (first | refine zss ?_ | refine zs0 ?_ | ((with_reducible first | apply AtM1.callp | apply AtQ.callp | apply At.callp); kernel_rfl; exact rfl; exact rfl; exact k0) | ((with_reducible apply At.box (d := 2)); exact rfl; exact rfl; exact rfl; intro b2) | ((with_reducible apply At.alloc (d := 5)); exact rfl; exact rfl; intro b5) | (refine zsp ?_ ?_ <;> (intro hc; (try simp only [zhcs, reduceCtorEq] at hc); (try (exfalso; first | (first | omega | exact absurd rfl hc) | contradiction | omega | exact absurd rfl hc | exact absurd (by decide) hc))))))
    all_goals ((with_reducible apply At.retB1 (B := [])); exact rfl; exact rfl; exact zml; exact zkp; exact ⟨rfl, rfl, rfl⟩)
end St
end Go.Proofs.Ytmjoncbnlaoggaa
/- States: those that live, a new one; small ones. -/
set_option linter.unusedSimpArgs false
set_option linter.unusedVariables false
set_option linter.unusedSectionVars false
set_option maxRecDepth 20000
set_option maxHeartbeats 4000000
namespace Go.Proofs.Ytmjoncbnlaoggaa
open Go Go.J
attribute [local irreducible] At AtQ AtM AtM1 PR Ct Pu Rd Res.blk Res.own Res.ex RVs RV
namespace Ser
/-- what it has lies where it says; its numbers are numbers; it may be of any length -/
structure Lay (m : Mem) (s : Ser) : Prop where
  sl : Sl m Lb.cells 2 s.lab.p s.lab.c s.lab.l
  sr : Sl m Ev.cells 4 s.raw.p s.raw.c s.raw.l
  s0 : Sl m Slot.cells 15 s.t0.p s.t0.c s.t0.l
  s1 : Sl m Slot.cells 15 s.t1.p s.t1.c s.t1.l
  s2 : Sl m Slot.cells 15 s.t2.p s.t2.c s.t2.l
  i0 : ∀ x ∈ s.t0.l, Slot.In x
  i1 : ∀ x ∈ s.t1.l, Slot.In x
  i2 : ∀ x ∈ s.t2.l, Slot.In x
  io : Slot.In s.op
  ir : ∀ e ∈ s.raw.l, e.V < 18446744073709551616
  bl : -9223372036854775808 ≤ s.last ∧ s.last ≤ 9223372036854775807
theorem Lay.mono {m m' : Mem} {s : Ser} (h : Lay m s) (hm : m.le m') : Lay m' s := ⟨h.sl.mono hm, h.sr.mono hm, h.s0.mono hm, h.s1.mono hm, h.s2.mono hm, h.i0, h.i1, h.i2, h.io, h.ir, h.bl⟩
def sm (x : Ser) : Prop := Lb.few x.lab.l ∧ x.raw.l.length ≤ 60 ∧ x.t0.l.length ≤ 40 ∧ x.t1.l.length ≤ 40 ∧ x.t2.l.length ≤ 40
instance (x : Ser) : Decidable (sm x) := by unfold sm; infer_instance
theorem Lay.ok {m : Mem} {x : Ser} (h : Lay m x) (hs : sm x) : Ok m x :=
  ⟨h.sl, h.sr, h.s0, h.s1, h.s2, hs.1.mid, h.i0, h.i1, h.i2, h.io, h.ir, Nat.le_trans hs.1.1 (by decide), Nat.le_trans hs.2.1 (by decide), Nat.le_trans hs.2.2.1 (by decide), Nat.le_trans hs.2.2.2.1 (by decide), Nat.le_trans hs.2.2.2.2 (by decide), h.bl⟩
theorem Ok.lay {m : Mem} {x : Ser} (h : Ok m x) : Lay m x := ⟨h.sl, h.sr, h.s0, h.s1, h.s2, h.i0, h.i1, h.i2, h.io, h.ir, h.bl⟩
end Ser
namespace Sta
structure Lay (m : Mem) (s : Sta) : Prop where
  sl : Sl m Ser.cells 23 s.pl.p s.pl.c s.pl.l
  pk : ∀ x ∈ s.pl.l, Ser.Lay m x
  bn : -9223372036854775808 ≤ s.now ∧ s.now ≤ 9223372036854775807
  bs : -9223372036854775808 ≤ s.swept ∧ s.swept ≤ 9223372036854775807
theorem Lay.mono {m m' : Mem} {s : Sta} (h : Lay m s) (hm : m.le m') : Lay m' s := ⟨h.sl.mono hm, fun x hx => (h.pk x hx).mono hm, h.bn, h.bs⟩
def sm (u : Sta) : Prop := u.pl.l.length ≤ 8 ∧ ∀ x ∈ u.pl.l, Ser.sm x
instance (u : Sta) : Decidable (sm u) := by unfold sm; infer_instance
theorem Lay.ok {m : Mem} {u : Sta} (h : Lay m u) (hs : sm u) : Ok m u := ⟨h.sl, fun x hx => (h.pk x hx).ok (hs.2 x hx), Nat.le_trans hs.1 (by decide), h.bn, h.bs⟩
end Sta
namespace St
open Se Win
theorem small14 (a b c : Lst Slot) : Pu Try.prog 34 #[t3v a b c] (.int .i64 (if a.l.length ≤ 40 ∧ b.l.length ≤ 40 ∧ c.l.length ≤ 40 then 1 else 0)) := Pu.intro fun m => by
  refine Ct.enterV (by rfl) Try.func34 rfl Try.ntmps34 rfl (fun w0 Rest => ?_)
  (repeat' (first | refine zss ?_ | refine zs0 ?_ | ((with_reducible apply At.box (d := 1)); exact rfl; exact rfl; exact rfl; intro b1) | (refine zsp ?_ ?_ <;> (intro hc; (try simp only [zhcs, reduceCtorEq] at hc); (try (exfalso; first | contradiction | omega | exact absurd rfl hc | exact absurd (by decide) hc))))))
  (refine At.loopk (σ := Nat) [1] (fun s F0 => (4, .int .i64 (s : Int)) :: F0) (fun s => m) (fun s => .blk b1 44 [a.v, b.v, c.v] :: Rest) (fun s => s ≤ 3 ∧ (0 < s → a.l.length ≤ 40) ∧ (1 < s → b.l.length ≤ 40) ∧ (2 < s → c.l.length ≤ 40)) (fun s => 3 - s) 0 (by rfl) ?_ zsubs zml zente ?_)
  · exact ⟨Nat.zero_le _, fun h => absurd h (by decide), fun h => absurd h (by decide), fun h => absurd h (by decide)⟩
  rintro s ⟨hs, g0, g1, g2⟩
  rcases (show s = 0 ∨ s = 1 ∨ s = 2 ∨ s = 3 by omega) with rfl | rfl | rfl | rfl
  · by_cases h : a.l.length ≤ 40
    · (repeat' (first | refine zss ?_ | ((first | (with_reducible first | apply At.val | apply AtQ.val)); (exact pr_indexArr (k := 0) (by rfl) (by rfl) (by rfl) (by rfl) (by decide)); exact rfl) | refine zs0 ?_ | ((with_reducible apply At.box (d := 1)); exact rfl; exact rfl; exact rfl; intro b1) | (refine zsp ?_ ?_ <;> (intro hc; (try simp only [zhcs, reduceCtorEq] at hc); (try (exfalso; first | omega | contradiction | omega | exact absurd rfl hc | exact absurd (by decide) hc))))))
      all_goals ((with_reducible refine At.reachk (1) ?_ ?_ ?_ ?_); exact zsubs; exact zml; exact zente; exact ⟨⟨by decide, fun _ => h, fun h => absurd h (by decide), fun h => absurd h (by decide)⟩, by decide⟩)
    · rw [if_neg (fun k => h k.1)]
      (repeat' (first | refine zss ?_ | ((first | (with_reducible first | apply At.val | apply AtQ.val)); (exact pr_indexArr (k := 0) (by rfl) (by rfl) (by rfl) (by rfl) (by decide)); exact rfl) | refine zs0 ?_ | ((with_reducible apply At.box (d := 1)); exact rfl; exact rfl; exact rfl; intro b1) | (refine zsp ?_ ?_ <;> (intro hc; (try simp only [zhcs, reduceCtorEq] at hc); (try (exfalso; first | omega | contradiction | omega | exact absurd rfl hc | exact absurd (by decide) hc))))))
      all_goals ((with_reducible apply At.retB1 (B := [])); exact rfl; exact rfl; exact zml; exact zkp; exact ⟨rfl, rfl, rfl⟩)
  · by_cases h : b.l.length ≤ 40
    · (repeat' (first | refine zss ?_ | ((first | (with_reducible first | apply At.val | apply AtQ.val)); (exact pr_indexArr (k := 1) (by rfl) (by rfl) (by rfl) (by rfl) (by decide)); exact rfl) | refine zs0 ?_ | ((with_reducible apply At.box (d := 1)); exact rfl; exact rfl; exact rfl; intro b1) | (refine zsp ?_ ?_ <;> (intro hc; (try simp only [zhcs, reduceCtorEq] at hc); (try (exfalso; first | omega | contradiction | omega | exact absurd rfl hc | exact absurd (by decide) hc))))))
      all_goals ((with_reducible refine At.reachk (2) ?_ ?_ ?_ ?_); exact zsubs; exact zml; exact zente; exact ⟨⟨by decide, fun _ => g0 (by decide), fun _ => h, fun h => absurd h (by decide)⟩, by decide⟩)
    · rw [if_neg (fun k => h k.2.1)]
      (repeat' (first | refine zss ?_ | ((first | (with_reducible first | apply At.val | apply AtQ.val)); (exact pr_indexArr (k := 1) (by rfl) (by rfl) (by rfl) (by rfl) (by decide)); exact rfl) | refine zs0 ?_ | ((with_reducible apply At.box (d := 1)); exact rfl; exact rfl; exact rfl; intro b1) | (refine zsp ?_ ?_ <;> (intro hc; (try simp only [zhcs, reduceCtorEq] at hc); (try (exfalso; first | omega | contradiction | omega | exact absurd rfl hc | exact absurd (by decide) hc))))))
      all_goals ((with_reducible apply At.retB1 (B := [])); exact rfl; exact rfl; exact zml; exact zkp; exact ⟨rfl, rfl, rfl⟩)
  · by_cases h : c.l.length ≤ 40
    · (repeat' (first | refine zss ?_ | ((first | (with_reducible first | apply At.val | apply AtQ.val)); (exact pr_indexArr (k := 2) (by rfl) (by rfl) (by rfl) (by rfl) (by decide)); exact rfl) | refine zs0 ?_ | ((with_reducible apply At.box (d := 1)); exact rfl; exact rfl; exact rfl; intro b1) | (refine zsp ?_ ?_ <;> (intro hc; (try simp only [zhcs, reduceCtorEq] at hc); (try (exfalso; first | omega | contradiction | omega | exact absurd rfl hc | exact absurd (by decide) hc))))))
      all_goals ((with_reducible refine At.reachk (3) ?_ ?_ ?_ ?_); exact zsubs; exact zml; exact zente; exact ⟨⟨by decide, fun _ => g0 (by decide), fun _ => g1 (by decide), fun _ => h⟩, by decide⟩)
    · rw [if_neg (fun k => h k.2.2)]
      (repeat' (first | refine zss ?_ | ((first | (with_reducible first | apply At.val | apply AtQ.val)); (exact pr_indexArr (k := 2) (by rfl) (by rfl) (by rfl) (by rfl) (by decide)); exact rfl) | refine zs0 ?_ | ((with_reducible apply At.box (d := 1)); exact rfl; exact rfl; exact rfl; intro b1) | (refine zsp ?_ ?_ <;> (intro hc; (try simp only [zhcs, reduceCtorEq] at hc); (try (exfalso; first | omega | contradiction | omega | exact absurd rfl hc | exact absurd (by decide) hc))))))
      all_goals ((with_reducible apply At.retB1 (B := [])); exact rfl; exact rfl; exact zml; exact zkp; exact ⟨rfl, rfl, rfl⟩)
  · rw [if_pos ⟨g0 (by decide), g1 (by decide), g2 (by decide)⟩]
    (repeat' (first | refine zss ?_ | refine zs0 ?_ | ((with_reducible apply At.box (d := 1)); exact rfl; exact rfl; exact rfl; intro b1) | (refine zsp ?_ ?_ <;> (intro hc; (try simp only [zhcs, reduceCtorEq] at hc); (try (exfalso; first | omega | contradiction | omega | exact absurd rfl hc | exact absurd (by decide) hc))))))
    all_goals ((with_reducible apply At.retB1 (B := [])); exact rfl; exact rfl; exact zml; exact zkp; exact ⟨rfl, rfl, rfl⟩)
def smI (x : Ser) : Int := if x.sm then 1 else 0
theorem small15 {m : Mem} (x : Ser) (hx : x.Lay m) : Rd Try.prog 17 #[x.v] m [] (.int .i64 (smI x)) := by
  unfold Rd
  have k1 := fun (m' : Mem) (h : m.le m') => Lb.small x.lab.p x.lab.c x.lab.l (hx.sl.mono h)
  have k2 := small14 x.t0 x.t1 x.t2
  clear hx
  unfold smI
  by_cases h1 : Lb.few x.lab.l
  rotate_left
  · rw [if_neg h1] at k1
    rw [if_neg (fun h => h1 h.1)]
    refine Ct.enterV (by rfl) Try.func17 rfl Try.ntmps17 rfl (fun w0 Rest => ?_)
    (repeat' (first | refine zss ?_ | refine zsM ?_ | ((with_reducible first | apply AtM1.cr | apply AtQ.cr | apply At.cr); exact rfl; exact rfl; exact fun _ hmm => k1 _ hmm; exact ztk; kernel_rfl) | ((with_reducible apply At.box (d := 1)); exact rfl; exact rfl; exact rfl; intro b1) | (refine zsp ?_ ?_ <;> (intro hc; (try simp only [zhcs, reduceCtorEq] at hc); (try (exfalso; first | (first | omega | exact absurd rfl hc) | contradiction | omega | exact absurd rfl hc | exact absurd (by decide) hc))))))
    all_goals ((with_reducible apply At.retB1 (B := [])); exact rfl; exact rfl; exact zml; exact zkp; exact ⟨rfl, rfl, rfl⟩)
  rw [if_pos h1] at k1
  by_cases h2 : x.raw.l.length ≤ 60
  rotate_left
  · rw [if_neg (fun h => h2 h.2.1)]
    clear h1
    refine Ct.enterV (by rfl) Try.func17 rfl Try.ntmps17 rfl (fun w0 Rest => ?_)
    (repeat' (first | refine zss ?_ | refine zsM ?_ | ((with_reducible first | apply AtM1.cr | apply AtQ.cr | apply At.cr); exact rfl; exact rfl; exact fun _ hmm => k1 _ hmm; exact ztk; kernel_rfl) | ((with_reducible apply At.box (d := 1)); exact rfl; exact rfl; exact rfl; intro b1) | (refine zsp ?_ ?_ <;> (intro hc; (try simp only [zhcs, reduceCtorEq] at hc); (try (exfalso; first | (first | omega | exact absurd rfl hc) | contradiction | omega | exact absurd rfl hc | exact absurd (by decide) hc))))))
    all_goals ((with_reducible apply At.retB1 (B := [])); exact rfl; exact rfl; exact zml; exact zkp; exact ⟨rfl, rfl, rfl⟩)
  rw [show (if x.sm then (1 : Int) else 0) = (if x.t0.l.length ≤ 40 ∧ x.t1.l.length ≤ 40 ∧ x.t2.l.length ≤ 40 then 1 else 0) by
    by_cases h : x.t0.l.length ≤ 40 ∧ x.t1.l.length ≤ 40 ∧ x.t2.l.length ≤ 40
    · rw [if_pos h, if_pos ⟨h1, h2, h.1, h.2.1, h.2.2⟩]
    · rw [if_neg h, if_neg (fun g => h ⟨g.2.2.1, g.2.2.2.1, g.2.2.2.2⟩)]]
  clear h1
  refine Ct.enterV (by rfl) Try.func17 rfl Try.ntmps17 rfl (fun w0 Rest => ?_)
  (repeat' (first | refine zss ?_ | refine zsM ?_ | ((with_reducible first | apply AtM1.cr | apply AtQ.cr | apply At.cr); exact rfl; exact rfl; exact fun _ hmm => k1 _ hmm; exact ztk; kernel_rfl) | ((with_reducible first | apply AtM1.callp | apply AtQ.callp | apply At.callp); kernel_rfl; exact rfl; exact rfl; exact k2) | ((with_reducible apply At.box (d := 1)); exact rfl; exact rfl; exact rfl; intro b1) | (refine zsp ?_ ?_ <;> (intro hc; (try simp only [zhcs, reduceCtorEq] at hc); (try (exfalso; first | (first | omega | exact absurd rfl hc) | contradiction | omega | exact absurd rfl hc | exact absurd (by decide) hc))))))
  all_goals ((with_reducible apply At.retB1 (B := [])); exact rfl; exact rfl; exact zml; exact zkp; exact ⟨rfl, rfl, rfl⟩)
def smU (u : Sta) : Int := if u.sm then 1 else 0
theorem small17 {m : Mem} (u : Sta) (hu : u.Lay m) : Rd Try.prog 6 #[u.v] m [] (.int .i64 (smU u)) := by
  unfold Rd
  have sl0 := hu.sl
  unfold smU
  by_cases h0 : u.pl.l.length ≤ 8
  rotate_left
  · rw [if_neg (fun h => h0 h.1)]
    refine Ct.enterV (by rfl) Try.func6 rfl Try.ntmps6 rfl (fun w0 Rest => ?_)
    (repeat' (first | refine zss ?_ | refine zsM ?_ | ((with_reducible apply At.box (d := 1)); exact rfl; exact rfl; exact rfl; intro b1) | ((with_reducible apply At.alloc (d := 4)); exact rfl; exact rfl; intro b4) | (refine zsp ?_ ?_ <;> (intro hc; (try simp only [zhcs, reduceCtorEq] at hc); (try (exfalso; first | (first | omega | exact absurd rfl hc) | contradiction | omega | exact absurd rfl hc | exact absurd (by decide) hc))))))
    all_goals ((with_reducible apply At.retB1 (B := [])); exact rfl; exact rfl; exact zml; exact zkp; exact ⟨rfl, rfl, rfl⟩)
  refine Ct.enterV (by rfl) Try.func6 rfl Try.ntmps6 rfl (fun w0 Rest => ?_)
  (repeat' (first | refine zss ?_ | refine zsM ?_ | ((with_reducible apply At.box (d := 1)); exact rfl; exact rfl; exact rfl; intro b1) | ((with_reducible apply At.alloc (d := 4)); exact rfl; exact rfl; intro b4) | (refine zsp ?_ ?_ <;> (intro hc; (try simp only [zhcs, reduceCtorEq] at hc); (try (exfalso; first | (first | omega | exact absurd rfl hc) | contradiction | omega | exact absurd rfl hc | exact absurd (by decide) hc))))))
  (refine At.loopk (σ := Nat) [10, 11] (fun s F0 => (12, .int .i64 (s : Int)) :: F0) (fun s => m) (fun s => Rest) (fun s => s ≤ u.pl.l.length ∧ ∀ i, i < s → u.pl.l[i]!.sm) (fun s => u.pl.l.length - s) 0 (by rfl) ?_ zsubs zml zente ?_)
  · exact ⟨Nat.zero_le _, fun i hi => absurd hi (Nat.not_lt_zero i)⟩
  rintro s ⟨hs, hn⟩
  by_cases h : s < u.pl.l.length
  · have hx := hu.pk _ (Ls.mem! h)
    have k1 := fun (m' : Mem) (h : m.le m') => small15 u.pl.l[s]! (hx.mono h)
    unfold smI at k1
    by_cases e : u.pl.l[s]!.sm
    · have hnn : ∀ i, i < s + 1 → u.pl.l[i]!.sm := fun i hi => by
        by_cases e1 : i = s
        · subst e1; exact e
        · exact hn i (by omega)
      rw [if_pos e] at k1
      clear hn hx hu e
      (repeat' (first | refine zss ?_ | refine zsM ?_ | ((with_reducible first | apply AtM1.cr | apply AtQ.cr | apply At.cr); exact rfl; exact rfl; exact fun _ hmm => k1 _ hmm; exact ztk; kernel_rfl) | ((with_reducible apply At.box (d := 1)); exact rfl; exact rfl; exact rfl; intro b1) | ((with_reducible apply At.alloc (d := 4)); exact rfl; exact rfl; intro b4) | (refine zsp ?_ ?_ <;> (intro hc; (try simp only [zhcs, reduceCtorEq] at hc); (try (exfalso; first | (first | omega | exact absurd rfl hc) | contradiction | omega | exact absurd rfl hc | exact absurd (by decide) hc))))))
      all_goals ((with_reducible refine At.reachk ((s + 1)) ?_ ?_ ?_ ?_); exact zsubs; exact zml; exact zente; exact ⟨⟨h, hnn⟩, by omega⟩)
    · rw [if_neg (fun g => e (g.2 _ (Ls.mem! h)))]
      rw [if_neg e] at k1
      clear hn hx hu e
      (repeat' (first | refine zss ?_ | refine zsM ?_ | ((with_reducible first | apply AtM1.cr | apply AtQ.cr | apply At.cr); exact rfl; exact rfl; exact fun _ hmm => k1 _ hmm; exact ztk; kernel_rfl) | ((with_reducible apply At.box (d := 1)); exact rfl; exact rfl; exact rfl; intro b1) | ((with_reducible apply At.alloc (d := 4)); exact rfl; exact rfl; intro b4) | (refine zsp ?_ ?_ <;> (intro hc; (try simp only [zhcs, reduceCtorEq] at hc); (try (exfalso; first | (first | omega | exact absurd rfl hc) | contradiction | omega | exact absurd rfl hc | exact absurd (by decide) hc))))))
      all_goals ((with_reducible apply At.retB1 (B := [])); exact rfl; exact rfl; exact zml; exact zkp; exact ⟨rfl, rfl, rfl⟩)
  · rw [if_pos ⟨h0, fun x hx => by
      obtain ⟨i, hi, e⟩ := List.mem_iff_getElem.1 hx
      have := hn i (by omega)
      rwa [getElem!_pos u.pl.l i hi, e] at this⟩]
    clear hn hu
    (repeat' (first | refine zss ?_ | refine zsM ?_ | ((with_reducible apply At.box (d := 1)); exact rfl; exact rfl; exact rfl; intro b1) | ((with_reducible apply At.alloc (d := 4)); exact rfl; exact rfl; intro b4) | (refine zsp ?_ ?_ <;> (intro hc; (try simp only [zhcs, reduceCtorEq] at hc); (try (exfalso; first | (first | omega | exact absurd rfl hc) | contradiction | omega | exact absurd rfl hc | exact absurd (by decide) hc))))))
    all_goals ((with_reducible apply At.retB1 (B := [])); exact rfl; exact rfl; exact zml; exact zkp; exact ⟨rfl, rfl, rfl⟩)
def lvs (u : Sta) (n : Nat) : List Int := ((List.range n).filter fun i => liv u u.pl.l[i]!).map Int.ofNat
theorem lvs_succ (u : Sta) (n : Nat) : lvs u (n + 1) = if liv u u.pl.l[n]! then lvs u n ++ [(n : Int)] else lvs u n := by
  unfold lvs
  rw [List.range_succ, List.filter_append]
  by_cases h : liv u u.pl.l[n]! = true
  · rw [if_pos h, List.filter_cons_of_pos (p := fun i => liv u u.pl.l[i]!) h, List.filter_nil, List.map_append]
    rfl
  · rw [if_neg h, List.filter_cons_of_neg (p := fun i => liv u u.pl.l[i]!) h, List.filter_nil, List.append_nil]
theorem lvs_len (u : Sta) (n : Nat) : (lvs u n).length ≤ n := by
  unfold lvs
  rw [List.length_map]
  exact Nat.le_trans (List.length_filter_le _ _) (by simp)
structure LS where
  (i : Nat) (p : Option Addr) (c : Nat)
theorem live {m : Mem} (u : Sta) (hs : u.Ok m) : Ct Try.prog 32 #[u.v] m [] (fun v m' B => B = [] ∧ ∃ p c, v = .slice p (if whole u then lvs u u.pl.l.length else []).length c ∧ Sl m' Ls.fI 1 p c (if whole u then lvs u u.pl.l.length else [])) := by
  by_cases h0 : whole u
  rotate_left
  · have k0 := openN u h0
    rw [if_neg h0]
    refine Ct.enterV (by rfl) Try.func32 rfl Try.ntmps32 rfl (fun w0 Rest => ?_)
    (repeat' (first | refine zss ?_ | refine zs0 ?_ | ((with_reducible first | apply AtM1.callp | apply AtQ.callp | apply At.callp); kernel_rfl; exact rfl; exact rfl; exact k0) | ((with_reducible apply At.box (d := 1)); exact rfl; exact rfl; exact rfl; intro b1) | ((with_reducible apply At.alloc (d := 3)); exact rfl; exact rfl; intro b3) | (refine zsp ?_ ?_ <;> (intro hc; (try simp only [zhcs, reduceCtorEq] at hc); (try (exfalso; first | (first | omega | exact absurd rfl hc) | contradiction | omega | exact absurd rfl hc | exact absurd (by decide) hc))))))
    all_goals ((with_reducible apply At.retB1 (B := [])); exact rfl; exact rfl; exact zml; exact zkp; exact ⟨rfl, none, 0, rfl, Sl.empty _ inferInstance⟩)
  have k0 := openK u h0
  have np := hs.np
  rw [if_pos h0]
  clear h0
  refine Ct.enterV (by rfl) Try.func32 rfl Try.ntmps32 rfl (fun w0 Rest => ?_)
  (repeat' (first | refine zss ?_ | refine zs0 ?_ | ((with_reducible first | apply AtM1.callp | apply AtQ.callp | apply At.callp); kernel_rfl; exact rfl; exact rfl; exact k0) | ((with_reducible apply At.box (d := 1)); exact rfl; exact rfl; exact rfl; intro b1) | ((with_reducible apply At.alloc (d := 3)); exact rfl; exact rfl; intro b3) | (refine zsp ?_ ?_ <;> (intro hc; (try simp only [zhcs, reduceCtorEq] at hc); (try (exfalso; first | (first | omega | exact absurd rfl hc) | contradiction | omega | exact absurd rfl hc | exact absurd (by decide) hc))))))
  refine At.own_nil Ls.fI 1 3 ?_
  (refine At.loopk (σ := LS) [3, 17] (fun s F0 => (18, .int .i64 (s.i : Int)) :: (5, .slice s.p (lvs u s.i).length s.c) :: F0) (fun s => m) (fun s => .own Ls.fI 1 3 s.p s.c (lvs u s.i) :: vb b3 u :: Rest) (fun s => s.i ≤ u.pl.l.length) (fun s => u.pl.l.length - s.i) ⟨0, none, 0⟩ (by rfl) ?_ zsubs zml zente ?_)
  · exact Nat.zero_le _
  rintro ⟨i, p, c⟩ hi
  dsimp only at hi ⊢
  by_cases h : i < u.pl.l.length
  · have k1 := fun (m' : Mem) (h' : m.le m') => lives u i (hs.mono h') h
    have hst := lvs_succ u i
    have hl := lvs_len u i
    generalize liv u u.pl.l[i]! = e at k1 hst
    generalize lvs u i = L at hst hl ⊢
    clear hs k0
    cases e
    · rw [if_neg (by decide)] at hst
      (repeat' (first | refine zss ?_ | refine zsO ?_ | ((with_reducible first | apply AtM1.cr | apply AtQ.cr | apply At.cr); exact rfl; exact rfl; exact fun _ hmm => k1 _ hmm; exact ztk; kernel_rfl) | ((with_reducible apply At.box (d := 1)); exact rfl; exact rfl; exact rfl; intro b1) | ((with_reducible apply At.alloc (d := 3)); exact rfl; exact rfl; intro b3) | (refine zsp ?_ ?_ <;> (intro hc; (try simp only [zhcs, reduceCtorEq] at hc); (try (exfalso; first | (first | omega | exact absurd rfl hc) | contradiction | omega | exact absurd rfl hc | exact absurd (by decide) hc))))))
      all_goals rw [← hst]
      all_goals ((with_reducible refine At.reachk ((⟨i + 1, p, c⟩ : LS)) ?_ ?_ ?_ ?_); exact zsubs; exact zml; exact zente; exact ⟨h, by dsimp only; omega⟩)
    · rw [if_pos rfl] at hst
      (repeat' (first | refine zss ?_ | refine zsO ?_ | ((with_reducible first | apply AtM1.cr | apply AtQ.cr | apply At.cr); exact rfl; exact rfl; exact fun _ hmm => k1 _ hmm; exact ztk; kernel_rfl) | ((with_reducible apply At.litF Ls.fI [(i : Int)]); exact inferInstance; (iterate 7 exact rfl); intro b' m' hm' sl1; skip) | ((with_reducible apply At.apW (f := Ls.fI) (l := L)); exact rfl; exact rfl; exact (by repeat constructor); exact inferInstance; exact zrdl; (iterate 4 exact rfl); exact zom; exact rfl; intro p2 c2) | ((with_reducible apply At.box (d := 1)); exact rfl; exact rfl; exact rfl; intro b1) | ((with_reducible apply At.alloc (d := 3)); exact rfl; exact rfl; intro b3) | (refine zsp ?_ ?_ <;> (intro hc; (try simp only [zhcs, reduceCtorEq] at hc); (try (exfalso; first | (first | omega | exact absurd rfl hc) | contradiction | omega | exact absurd rfl hc | exact absurd (by decide) hc))))))
      all_goals rw [← hst]
      all_goals ((with_reducible refine At.reachk ((⟨i + 1, p2, c2⟩ : LS)) ?_ ?_ ?_ ?_); exact zsubs; exact zml; exact zente; exact ⟨h, by dsimp only; omega⟩)
  · have e : i = u.pl.l.length := by omega
    subst e
    generalize lvs u u.pl.l.length = L
    refine At.own_freeze inferInstance (by repeat constructor) fun m' hm' sl1 => ?_
    (repeat' (first | refine zss ?_ | refine zsO ?_ | ((with_reducible apply At.box (d := 1)); exact rfl; exact rfl; exact rfl; intro b1) | ((with_reducible apply At.alloc (d := 3)); exact rfl; exact rfl; intro b3) | (refine zsp ?_ ?_ <;> (intro hc; (try simp only [zhcs, reduceCtorEq] at hc); (try (exfalso; first | (first | omega | exact absurd rfl hc) | contradiction | omega | exact absurd rfl hc | exact absurd (by decide) hc))))))
    all_goals ((with_reducible apply At.retB1 (B := [])); exact rfl; exact rfl; exact zml; exact zkp; exact ⟨rfl, _, _, rfl, sl1⟩)
def many (u : Sta) : Nat := (if whole u then lvs u u.pl.l.length else []).length
theorem manyU {m : Mem} (u : Sta) (hs : u.Ok m) : Rd Try.prog 13 #[u.v] m [] (.int .i64 (many u : Int)) := by
  unfold Rd
  have k1 := fun (m' : Mem) (h : m.le m') => live u (hs.mono h)
  refine Ct.forget (R := fun v m' B => v = .int .i64 (many u : Int) ∧ B = []) ?_ (fun v m' B hm hr => ⟨hr.1, rfl, hr.2⟩)
  unfold many
  generalize (if whole u then lvs u u.pl.l.length else []) = L at k1 ⊢
  refine Ct.enterV (by rfl) Try.func13 rfl Try.ntmps13 rfl (fun w0 Rest => ?_)
  (repeat' (first | refine zss ?_ | refine zs0 ?_ | ((with_reducible first | apply At.c1 | apply At.c0); exact rfl; exact rfl; exact k1 _ (Mem.le_refl _); exact ztk; kernel_rfl; rintro v' m' B' hm' ⟨rfl, p', c', rfl, sl1⟩; (try replace sl1 := sl1.mono hm'); (try (have hq0 : hm' = Mem.le_refl _ := rfl; clear hq0 hm'))) | ((with_reducible apply At.box (d := 1)); exact rfl; exact rfl; exact rfl; intro b1) | (refine zsp ?_ ?_ <;> (intro hc; (try simp only [zhcs, reduceCtorEq] at hc); (try (exfalso; first | (first | omega | exact absurd rfl hc) | contradiction | omega | exact absurd rfl hc | exact absurd (by decide) hc))))))
  all_goals ((with_reducible apply At.retB1 (B := [])); exact rfl; exact rfl; exact zml; exact zkp; exact ⟨rfl, rfl⟩)
/-- a new state -/
theorem new {m : Mem} (k : Cfg) (n : Nat) (hk : k.ok) (hn : (n : Int) = k.c) (hz : Conf.szv k.r k.x k.y k.w k.c k.g ≤ 16777216) :
    Ct Try.prog 14 #[k.v] m [] (fun v m' B => B = [] ∧ ∃ p c, v = .tuple #[(⟨k, 0, -1, ⟨p, c, List.replicate n Ser.z⟩⟩ : Sta).v, .int .i64 0] ∧ Sl m' Ser.cells 23 p c (List.replicate n Ser.z)) := by
  have k1 := Conf.sizeF hk
  rw [if_neg (by omega)] at k1
  have hc0 := hk.hc
  clear hk hz
  generalize Conf.szv k.r k.x k.y k.w k.c k.g = z at k1
  refine Ct.enterV (by rfl) Try.func14 rfl Try.ntmps14 rfl (fun w0 Rest => ?_)
  (repeat' (first | ((with_reducible apply At.mixed (id := 4) 7 (.q 0 (.q 1 (.q 2 (.l 3 (.q 4 (.x 5 (.q 6 .done)))))))); exact rfl; kernel_rfl; kernel_rfl; kernel_rfl) | refine zsx ?_ | refine zss ?_ | ((with_reducible apply AtM.bo); exact rfl; exact rfl; exact rfl) | refine zsO ?_ | refine zxO ?_ | ((with_reducible first | apply AtM1.callp | apply AtQ.callp | apply At.callp); kernel_rfl; exact rfl; exact rfl; exact k1) | ((with_reducible apply At.makeN (f := Ser.cells) (cp := n) (Ser.z)); exact inferInstance; (iterate 4 exact rfl); exact hn.symm; exact hn.symm; exact rfl; exact zom; exact rfl; intro bm) | ((with_reducible apply At.box (d := 1)); exact rfl; exact rfl; exact rfl; intro b1) | ((with_reducible apply At.alloc (d := 2)); exact rfl; exact rfl; intro b2) | (refine zsp ?_ ?_ <;> (intro hc; (try simp only [zhcs, reduceCtorEq] at hc); (try (exfalso; first | (first | omega | exact absurd rfl hc) | contradiction | omega | exact absurd rfl hc | exact absurd (by decide) hc))))))
  all_goals refine At.own_freeze inferInstance (by repeat constructor) fun m' hm' sl1 => ?_
  all_goals
    obtain ⟨L, hL⟩ : ∃ L, L = List.replicate n Ser.z := ⟨_, rfl⟩
    have e : n = L.length := by rw [hL, List.length_replicate]
    rw [← hL] at sl1 ⊢
    clear hL
    subst e
    ((with_reducible apply At.retV (B := [])); exact rfl; (repeat' (first | exact RVs.nil | (with_reducible apply RVs.cons) | exact rv_tmp (by rfl) | exact rv_cellN (by rfl) (by repeat constructor) (by rfl) (by rfl) (by rfl) | exact rv_cell1 (by rfl) (by repeat constructor) (by rfl) (by rfl))); exact zml; exact zkp; exact ⟨rfl, some ⟨bm, 0, none⟩, L.length, rfl, sl1⟩)
end St
end Go.Proofs.Ytmjoncbnlaoggaa
/- Rules: what may be written, and where. -/
set_option linter.unusedSimpArgs false
set_option linter.unusedVariables false
set_option linter.unusedSectionVars false
set_option maxRecDepth 20000
set_option maxHeartbeats 4000000
namespace Go.Proofs.Ytmjoncbnlaoggaa
open Go Go.J
attribute [local irreducible] At AtQ AtM AtM1 PR Ct Pu Rd Res.blk Res.own Res.ex RVs RV
namespace Ru
open Se Win St
theorem fstO_spec {n k : Nat} {q : Nat → Bool} (h : fstO n q = some k) : k < n ∧ q k = true ∧ ∀ j, j < k → q j = false := by
  unfold fstO at h
  rw [List.find?_range_eq_some] at h
  exact ⟨List.mem_range.1 h.2.1, h.1, fun j hj => by have := h.2.2 j hj; simpa using this⟩
theorem fstO_none {n : Nat} {q : Nat → Bool} (h : fstO n q = none) (i : Nat) (hi : i < n) : q i = false := by
  unfold fstO at h
  rw [List.find?_eq_none] at h
  have := h i (List.mem_range.2 hi)
  simpa using this
def toB (u : Sta) : Int := min (mk u + u.k.a) 35184372088832
def opA (u : Sta) : Int := if okU u then mk u else 0
def opB (u : Sta) : Int := if okU u then toB u else 0
theorem open_ {m : Mem} (u : Sta) (hs : u.Ok m) : Rd Try.prog 28 #[u.v] m [] (.tuple #[.int .i64 (opA u), .int .i64 (opB u)]) := by
  unfold Rd
  have k0 := fun (m' : Mem) (h : m.le m') => check u (hs.mono h)
  have k1 := fun (m' : Mem) => markU (m := m') u
  unfold chk at k0
  unfold opA opB
  clear hs
  by_cases h0 : okU u
  rotate_left
  · rw [if_neg h0] at k0
    rw [if_neg h0, if_neg h0]
    refine Ct.enterV (by rfl) Try.func28 rfl Try.ntmps28 rfl (fun w0 Rest => ?_)
    (repeat' (first | refine zss ?_ | refine zs0 ?_ | ((with_reducible first | apply AtM1.cr | apply AtQ.cr | apply At.cr); exact rfl; exact rfl; exact fun _ hmm => k0 _ hmm; exact ztk; kernel_rfl) | ((with_reducible apply At.box (d := 1)); exact rfl; exact rfl; exact rfl; intro b1) | (refine zsp ?_ ?_ <;> (intro hc; (try simp only [zhcs, reduceCtorEq] at hc); (try (exfalso; first | (first | omega | exact absurd rfl hc | exact absurd hc (by decide)) | contradiction | omega | exact absurd rfl hc | exact absurd (by decide) hc))))))
    all_goals ((with_reducible apply At.retV (B := [])); exact rfl; (repeat' (first | exact RVs.nil | (with_reducible apply RVs.cons) | exact rv_tmp (by rfl) | exact rv_cellN (by rfl) (by repeat constructor) (by rfl) (by rfl) (by rfl) | exact rv_cell1 (by rfl) (by repeat constructor) (by rfl) (by rfl))); exact zml; exact zkp; exact ⟨rfl, rfl, rfl⟩)
  rw [if_pos h0] at k0
  rw [if_pos h0, if_pos h0]
  have hb := mk_bd h0.1.1 h0.2.1.1
  have ht : tm u.now := h0.2.1.1
  have ha := h0.1.1.ha
  have hm : mkU u = mk u := if_pos ⟨h0.1, h0.2.1.1⟩
  rw [hm] at k1
  unfold tm at ht
  unfold toB
  clear h0 hm
  refine Ct.enterV (by rfl) Try.func28 rfl Try.ntmps28 rfl (fun w0 Rest => ?_)
  (repeat' (first | refine zss ?_ | ((first | (with_reducible first | apply At.val | apply AtQ.val)); (first | exact pr_minI (by rfl) (by rfl) | exact pr_indexArr (k := 0) (by rfl) (by rfl) (by rfl) (by rfl) (by decide)); exact rfl) | refine zs0 ?_ | ((with_reducible first | apply AtM1.cr | apply AtQ.cr | apply At.cr); exact rfl; exact rfl; exact fun _ hmm => k0 _ hmm; exact ztk; kernel_rfl) | ((with_reducible first | apply AtM1.cr | apply AtQ.cr | apply At.cr); exact rfl; exact rfl; exact fun _ hmm => k1 _; exact ztk; kernel_rfl) | ((with_reducible apply At.box (d := 1)); exact rfl; exact rfl; exact rfl; intro b1) | (refine zsp ?_ ?_ <;> (intro hc; (try simp only [zhcs, reduceCtorEq] at hc); (try (exfalso; first | (first | omega | exact absurd rfl hc | exact absurd hc (by decide)) | contradiction | omega | exact absurd rfl hc | exact absurd (by decide) hc))))))
  all_goals ((with_reducible apply At.retV (B := [])); exact rfl; (repeat' (first | exact RVs.nil | (with_reducible apply RVs.cons) | exact rv_tmp (by rfl) | exact rv_cellN (by rfl) (by repeat constructor) (by rfl) (by rfl) (by rfl) | exact rv_cell1 (by rfl) (by repeat constructor) (by rfl) (by rfl))); exact zml; exact zkp; exact ⟨rfl, rfl, rfl⟩)
/-- whether, and where, an event may be written: the place, whether it is a new series', and why not -/
def whr (u : Sta) (l : List Lab) (e : Ev) : Int × Bool × Int :=
  if ¬ okU u then (0, false, 2) else if ¬ Lb.right l then (0, false, 8) else if ¬ e.ok then (0, false, 2)
  else if e.T < mk u ∨ toB u ≤ e.T then (0, false, 9)
  else match fstO u.pl.l.length (fnd u l) with
    | some i => if e.T ≤ u.pl.l[i]!.last then (0, false, 9) else ((i : Int), false, 0)
    | none => if e.S then (0, false, 3) else match fstO u.pl.l.length (roo u) with
      | some i => ((i : Int), true, 0)
      | none => (0, false, 7)
abbrev whv (w : Int × Bool × Int) : Value := .tuple #[.int .i64 w.1, .bool w.2.1, .int .i64 w.2.2]
theorem where_ {m : Mem} (u : Sta) (l : Lst Lab) (e : Ev) (hs : u.Ok m) (hl : l.l.length ≤ 1000000000) (hm : Lb.Mid l.l) (sl1 : Sl m Lb.cells 2 l.p l.c l.l) :
    Rd Try.prog 10 #[u.v, l.v, e.v] m [] (whv (whr u l.l e)) := by
  unfold Rd
  have sl0 := hs.sl
  have np := hs.np
  have k0 := fun (m' : Mem) (h : m.le m') => check u (hs.mono h)
  have k1 := fun (m' : Mem) (h : m.le m') => Lb.check l.p l.c l.l hm (sl1.mono h)
  have k2 := Ev.check e
  have k3 := fun (m' : Mem) (h : m.le m') => open_ u (hs.mono h)
  have k4 := fun (m' : Mem) (h : m.le m') => find u l (hs.mono h) hl (sl1.mono h)
  have k5 := fun (m' : Mem) (h : m.le m') => room u (hs.mono h)
  unfold chk at k0
  unfold Lb.chk at k1
  unfold Ev.chk at k2
  unfold opA opB at k3
  unfold sel at k4 k5
  unfold whr
  clear hs hm
  by_cases h0 : okU u
  rotate_left
  · rw [if_neg h0] at k0
    rw [if_pos h0]
    refine Ct.enterV (by rfl) Try.func10 rfl Try.ntmps10 rfl (fun w0 Rest => ?_)
    (repeat' (first | refine zss ?_ | refine zs0 ?_ | ((with_reducible first | apply AtM1.cr | apply AtQ.cr | apply At.cr); exact rfl; exact rfl; exact fun _ hmm => k0 _ hmm; exact ztk; kernel_rfl) | ((with_reducible apply At.box (d := 3)); exact rfl; exact rfl; exact rfl; intro b3) | ((with_reducible apply At.box (d := 5)); exact rfl; exact rfl; exact rfl; intro b5) | (refine zsp ?_ ?_ <;> (intro hc; (try simp only [zhcs, reduceCtorEq] at hc); (try (exfalso; first | (first | omega | exact absurd rfl hc | exact absurd hc (by decide)) | contradiction | omega | exact absurd rfl hc | exact absurd (by decide) hc))))))
    all_goals ((with_reducible apply At.retV (B := [])); exact rfl; (repeat' (first | exact RVs.nil | (with_reducible apply RVs.cons) | exact rv_tmp (by rfl) | exact rv_cellN (by rfl) (by repeat constructor) (by rfl) (by rfl) (by rfl) | exact rv_cell1 (by rfl) (by repeat constructor) (by rfl) (by rfl))); exact zml; exact zkp; exact ⟨rfl, rfl, rfl⟩)
  rw [if_pos h0] at k0
  rw [if_pos h0, if_pos h0] at k3
  rw [if_pos h0.1] at k4 k5
  rw [if_neg (not_not_intro h0)]
  by_cases h1 : Lb.right l.l
  rotate_left
  · rw [if_neg h1] at k1
    rw [if_pos h1]
    clear h0
    refine Ct.enterV (by rfl) Try.func10 rfl Try.ntmps10 rfl (fun w0 Rest => ?_)
    (repeat' (first | refine zss ?_ | refine zs0 ?_ | ((with_reducible first | apply AtM1.cr | apply AtQ.cr | apply At.cr); exact rfl; exact rfl; exact fun _ hmm => k0 _ hmm; exact ztk; kernel_rfl) | ((with_reducible first | apply AtM1.cr | apply AtQ.cr | apply At.cr); exact rfl; exact rfl; exact fun _ hmm => k1 _ hmm; exact ztk; kernel_rfl) | ((with_reducible apply At.box (d := 3)); exact rfl; exact rfl; exact rfl; intro b3) | ((with_reducible apply At.box (d := 5)); exact rfl; exact rfl; exact rfl; intro b5) | (refine zsp ?_ ?_ <;> (intro hc; (try simp only [zhcs, reduceCtorEq] at hc); (try (exfalso; first | (first | omega | exact absurd rfl hc | exact absurd hc (by decide)) | contradiction | omega | exact absurd rfl hc | exact absurd (by decide) hc))))))
    all_goals ((with_reducible apply At.retV (B := [])); exact rfl; (repeat' (first | exact RVs.nil | (with_reducible apply RVs.cons) | exact rv_tmp (by rfl) | exact rv_cellN (by rfl) (by repeat constructor) (by rfl) (by rfl) (by rfl) | exact rv_cell1 (by rfl) (by repeat constructor) (by rfl) (by rfl))); exact zml; exact zkp; exact ⟨rfl, rfl, rfl⟩)
  rw [if_pos h1] at k1
  rw [if_neg (not_not_intro h1)]
  by_cases h2 : e.ok
  rotate_left
  · rw [if_neg h2] at k2
    rw [if_pos h2]
    clear h0 h1
    refine Ct.enterV (by rfl) Try.func10 rfl Try.ntmps10 rfl (fun w0 Rest => ?_)
    (repeat' (first | refine zss ?_ | refine zs0 ?_ | ((with_reducible first | apply AtM1.cr | apply AtQ.cr | apply At.cr); exact rfl; exact rfl; exact fun _ hmm => k0 _ hmm; exact ztk; kernel_rfl) | ((with_reducible first | apply AtM1.cr | apply AtQ.cr | apply At.cr); exact rfl; exact rfl; exact fun _ hmm => k1 _ hmm; exact ztk; kernel_rfl) | ((with_reducible first | apply AtM1.callp | apply AtQ.callp | apply At.callp); kernel_rfl; exact rfl; exact rfl; exact k2) | ((with_reducible apply At.box (d := 3)); exact rfl; exact rfl; exact rfl; intro b3) | ((with_reducible apply At.box (d := 5)); exact rfl; exact rfl; exact rfl; intro b5) | (refine zsp ?_ ?_ <;> (intro hc; (try simp only [zhcs, reduceCtorEq] at hc); (try (exfalso; first | (first | omega | exact absurd rfl hc | exact absurd hc (by decide)) | contradiction | omega | exact absurd rfl hc | exact absurd (by decide) hc))))))
    all_goals ((with_reducible apply At.retV (B := [])); exact rfl; (repeat' (first | exact RVs.nil | (with_reducible apply RVs.cons) | exact rv_tmp (by rfl) | exact rv_cellN (by rfl) (by repeat constructor) (by rfl) (by rfl) (by rfl) | exact rv_cell1 (by rfl) (by repeat constructor) (by rfl) (by rfl))); exact zml; exact zkp; exact ⟨rfl, rfl, rfl⟩)
  rw [if_pos h2] at k2
  rw [if_neg (not_not_intro h2)]
  clear h0 h1 h2
  generalize toB u = tb at k3 ⊢
  generalize mk u = ta at k3 ⊢
  by_cases h3 : e.T < ta ∨ tb ≤ e.T
  · rw [if_pos h3]
    generalize (match fstO u.pl.l.length (fnd u l.l) with | some k => ((k : Int), (0 : Int)) | none => (0, 3)) = fv at k4
    clear k5
    refine Ct.enterV (by rfl) Try.func10 rfl Try.ntmps10 rfl (fun w0 Rest => ?_)
    (repeat' (first | refine zss ?_ | refine zs0 ?_ | ((with_reducible first | apply AtM1.cr | apply AtQ.cr | apply At.cr); exact rfl; exact rfl; exact fun _ hmm => k0 _ hmm; exact ztk; kernel_rfl) | ((with_reducible first | apply AtM1.cr | apply AtQ.cr | apply At.cr); exact rfl; exact rfl; exact fun _ hmm => k1 _ hmm; exact ztk; kernel_rfl) | ((with_reducible first | apply AtM1.callp | apply AtQ.callp | apply At.callp); kernel_rfl; exact rfl; exact rfl; exact k2) | ((with_reducible first | apply AtM1.cr | apply AtQ.cr | apply At.cr); exact rfl; exact rfl; exact fun _ hmm => k3 _ hmm; exact ztk; kernel_rfl) | ((with_reducible first | apply AtM1.cr | apply AtQ.cr | apply At.cr); exact rfl; exact rfl; exact fun _ hmm => k4 _ hmm; exact ztk; kernel_rfl) | ((with_reducible apply At.box (d := 3)); exact rfl; exact rfl; exact rfl; intro b3) | ((with_reducible apply At.box (d := 5)); exact rfl; exact rfl; exact rfl; intro b5) | (refine zsp ?_ ?_ <;> (intro hc; (try simp only [zhcs, reduceCtorEq] at hc); (try (exfalso; first | (first | omega | exact absurd rfl hc | exact absurd hc (by decide)) | contradiction | omega | exact absurd rfl hc | exact absurd (by decide) hc))))))
    all_goals ((with_reducible apply At.retV (B := [])); exact rfl; (repeat' (first | exact RVs.nil | (with_reducible apply RVs.cons) | exact rv_tmp (by rfl) | exact rv_cellN (by rfl) (by repeat constructor) (by rfl) (by rfl) (by rfl) | exact rv_cell1 (by rfl) (by repeat constructor) (by rfl) (by rfl))); exact zml; exact zkp; exact ⟨rfl, rfl, rfl⟩)
  rw [if_neg h3]
  cases hf : fstO u.pl.l.length (fnd u l.l) with
  | some i =>
    obtain ⟨hi, -, -⟩ := fstO_spec hf
    rw [hf] at k4
    dsimp only at k4 ⊢
    clear hf k5
    by_cases h4 : e.T ≤ u.pl.l[i]!.last
    · rw [if_pos h4]
      refine Ct.enterV (by rfl) Try.func10 rfl Try.ntmps10 rfl (fun w0 Rest => ?_)
      (repeat' (first | refine zss ?_ | refine zsM ?_ | ((with_reducible first | apply AtM1.cr | apply AtQ.cr | apply At.cr); exact rfl; exact rfl; exact fun _ hmm => k0 _ hmm; exact ztk; kernel_rfl) | ((with_reducible first | apply AtM1.cr | apply AtQ.cr | apply At.cr); exact rfl; exact rfl; exact fun _ hmm => k1 _ hmm; exact ztk; kernel_rfl) | ((with_reducible first | apply AtM1.callp | apply AtQ.callp | apply At.callp); kernel_rfl; exact rfl; exact rfl; exact k2) | ((with_reducible first | apply AtM1.cr | apply AtQ.cr | apply At.cr); exact rfl; exact rfl; exact fun _ hmm => k3 _ hmm; exact ztk; kernel_rfl) | ((with_reducible first | apply AtM1.cr | apply AtQ.cr | apply At.cr); exact rfl; exact rfl; exact fun _ hmm => k4 _ hmm; exact ztk; kernel_rfl) | ((with_reducible apply At.box (d := 3)); exact rfl; exact rfl; exact rfl; intro b3) | ((with_reducible apply At.box (d := 5)); exact rfl; exact rfl; exact rfl; intro b5) | (refine zsp ?_ ?_ <;> (intro hc; (try simp only [zhcs, reduceCtorEq] at hc); (try (exfalso; first | (first | omega | exact absurd rfl hc | exact absurd hc (by decide)) | contradiction | omega | exact absurd rfl hc | exact absurd (by decide) hc))))))
      all_goals ((with_reducible apply At.retV (B := [])); exact rfl; (repeat' (first | exact RVs.nil | (with_reducible apply RVs.cons) | exact rv_tmp (by rfl) | exact rv_cellN (by rfl) (by repeat constructor) (by rfl) (by rfl) (by rfl) | exact rv_cell1 (by rfl) (by repeat constructor) (by rfl) (by rfl))); exact zml; exact zkp; exact ⟨rfl, rfl, rfl⟩)
    · rw [if_neg h4]
      refine Ct.enterV (by rfl) Try.func10 rfl Try.ntmps10 rfl (fun w0 Rest => ?_)
      (repeat' (first | refine zss ?_ | refine zsM ?_ | ((with_reducible first | apply AtM1.cr | apply AtQ.cr | apply At.cr); exact rfl; exact rfl; exact fun _ hmm => k0 _ hmm; exact ztk; kernel_rfl) | ((with_reducible first | apply AtM1.cr | apply AtQ.cr | apply At.cr); exact rfl; exact rfl; exact fun _ hmm => k1 _ hmm; exact ztk; kernel_rfl) | ((with_reducible first | apply AtM1.callp | apply AtQ.callp | apply At.callp); kernel_rfl; exact rfl; exact rfl; exact k2) | ((with_reducible first | apply AtM1.cr | apply AtQ.cr | apply At.cr); exact rfl; exact rfl; exact fun _ hmm => k3 _ hmm; exact ztk; kernel_rfl) | ((with_reducible first | apply AtM1.cr | apply AtQ.cr | apply At.cr); exact rfl; exact rfl; exact fun _ hmm => k4 _ hmm; exact ztk; kernel_rfl) | ((with_reducible apply At.box (d := 3)); exact rfl; exact rfl; exact rfl; intro b3) | ((with_reducible apply At.box (d := 5)); exact rfl; exact rfl; exact rfl; intro b5) | (refine zsp ?_ ?_ <;> (intro hc; (try simp only [zhcs, reduceCtorEq] at hc); (try (exfalso; first | (first | omega | exact absurd rfl hc | exact absurd hc (by decide)) | contradiction | omega | exact absurd rfl hc | exact absurd (by decide) hc))))))
      all_goals ((with_reducible apply At.retV (B := [])); exact rfl; (repeat' (first | exact RVs.nil | (with_reducible apply RVs.cons) | exact rv_tmp (by rfl) | exact rv_cellN (by rfl) (by repeat constructor) (by rfl) (by rfl) (by rfl) | exact rv_cell1 (by rfl) (by repeat constructor) (by rfl) (by rfl))); exact zml; exact zkp; exact ⟨rfl, rfl, rfl⟩)
  | none =>
    rw [hf] at k4
    dsimp only at k4 ⊢
    clear hf
    cases hst : e.S
    rotate_left
    · rw [if_pos rfl]
      clear k5
      refine Ct.enterV (by rfl) Try.func10 rfl Try.ntmps10 rfl (fun w0 Rest => ?_)
      (repeat' (first | refine zss ?_ | refine zsM ?_ | ((with_reducible first | apply AtM1.cr | apply AtQ.cr | apply At.cr); exact rfl; exact rfl; exact fun _ hmm => k0 _ hmm; exact ztk; kernel_rfl) | ((with_reducible first | apply AtM1.cr | apply AtQ.cr | apply At.cr); exact rfl; exact rfl; exact fun _ hmm => k1 _ hmm; exact ztk; kernel_rfl) | ((with_reducible first | apply AtM1.callp | apply AtQ.callp | apply At.callp); kernel_rfl; exact rfl; exact rfl; exact k2) | ((with_reducible first | apply AtM1.cr | apply AtQ.cr | apply At.cr); exact rfl; exact rfl; exact fun _ hmm => k3 _ hmm; exact ztk; kernel_rfl) | ((with_reducible first | apply AtM1.cr | apply AtQ.cr | apply At.cr); exact rfl; exact rfl; exact fun _ hmm => k4 _ hmm; exact ztk; kernel_rfl) | ((with_reducible apply At.box (d := 3)); exact rfl; exact rfl; exact rfl; intro b3) | ((with_reducible apply At.box (d := 5)); exact rfl; exact rfl; exact rfl; intro b5) | (refine zsp ?_ ?_ <;> (intro hc; (try simp only [zhcs, reduceCtorEq] at hc); (try (exfalso; first | (first | omega | exact absurd rfl hc | exact absurd hc (by decide) | exact absurd hst hc | (rw [hst] at hc; exact absurd hc (by decide))) | contradiction | omega | exact absurd rfl hc | exact absurd (by decide) hc))))))
      all_goals ((with_reducible apply At.retV (B := [])); exact rfl; (repeat' (first | exact RVs.nil | (with_reducible apply RVs.cons) | exact rv_tmp (by rfl) | exact rv_cellN (by rfl) (by repeat constructor) (by rfl) (by rfl) (by rfl) | exact rv_cell1 (by rfl) (by repeat constructor) (by rfl) (by rfl))); exact zml; exact zkp; exact ⟨rfl, rfl, rfl⟩)
    rw [if_neg (by decide)]
    cases hr : fstO u.pl.l.length (roo u) with
    | some i =>
      rw [hr] at k5
      dsimp only at k5 ⊢
      clear hr
      refine Ct.enterV (by rfl) Try.func10 rfl Try.ntmps10 rfl (fun w0 Rest => ?_)
      (repeat' (first | refine zss ?_ | refine zsM ?_ | ((with_reducible first | apply AtM1.cr | apply AtQ.cr | apply At.cr); exact rfl; exact rfl; exact fun _ hmm => k0 _ hmm; exact ztk; kernel_rfl) | ((with_reducible first | apply AtM1.cr | apply AtQ.cr | apply At.cr); exact rfl; exact rfl; exact fun _ hmm => k1 _ hmm; exact ztk; kernel_rfl) | ((with_reducible first | apply AtM1.callp | apply AtQ.callp | apply At.callp); kernel_rfl; exact rfl; exact rfl; exact k2) | ((with_reducible first | apply AtM1.cr | apply AtQ.cr | apply At.cr); exact rfl; exact rfl; exact fun _ hmm => k3 _ hmm; exact ztk; kernel_rfl) | ((with_reducible first | apply AtM1.cr | apply AtQ.cr | apply At.cr); exact rfl; exact rfl; exact fun _ hmm => k4 _ hmm; exact ztk; kernel_rfl) | ((with_reducible first | apply AtM1.cr | apply AtQ.cr | apply At.cr); exact rfl; exact rfl; exact fun _ hmm => k5 _ hmm; exact ztk; kernel_rfl) | ((with_reducible apply At.box (d := 3)); exact rfl; exact rfl; exact rfl; intro b3) | ((with_reducible apply At.box (d := 5)); exact rfl; exact rfl; exact rfl; intro b5) | (refine zsp ?_ ?_ <;> (intro hc; (try simp only [zhcs, reduceCtorEq] at hc); (try (exfalso; first | (first | omega | exact absurd rfl hc | exact absurd hc (by decide) | (rw [hst] at hc; exact absurd hc (by decide))) | contradiction | omega | exact absurd rfl hc | exact absurd (by decide) hc))))))
      all_goals ((with_reducible apply At.retV (B := [])); exact rfl; (repeat' (first | exact RVs.nil | (with_reducible apply RVs.cons) | exact rv_tmp (by rfl) | exact rv_cellN (by rfl) (by repeat constructor) (by rfl) (by rfl) (by rfl) | exact rv_cell1 (by rfl) (by repeat constructor) (by rfl) (by rfl))); exact zml; exact zkp; exact ⟨rfl, rfl, rfl⟩)
    | none =>
      rw [hr] at k5
      dsimp only at k5 ⊢
      clear hr
      refine Ct.enterV (by rfl) Try.func10 rfl Try.ntmps10 rfl (fun w0 Rest => ?_)
      (repeat' (first | refine zss ?_ | refine zsM ?_ | ((with_reducible first | apply AtM1.cr | apply AtQ.cr | apply At.cr); exact rfl; exact rfl; exact fun _ hmm => k0 _ hmm; exact ztk; kernel_rfl) | ((with_reducible first | apply AtM1.cr | apply AtQ.cr | apply At.cr); exact rfl; exact rfl; exact fun _ hmm => k1 _ hmm; exact ztk; kernel_rfl) | ((with_reducible first | apply AtM1.callp | apply AtQ.callp | apply At.callp); kernel_rfl; exact rfl; exact rfl; exact k2) | ((with_reducible first | apply AtM1.cr | apply AtQ.cr | apply At.cr); exact rfl; exact rfl; exact fun _ hmm => k3 _ hmm; exact ztk; kernel_rfl) | ((with_reducible first | apply AtM1.cr | apply AtQ.cr | apply At.cr); exact rfl; exact rfl; exact fun _ hmm => k4 _ hmm; exact ztk; kernel_rfl) | ((with_reducible first | apply AtM1.cr | apply AtQ.cr | apply At.cr); exact rfl; exact rfl; exact fun _ hmm => k5 _ hmm; exact ztk; kernel_rfl) | ((with_reducible apply At.box (d := 3)); exact rfl; exact rfl; exact rfl; intro b3) | ((with_reducible apply At.box (d := 5)); exact rfl; exact rfl; exact rfl; intro b5) | (refine zsp ?_ ?_ <;> (intro hc; (try simp only [zhcs, reduceCtorEq] at hc); (try (exfalso; first | (first | omega | exact absurd rfl hc | exact absurd hc (by decide) | (rw [hst] at hc; exact absurd hc (by decide))) | contradiction | omega | exact absurd rfl hc | exact absurd (by decide) hc))))))
      all_goals ((with_reducible apply At.retV (B := [])); exact rfl; (repeat' (first | exact RVs.nil | (with_reducible apply RVs.cons) | exact rv_tmp (by rfl) | exact rv_cellN (by rfl) (by repeat constructor) (by rfl) (by rfl) (by rfl) | exact rv_cell1 (by rfl) (by repeat constructor) (by rfl) (by rfl))); exact zml; exact zkp; exact ⟨rfl, rfl, rfl⟩)
theorem accept {m : Mem} (u : Sta) (l : Lst Lab) (e : Ev) (hs : u.Ok m) (hl : l.l.length ≤ 1000000000) (hm : Lb.Mid l.l) (sl1 : Sl m Lb.cells 2 l.p l.c l.l) :
    Rd Try.prog 16 #[u.v, l.v, e.v] m [] (.int .i64 (whr u l.l e).2.2) := by
  unfold Rd
  have k0 := fun (m' : Mem) (h : m.le m') => where_ u l e (hs.mono h) hl hm (sl1.mono h)
  generalize whr u l.l e = w at k0 ⊢
  refine Ct.enterV (by rfl) Try.func16 rfl Try.ntmps16 rfl (fun w0 Rest => ?_)
  (repeat' (first | refine zss ?_ | refine zs0 ?_ | ((with_reducible first | apply AtM1.cr | apply AtQ.cr | apply At.cr); exact rfl; exact rfl; exact fun _ hmm => k0 _ hmm; exact ztk; kernel_rfl) | ((with_reducible apply At.box (d := 3)); exact rfl; exact rfl; exact rfl; intro b3) | ((with_reducible apply At.box (d := 5)); exact rfl; exact rfl; exact rfl; intro b5) | (refine zsp ?_ ?_ <;> (intro hc; (try simp only [zhcs, reduceCtorEq] at hc); (try (exfalso; first | contradiction | omega | exact absurd rfl hc | exact absurd (by decide) hc))))))
  all_goals ((with_reducible apply At.retB1 (B := [])); exact rfl; exact rfl; exact zml; exact zkp; exact ⟨rfl, rfl, rfl⟩)
end Ru
end Go.Proofs.Ytmjoncbnlaoggaa
/- How cells merge, as the program and the document tell it. -/
set_option linter.unusedSimpArgs false
set_option linter.unusedVariables false
set_option linter.unusedSectionVars false
set_option maxRecDepth 20000
set_option maxHeartbeats 4000000
namespace Go.Proofs.Ytmjoncbnlaoggaa
open Go Go.J
attribute [local irreducible] At AtQ AtM AtM1 PR Ct Pu Rd Res.blk Res.own Res.ex RVs RV
namespace Cell
open Ev Wide
def In (c : Cell) : Prop := (-9223372036854775808 ≤ c.n ∧ c.n ≤ 9223372036854775807) ∧ c.F.V < 18446744073709551616 ∧ c.L.V < 18446744073709551616 ∧ c.I < 340282366920938463463374607431768211456
theorem In.fits {c : Cell} (h : In c) : Fits c := ⟨h.2.1, h.2.2.1⟩
theorem z_in : In z := by unfold In; decide
theorem Full.bd {c : Cell} (h : Full c) : c.n ≤ 35184372088833 ∧ c.I ≤ 649037107316853434412140771606528 ∧ c.R ≤ 35184372088833 ∧ c.G ≤ 35184372088833 ∧ c.X ≤ 35184372088833 := by
  have ⟨p1, p2, _⟩ := h.F
  have ⟨p3, p4, _⟩ := h.L
  have h1 := h.len
  have h2 := h.I
  have h3 := h.RG
  have h4 := h.R
  have h5 := h.G
  have h6 := h.XL
  have h7 := h.n
  exact ⟨by omega, by omega, by omega, by omega, by omega⟩
theorem Full.in {c : Cell} (h : Full c) (h1 : c.F.V < 18446744073709551616) (h2 : c.L.V < 18446744073709551616) : In c := by
  have hb := h.bd
  have hn := h.n
  exact ⟨by omega, h1, h2, by omega⟩
theorem mrg_in {a b : Cell} (ha : In a) (hb : In b) : In (mrg a b).1 := by
  rcases mrg_cases (a := a) (b := b) with ⟨e, _⟩ | ⟨e, h1, h2⟩ | ⟨e, h1, h2⟩ | ⟨e, _⟩ | ⟨e, h1, h2, h3⟩ <;> rw [e]
  · exact z_in
  · exact hb
  · exact ha
  · exact z_in
  · exact (join_full h1 h2 h3 hb.2.1).in ha.2.1 hb.2.2.1
theorem v_mk {c : Cell} {h l : Int} (hh : h = ((c.I / 18446744073709551616 : Nat) : Int)) (hl : l = ((c.I % 18446744073709551616 : Nat) : Int)) :
    Value.agg #[.int .i64 c.n, .int .i64 c.F.T, .int .u64 (c.F.V : Int), .int .i64 c.F.C, .bool c.F.S, .int .i64 c.L.T, .int .u64 (c.L.V : Int), .int .i64 c.L.C, .bool c.L.S, .int .u64 h, .int .u64 l, .int .i64 c.R, .int .i64 c.G, .int .i64 c.X] = c.v := by subst hh hl; rfl
theorem one_v (e : Ev) : Value.agg #[.int .i64 1, .int .i64 e.T, .int .u64 (e.V : Int), .int .i64 e.C, .bool e.S, .int .i64 e.T, .int .u64 (e.V : Int), .int .i64 e.C, .bool e.S, .int .u64 0, .int .u64 0, .int .i64 0, .int .i64 0, .int .i64 0] = (one e).v :=
  v_mk (c := one e) (h := 0) (l := 0) (by dsimp only [one]; omega) (by dsimp only [one]; omega)
theorem chk_ok {c : Cell} (h : ok c) : chk c = 0 := if_pos h
theorem chk_no {c : Cell} (h : ¬ ok c) : chk c = 2 := if_neg h
def addE (c : Cell) (e : Ev) : Cell × Int := if e.ok then mrg c (one e) else (z, 2)
theorem one_in {e : Ev} (h : e.V < 18446744073709551616) : In (one e) := ⟨by show (-9223372036854775808 ≤ (1 : Int) ∧ (1 : Int) ≤ 9223372036854775807); decide, h, h, by show 0 < _; decide⟩
end Cell
end Go.Proofs.Ytmjoncbnlaoggaa
/- From a contract to a law's row: what a law's call leaves of memory. -/
set_option linter.unusedSimpArgs false
set_option linter.unusedVariables false
set_option linter.unusedSectionVars false
set_option maxRecDepth 20000
namespace Go.J
open Go Go.ChangeShapes Go.WideShapes Go.ChangeAt Go.RowKit

def memOf (W : World) : Mem := fun k => W.heap[k]?

theorem HW.init (W : World) : HW W (memOf W) [] W :=
  ⟨rfl, rfl, rfl, Nat.le_refl _, fun _ _ h => h, fun _ => False, fun _ h => h, fun _ h => h.elim⟩

theorem HW.below {W w' : World} {m' : Mem} {Rs : List Res} (h : HW W m' Rs w') (hm : (memOf W).le m') : Below W.heap.size W w' :=
  ⟨h.os, h.tape, h.output, h.size, fun k hk => by
    have hk' : W.heap[k]? = some W.heap[k] := Array.getElem?_eq_getElem hk
    rw [hk']
    exact h.mem k _ (hm k _ hk')⟩

theorem law_calls {P : Program} {f : FuncId} {args : Array Value} {W : World} (h : Ct P f args (memOf W) [] (fun v _ _ => v = .bool true)) :
    Calls P f args W fun e W' => e = .returned (.bool true) ∧ Below W.heap.size W W' :=
  (h W [] W (HW.init W)).mono fun _ _ ⟨_, _, _, he, hm, hv, hw⟩ => ⟨by rw [he, hv], hw.below hm⟩

theorem law_calls_pu {P : Program} {f : FuncId} {args : Array Value} {W : World} (h : Pu P f args (.bool true)) :
    Calls P f args W fun e W' => e = .returned (.bool true) ∧ Below W.heap.size W W' :=
  law_calls ((h (memOf W)).mono fun _ _ _ _ ⟨hv, _, _⟩ => hv)

/-- the arguments read as they did -/
theorem trodAll_below {H : Type} {enc : TypeId × Value → H} {P : Program} (hl : laidOutB P = true) {W W' : World} (hb : Below W.heap.size W W') :
    ∀ (ts : List TypeId) (vs : List Value) (ds : List (DataW H)) (ps : List MemPlace), (ts.all fun t => P.readableRec t && decide (t < P.types.size)) = true →
      DataW.TrodAll enc P W 0 (fun _ => true) true ts vs ds ps → (∀ x ∈ ps, x.block < W.heap.size) → DataW.TrodAll enc P W' 0 (fun b => decide (b < W.heap.size)) true ts vs ds ps
  | [], vs, ds, ps, _, h, _ => by
    obtain ⟨rfl, rfl, rfl⟩ := trodAll_nil h
    exact trodAll_mk0
  | t :: ts, vs, ds, ps, hr, h, hlt => by
    obtain ⟨v, vs', d, ds', p, q, rfl, rfl, rfl, h0, h1⟩ := trodAll_cons h
    simp only [List.all_cons, Bool.and_eq_true, decide_eq_true_eq] at hr
    exact trodAll_cons_mk (Below.trod hl hr.1.1 hr.1.2 h0 hb (fun x hx => hlt x (by simp [hx]))) (trodAll_below hl hb ts vs' ds' q hr.2 h1 (fun x hx => hlt x (by simp [hx])))

end Go.J
/- A law's slices: opened into lists. -/
set_option linter.unusedSimpArgs false
set_option linter.unusedVariables false
set_option linter.unusedSectionVars false
set_option maxRecDepth 20000
namespace Go.J
open Go Go.ChangeShapes Go.WideShapes Go.ChangeAt Go.RowKit

theorem cell_cells {w : World} {a : Addr} {v : Value} (h : w.cell? a = some v) : a.spot = none ∧ ∃ E cs fz, w.heap[a.block]? = some (.cells cs E fz) ∧ cs[a.off]? = some v := by
  unfold World.cell? at h
  cases hb : w.heap[a.block]? with
  | none => rw [hb] at h; cases h
  | some o =>
    rw [hb] at h
    cases o <;> simp at h
    rename_i cs E fz
    exact ⟨by
      cases hs : a.spot with
      | none => rfl
      | some x => rw [hs] at h; simp at h, E, cs, fz, rfl, h.2⟩

theorem open_sl {α : Type} [Inhabited α] {f : α → List Value} {sz : Nat} (hf : Fl f sz) (φ : α → Prop) {H : Type} {enc : TypeId × Value → H} {P : Program} {W : World} {t e : TypeId} {fuel : Nat} {cs : List Value} {x : DataW H × List MemPlace}
    (ht : P.underlying t = some (.slice e)) (hc : P.cellsOf e = sz)
    (hdec : ∀ n cs' y, cs'.length = sz → DataW.trod enc P W 0 (fun _ => true) true n e cs' = some y → ∃ a, cs' = f a ∧ φ a)
    (h : DataW.trod enc P W 0 (fun _ => true) true fuel t cs = some x) : ∃ p c l, cs = [.slice p l.length c] ∧ Sl (memOf W) f sz p c l ∧ ∀ a ∈ l, φ a := by
  rcases Go.Deep.open_slice ht h with ⟨rfl, _⟩ | ⟨a, len, cap, m, n, D, Pl, rfl, _, hl, hm, hmm, _, hx⟩
  · exact ⟨none, 0, [], rfl, Sl.empty _ hf, fun a ha => by cases ha⟩
  · simp only [if_true] at hmm
    subst hmm
    obtain ⟨A, hA⟩ := Go.Deep.choose_lt (α := α) (n := m) (p := fun i y => W.cells? 0 (a.add (i * sz)) sz = some (f y) ∧ φ y) (fun i hi => by
      obtain ⟨cs', h1, h2⟩ := hx i hi
      rw [hc] at h1
      obtain ⟨_, hlen, _⟩ := World.cells?_some h1
      obtain ⟨y, rfl, hy⟩ := hdec n cs' _ hlen h2
      exact ⟨y, h1, hy⟩)
    have hll : ((List.range len).map A).length = len := by simp
    refine ⟨some a, m, (List.range len).map A, by rw [hll], ⟨hf, by rw [hll]; exact hl, hm, (fun e => by cases e), fun a' ha' hpos => ?_⟩, fun y hy => ?_⟩
    · cases ha'
      have hsz := hf.pos
      have hcell : ∀ i j, i < m → j < sz → W.cell? ((a.add (i * sz)).add j) = (f (A i))[j]? := fun i j hi hj => (World.cells?_some (hA i hi).1).2.2 j hj
      have hlen : ∀ i j, j < sz → ∃ v, (f (A i))[j]? = some v := fun i j hj => ⟨(f (A i))[j]'(by rw [hf.len]; exact hj), List.getElem?_eq_getElem _⟩
      obtain ⟨v0, hv0⟩ := hlen 0 0 hsz
      have h00 := hcell 0 0 hpos hsz
      rw [hv0] at h00
      have e0 : (a.add (0 * sz)).add 0 = a := by simp [Addr.add]
      rw [e0] at h00
      obtain ⟨hspot, E, cs, fz, hb, _⟩ := cell_cells h00
      have ea : ∀ k, a.add k = ⟨a.block, a.off + k, none⟩ := fun k => by cases a; simp only at hspot; subst hspot; exact Addr.add_eq _ _ _
      have hcell' : ∀ i j, i < m → j < sz → cs[a.off + (i * sz + j)]? = (f (A i))[j]? := fun i j hi hj => by
        have := hcell i j hi hj
        rw [ea, Addr.add_eq, World.cell_of hb] at this
        rw [← this, Nat.add_assoc]
      refine ⟨hspot, E, cs, fz, hb, ?_, fun i j hi hj => ?_⟩
      · obtain ⟨v, hv⟩ := hlen (m - 1) (sz - 1) (by omega)
        have h1 := hcell' (m - 1) (sz - 1) (by omega) (by omega)
        rw [hv] at h1
        have h2 := (Array.getElem?_eq_some_iff.1 h1).1
        have h3 : (m - 1) * sz + sz = m * sz := by
          have := Nat.succ_mul (m - 1) sz
          rw [show (m - 1).succ = m by omega] at this; omega
        omega
      · rw [hll] at hi
        rw [hcell' i j (by omega) hj]
        congr 2
        rw [List.getElem!_eq_getElem?_getD]; simp [hi]
    · obtain ⟨i, hi, rfl⟩ := List.mem_map.1 hy
      exact (hA i (by have := List.mem_range.1 hi; omega)).2

/-- a law's argument that is a slice -/
theorem open_sl_arg {α : Type} [Inhabited α] {f : α → List Value} {sz : Nat} (hf : Fl f sz) (φ : α → Prop) {H : Type} {enc : TypeId × Value → H} {P : Program} {W : World} {t e : TypeId} {v : Value} {d : DataW H} {ps : List MemPlace}
    (ht : P.underlying t = some (.slice e)) (hc : P.cellsOf e = sz)
    (hdec : ∀ n cs' y, cs'.length = sz → DataW.trod enc P W 0 (fun _ => true) true n e cs' = some y → ∃ a, cs' = f a ∧ φ a)
    (hsl : ∃ p l c, v = .slice p l c) (h : DataW.Trod enc P W 0 (fun _ => true) true t v d ps) : ∃ p c l, v = .slice p l.length c ∧ Sl (memOf W) f sz p c l ∧ ∀ a ∈ l, φ a := by
  obtain ⟨fuel, hfl⟩ := h
  obtain ⟨p0, l0, c0, rfl⟩ := hsl
  obtain ⟨p, c, l, h1, h2⟩ := open_sl hf φ ht hc hdec hfl
  refine ⟨p, c, l, ?_, h2⟩
  simpa [Value.cells] using h1

theorem dec_int {H : Type} {enc : TypeId × Value → H} {P : Program} {W : World} {e : TypeId} {k : IntKind} (he : P.underlying e = some (.int k)) : ∀ n cs' y, cs'.length = 1 → DataW.trod enc P W 0 (fun _ => true) true n e cs' = some y → ∃ a : Int, cs' = [.int k a] ∧ (Lit.int k a).wf = true := fun n cs' y _ h => by
  obtain ⟨a, h1, _, h3⟩ := DataW.trod_int he h
  exact ⟨a, h1, h3⟩
end Go.J

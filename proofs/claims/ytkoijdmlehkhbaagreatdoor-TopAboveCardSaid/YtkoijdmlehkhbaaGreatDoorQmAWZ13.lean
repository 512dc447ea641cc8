/- Part 13 of what the law's proof needs: rules of the walk, contracts of functions, plain laws. No condition. -/
import Derived.Test.YtkoijdmlehkhbaaGreatDoorQmAWZ12
import Derived.Shelf.SlSortCmp.NoneTotal
import Derived.Test.YtkoijdmlehkhbaaGreatDoorProg
import Derived.ProofKit
import Derived.OpenShut
import Derived.Below
import Derived.Carry
set_option linter.unusedSimpArgs false
set_option linter.unusedVariables false
set_option linter.unusedSectionVars false
set_option maxRecDepth 20000
set_option maxHeartbeats 4000000
namespace Go.Proofs.YtkoijdmlehkhbaaGreatDoor
open Go Go.J
attribute [local irreducible] At AtQ AtM AtM1 PR Ct Pu Rd Res.blk Res.own Res.ex RVs RV
/-- what an ask is told -/
structure Rep where
  (t : Int) (c : Cell) (r : Nat × Nat) (e : Int)
namespace Rep
abbrev cells : Rep → List Value := fun r => .int .i64 r.t :: (Cell.cells r.c ++ (Wide.wd r.r.1 ++ Wide.wd r.r.2 ++ [.int .i64 r.e]))
abbrev v (r : Rep) : Value := .agg (cells r).toArray
abbrev z : Rep := ⟨0, Cell.z, (0, 0), 0⟩
instance : Inhabited Rep := ⟨z⟩
instance : Fl cells 20 := ⟨fun _ => rfl, fun x v h => by
  simp at h
  rcases h with rfl | rfl | rfl | rfl | rfl | rfl | rfl | rfl | rfl | rfl | rfl | rfl | rfl | rfl | rfl | rfl | rfl | rfl | rfl | rfl <;> rfl, by decide⟩
theorem zv : Value.agg #[.int .i64 0, .int .i64 0, .int .i64 0, .int .u64 0, .int .i64 0, .bool false, .int .i64 0, .int .u64 0, .int .i64 0, .bool false, .int .u64 0, .int .u64 0, .int .i64 0, .int .i64 0, .int .i64 0, .int .u64 0, .int .u64 0, .int .u64 0, .int .u64 0, .int .i64 0] = z.v := rfl
end Rep
namespace Qy
open Slot Ti Se St Win
open Fo hiding pt
def one3 (u : Sta) (t a b : Int) : Int := Au.oneE (Au.wT u.k t) (oldV u.now (Au.wT u.k t) (Au.nT u.k t)) a b
theorem one_ {m : Mem} (u : Sta) (t a b : Int) (hs : u.Ok m) (hok : okU u) (h1 : 1 ≤ t) (h2 : t ≤ 3) :
    Rd Tryz.prog 93 #[u.v, .int .i64 t, .int .i64 a, .int .i64 b] m [] (.int .i64 (one3 u t a b)) := Au.one u t _ _ a b hs hok (Au.t3 h1 h2)
/-- the first tier that can answer, from one on -/
def wrs (e : Int → Int) : Nat → Int → Int → Int × Int
  | 0, _, w => (0, w)
  | n + 1, t, w => if e t = 0 then (t, 0) else if e t = 10 then wrs e n (t + 1) w else if e t = 11 then wrs e n (t + 1) 11 else (0, e t)
theorem wrs_ok (e : Int → Int) : ∀ (n : Nat) (t w : Int), w ≠ 0 → (wrs e n t w).2 = 0 → t ≤ (wrs e n t w).1 ∧ (wrs e n t w).1 < t + n ∧ e (wrs e n t w).1 = 0
  | 0, t, w, h0, h => absurd h h0
  | n + 1, t, w, h0, h => by
    unfold wrs at h ⊢
    by_cases h1 : e t = 0
    · rw [if_pos h1] at h ⊢; exact ⟨Int.le_refl _, by show t < _; omega, h1⟩
    · rw [if_neg h1] at h ⊢
      by_cases h2 : e t = 10
      · rw [if_pos h2] at h ⊢
        obtain ⟨a, b, c⟩ := wrs_ok e n (t + 1) w h0 h
        exact ⟨by omega, by omega, c⟩
      · rw [if_neg h2] at h ⊢
        by_cases h3 : e t = 11
        · rw [if_pos h3] at h ⊢
          obtain ⟨a, b, c⟩ := wrs_ok e n (t + 1) 11 (by decide) h
          exact ⟨by omega, by omega, c⟩
        · rw [if_neg h3] at h; exact absurd h h1
structure WS where
  (n : Nat) (t w : Int)
theorem whichever_ {m : Mem} (u : Sta) (a b : Int) (R : Int × Int) (hR : wrs (fun t => one3 u t a b) 3 1 10 = R) (hs : u.Ok m) (hok : okU u) :
    Rd Tryz.prog 92 #[u.v, .int .i64 a, .int .i64 b] m [] (.tuple #[.int .i64 R.1, .int .i64 R.2]) := by
  unfold Rd
  have k0 := fun (m' : Mem) (t : Int) (h1 : 1 ≤ t) (h2 : t ≤ 3) (h : m.le m') => one_ u t a b (hs.mono h) hok h1 h2
  clear hs hok
  refine Ct.enterV (by rfl) Tryz.func92 rfl Tryz.ntmps92 rfl (fun w0 Rest => ?_)
  (repeat' (first | refine zss ?_ | refine zs0 ?_ | ((with_reducible apply At.box (d := 3)); exact rfl; exact rfl; exact rfl; intro b3) | (refine zsp ?_ ?_ <;> (intro hc; (try simp only [zhcs, reduceCtorEq] at hc); (try (exfalso; first | contradiction | omega | exact absurd rfl hc | exact absurd (by decide) hc))))))
  (refine At.loopk (σ := WS) [1, 2, 3] (fun s F0 => (8, .int .i64 s.w) :: (9, .int .i64 s.t) :: F0) (fun s => m) (fun s => .blk b3 28 u.cells :: Rest) (fun s => s.t + s.n = 4 ∧ 1 ≤ s.t ∧ wrs (fun t => one3 u t a b) s.n s.t s.w = R) (fun s => s.n) ⟨3, 1, 10⟩ (by rfl) ?_ zsubs zml zente ?_)
  · exact ⟨by decide, by decide, hR⟩
  rintro ⟨n, t, w⟩ ⟨hn, h1, hw⟩
  dsimp only at hn h1 hw ⊢
  cases n with
  | zero =>
    obtain rfl : R = (0, w) := hw.symm
    (repeat' (first | refine zss ?_ | refine zs0 ?_ | ((with_reducible apply At.box (d := 3)); exact rfl; exact rfl; exact rfl; intro b3) | (refine zsp ?_ ?_ <;> (intro hc; (try simp only [zhcs, reduceCtorEq] at hc); (try (exfalso; first | omega | contradiction | omega | exact absurd rfl hc | exact absurd (by decide) hc))))))
    all_goals ((with_reducible apply At.retV (B := [])); exact rfl; (repeat' (first | exact RVs.nil | (with_reducible apply RVs.cons) | exact rv_tmp (by rfl) | exact rv_cellN (by rfl) (by repeat constructor) (by rfl) (by rfl) (by rfl) | exact rv_cell1 (by rfl) (by repeat constructor) (by rfl) (by rfl))); exact zml; exact zkp; exact ⟨rfl, rfl, rfl⟩)
  | succ n =>
    have k1 := fun m' => k0 m' t h1 (by omega)
    have hfa : IntKind.wrap .i64 (t + 1) = t + 1 := IntWalk.i64_in _ (by omega)
    unfold wrs at hw
    clear k0 hR
    try dsimp only at hw
    generalize one3 u t a b = e at k1 hw
    by_cases h2 : e = 0
    · rw [if_pos h2] at hw
      subst h2 hw
      (repeat' (first | refine zss ?_ | refine zs0 ?_ | ((with_reducible first | apply AtM1.cr | apply AtQ.cr | apply At.cr); exact rfl; exact rfl; exact fun _ hmm => k1 _ hmm; exact ztk; kernel_rfl) | ((with_reducible apply At.box (d := 3)); exact rfl; exact rfl; exact rfl; intro b3) | (refine zsp ?_ ?_ <;> (intro hc; (try simp only [zhcs, reduceCtorEq] at hc); (try (exfalso; first | (first | omega | exact absurd rfl hc) | contradiction | omega | exact absurd rfl hc | exact absurd (by decide) hc))))))
      all_goals ((with_reducible apply At.retV (B := [])); exact rfl; (repeat' (first | exact RVs.nil | (with_reducible apply RVs.cons) | exact rv_tmp (by rfl) | exact rv_cellN (by rfl) (by repeat constructor) (by rfl) (by rfl) (by rfl) | exact rv_cell1 (by rfl) (by repeat constructor) (by rfl) (by rfl))); exact zml; exact zkp; exact ⟨rfl, rfl, rfl⟩)
    rw [if_neg h2] at hw
    by_cases h3 : e = 10
    · rw [if_pos h3] at hw
      subst h3
      (repeat' (first | refine zss ?_ | ((first | (with_reducible first | apply At.val | apply AtQ.val)); (exact pr_add (by rfl) (by rfl) hfa); exact rfl) | refine zs0 ?_ | ((with_reducible first | apply AtM1.cr | apply AtQ.cr | apply At.cr); exact rfl; exact rfl; exact fun _ hmm => k1 _ hmm; exact ztk; kernel_rfl) | ((with_reducible apply At.box (d := 3)); exact rfl; exact rfl; exact rfl; intro b3) | (refine zsp ?_ ?_ <;> (intro hc; (try simp only [zhcs, reduceCtorEq] at hc); (try (exfalso; first | (first | omega | exact absurd rfl hc) | contradiction | omega | exact absurd rfl hc | exact absurd (by decide) hc))))))
      all_goals ((with_reducible refine At.reachk (⟨n, t + 1, w⟩) ?_ ?_ ?_ ?_); exact zsubs; exact zml; exact zente; exact ⟨⟨by dsimp only; omega, by dsimp only; omega, hw⟩, by dsimp only; omega⟩)
    rw [if_neg h3] at hw
    by_cases h4 : e = 11
    · rw [if_pos h4] at hw
      subst h4
      (repeat' (first | refine zss ?_ | ((first | (with_reducible first | apply At.val | apply AtQ.val)); (exact pr_add (by rfl) (by rfl) hfa); exact rfl) | refine zs0 ?_ | ((with_reducible first | apply AtM1.cr | apply AtQ.cr | apply At.cr); exact rfl; exact rfl; exact fun _ hmm => k1 _ hmm; exact ztk; kernel_rfl) | ((with_reducible apply At.box (d := 3)); exact rfl; exact rfl; exact rfl; intro b3) | (refine zsp ?_ ?_ <;> (intro hc; (try simp only [zhcs, reduceCtorEq] at hc); (try (exfalso; first | (first | omega | exact absurd rfl hc) | contradiction | omega | exact absurd rfl hc | exact absurd (by decide) hc))))))
      all_goals ((with_reducible refine At.reachk (⟨n, t + 1, 11⟩) ?_ ?_ ?_ ?_); exact zsubs; exact zml; exact zente; exact ⟨⟨by dsimp only; omega, by dsimp only; omega, hw⟩, by dsimp only; omega⟩)
    · rw [if_neg h4] at hw
      subst hw
      (repeat' (first | refine zss ?_ | refine zs0 ?_ | ((with_reducible first | apply AtM1.cr | apply AtQ.cr | apply At.cr); exact rfl; exact rfl; exact fun _ hmm => k1 _ hmm; exact ztk; kernel_rfl) | ((with_reducible apply At.box (d := 3)); exact rfl; exact rfl; exact rfl; intro b3) | (refine zsp ?_ ?_ <;> (intro hc; (try simp only [zhcs, reduceCtorEq] at hc); (try (exfalso; first | (first | omega | exact absurd hc h2 | exact absurd hc h3 | exact absurd hc h4) | contradiction | omega | exact absurd rfl hc | exact absurd (by decide) hc))))))
      all_goals ((with_reducible apply At.retV (B := [])); exact rfl; (repeat' (first | exact RVs.nil | (with_reducible apply RVs.cons) | exact rv_tmp (by rfl) | exact rv_cellN (by rfl) (by repeat constructor) (by rfl) (by rfl) (by rfl) | exact rv_cell1 (by rfl) (by repeat constructor) (by rfl) (by rfl))); exact zml; exact zkp; exact ⟨rfl, rfl, rfl⟩)
/-- which tier answers, or why none does -/
def tierG (u : Sta) (t a b : Int) : Int × Int := if t < 0 ∨ 3 < t then (0, 1) else if t = 0 then wrs (fun t => one3 u t a b) 3 1 10 else if one3 u t a b = 0 then (t, 0) else (0, one3 u t a b)
theorem tier_ {m : Mem} (u : Sta) (t a b : Int) (hs : u.Ok m) (hok : okU u) :
    Rd Tryz.prog 47 #[u.v, .int .i64 t, .int .i64 a, .int .i64 b] m [] (.tuple #[.int .i64 (tierG u t a b).1, .int .i64 (tierG u t a b).2]) := by
  unfold Rd tierG
  have k0 := fun (m' : Mem) (hm : m.le m') => check u (hs.mono hm)
  rw [show chk u = 0 from if_pos hok] at k0
  by_cases h1 : t < 0 ∨ 3 < t
  · rw [if_pos h1]
    clear hs hok
    refine Ct.enterV (by rfl) Tryz.func47 rfl Tryz.ntmps47 rfl (fun w0 Rest => ?_)
    (repeat' (first | refine zss ?_ | refine zs0 ?_ | ((with_reducible first | apply AtM1.cr | apply AtQ.cr | apply At.cr); exact rfl; exact rfl; exact fun _ hmm => k0 _ hmm; exact ztk; kernel_rfl) | ((with_reducible apply At.box (d := 4)); exact rfl; exact rfl; exact rfl; intro b4) | (refine zsp ?_ ?_ <;> (intro hc; (try simp only [zhcs, reduceCtorEq] at hc); (try (exfalso; first | (first | omega | exact absurd rfl hc) | contradiction | omega | exact absurd rfl hc | exact absurd (by decide) hc))))))
    all_goals ((with_reducible apply At.retV (B := [])); exact rfl; (repeat' (first | exact RVs.nil | (with_reducible apply RVs.cons) | exact rv_tmp (by rfl) | exact rv_cellN (by rfl) (by repeat constructor) (by rfl) (by rfl) (by rfl) | exact rv_cell1 (by rfl) (by repeat constructor) (by rfl) (by rfl))); exact zml; exact zkp; exact ⟨rfl, rfl, rfl⟩)
  rw [if_neg h1]
  by_cases h0 : t = 0
  · rw [if_pos h0]
    have k1 := fun (m' : Mem) (hm : m.le m') => whichever_ u a b _ rfl (hs.mono hm) hok
    generalize wrs (fun t => one3 u t a b) 3 1 10 = R at k1 ⊢
    subst h0
    clear hs hok
    refine Ct.enterV (by rfl) Tryz.func47 rfl Tryz.ntmps47 rfl (fun w0 Rest => ?_)
    (repeat' (first | refine zss ?_ | refine zs0 ?_ | ((with_reducible first | apply AtM1.cr | apply AtQ.cr | apply At.cr); exact rfl; exact rfl; exact fun _ hmm => k0 _ hmm; exact ztk; kernel_rfl) | ((with_reducible first | apply AtM1.cr | apply AtQ.cr | apply At.cr); exact rfl; exact rfl; exact fun _ hmm => k1 _ hmm; exact ztk; kernel_rfl) | ((with_reducible apply At.box (d := 4)); exact rfl; exact rfl; exact rfl; intro b4) | (refine zsp ?_ ?_ <;> (intro hc; (try simp only [zhcs, reduceCtorEq] at hc); (try (exfalso; first | (first | omega | exact absurd rfl hc) | contradiction | omega | exact absurd rfl hc | exact absurd (by decide) hc))))))
    all_goals ((with_reducible apply At.retV (B := [])); exact rfl; (repeat' (first | exact RVs.nil | (with_reducible apply RVs.cons) | exact rv_tmp (by rfl) | exact rv_cellN (by rfl) (by repeat constructor) (by rfl) (by rfl) (by rfl) | exact rv_cell1 (by rfl) (by repeat constructor) (by rfl) (by rfl))); exact zml; exact zkp; exact ⟨rfl, rfl, rfl⟩)
  rw [if_neg h0]
  have k1 := fun (m' : Mem) (hm : m.le m') => one_ u t a b (hs.mono hm) hok (by omega) (by omega)
  clear hs hok
  generalize one3 u t a b = e at k1 ⊢
  by_cases h2 : e = 0
  · rw [if_pos h2]
    subst h2
    refine Ct.enterV (by rfl) Tryz.func47 rfl Tryz.ntmps47 rfl (fun w0 Rest => ?_)
    (repeat' (first | refine zss ?_ | refine zs0 ?_ | ((with_reducible first | apply AtM1.cr | apply AtQ.cr | apply At.cr); exact rfl; exact rfl; exact fun _ hmm => k0 _ hmm; exact ztk; kernel_rfl) | ((with_reducible first | apply AtM1.cr | apply AtQ.cr | apply At.cr); exact rfl; exact rfl; exact fun _ hmm => k1 _ hmm; exact ztk; kernel_rfl) | ((with_reducible apply At.box (d := 4)); exact rfl; exact rfl; exact rfl; intro b4) | (refine zsp ?_ ?_ <;> (intro hc; (try simp only [zhcs, reduceCtorEq] at hc); (try (exfalso; first | (first | omega | exact absurd rfl hc) | contradiction | omega | exact absurd rfl hc | exact absurd (by decide) hc))))))
    all_goals ((with_reducible apply At.retV (B := [])); exact rfl; (repeat' (first | exact RVs.nil | (with_reducible apply RVs.cons) | exact rv_tmp (by rfl) | exact rv_cellN (by rfl) (by repeat constructor) (by rfl) (by rfl) (by rfl) | exact rv_cell1 (by rfl) (by repeat constructor) (by rfl) (by rfl))); exact zml; exact zkp; exact ⟨rfl, rfl, rfl⟩)
  · rw [if_neg h2]
    refine Ct.enterV (by rfl) Tryz.func47 rfl Tryz.ntmps47 rfl (fun w0 Rest => ?_)
    (repeat' (first | refine zss ?_ | refine zs0 ?_ | ((with_reducible first | apply AtM1.cr | apply AtQ.cr | apply At.cr); exact rfl; exact rfl; exact fun _ hmm => k0 _ hmm; exact ztk; kernel_rfl) | ((with_reducible first | apply AtM1.cr | apply AtQ.cr | apply At.cr); exact rfl; exact rfl; exact fun _ hmm => k1 _ hmm; exact ztk; kernel_rfl) | ((with_reducible apply At.box (d := 4)); exact rfl; exact rfl; exact rfl; intro b4) | (refine zsp ?_ ?_ <;> (intro hc; (try simp only [zhcs, reduceCtorEq] at hc); (try (exfalso; first | (first | omega | exact absurd rfl hc | exact absurd hc h2) | contradiction | omega | exact absurd rfl hc | exact absurd (by decide) hc))))))
    all_goals ((with_reducible apply At.retV (B := [])); exact rfl; (repeat' (first | exact RVs.nil | (with_reducible apply RVs.cons) | exact rv_tmp (by rfl) | exact rv_cellN (by rfl) (by repeat constructor) (by rfl) (by rfl) (by rfl) | exact rv_cell1 (by rfl) (by repeat constructor) (by rfl) (by rfl))); exact zml; exact zkp; exact ⟨rfl, rfl, rfl⟩)
theorem tierG_ok {u : Sta} {t a b : Int} (h : (tierG u t a b).2 = 0) : 1 ≤ (tierG u t a b).1 ∧ (tierG u t a b).1 ≤ 3 ∧ tierG u (tierG u t a b).1 a b = ((tierG u t a b).1, 0) := by
  have key : ∀ k : Int, 1 ≤ k → k ≤ 3 → one3 u k a b = 0 → tierG u k a b = (k, 0) := fun k h1 h2 h3 => by
    unfold tierG; rw [if_neg (by omega), if_neg (by omega), if_pos h3]
  have main : 1 ≤ (tierG u t a b).1 ∧ (tierG u t a b).1 ≤ 3 ∧ one3 u (tierG u t a b).1 a b = 0 := by
    unfold tierG at h ⊢
    by_cases h1 : t < 0 ∨ 3 < t
    · rw [if_pos h1] at h; exact absurd h (by decide)
    rw [if_neg h1] at h ⊢
    by_cases h0 : t = 0
    · rw [if_pos h0] at h ⊢
      obtain ⟨a1, a2, a3⟩ := wrs_ok _ 3 1 10 (by decide) h
      exact ⟨a1, by omega, a3⟩
    rw [if_neg h0] at h ⊢
    by_cases h2 : one3 u t a b = 0
    · rw [if_pos h2]; exact ⟨by show 1 ≤ t; omega, by show t ≤ 3; omega, h2⟩
    · rw [if_neg h2] at h; exact absurd h h2
  exact ⟨main.1, main.2.1, key _ main.1 main.2.1 main.2.2⟩
/-- what is told -/
def doG (u : Sta) (l : List Lab) (t a b : Int) : Rep × Int :=
  if may u l ≠ 0 then (Rep.z, may u l) else if (tierG u t a b).2 ≠ 0 then (Rep.z, (tierG u t a b).2)
  else if (qof u l ((tierG u t a b).1.toNat - 1) a b).2 ≠ 0 then (Rep.z, (qof u l ((tierG u t a b).1.toNat - 1) a b).2)
  else (⟨(tierG u t a b).1, (qof u l ((tierG u t a b).1.toNat - 1) a b).1, (rte (qof u l ((tierG u t a b).1.toNat - 1) a b).1).1, (rte (qof u l ((tierG u t a b).1.toNat - 1) a b).1).2⟩, 0)
theorem qof_good {m : Mem} {u : Sta} (hs : u.Ok m) (l : List Lab) (k : Nat) (a b : Int) : Cell.ok (qof u l k a b).1 ∧ Cell.In (qof u l k a b).1 := by
  unfold qof
  cases hf : fstO u.pl.l.length (fnd u l) with
  | none => exact ⟨.inl rfl, Cell.z_in⟩
  | some i =>
    obtain ⟨hi, -, -⟩ := Ru.fstO_spec hf
    dsimp only
    split
    · exact ⟨.inl rfl, Cell.z_in⟩
    · exact rng_good (hs.at hi) _ _ _
theorem do_ {m : Mem} (hz : Ra.TZ m) (u : Sta) (q : Ask) (hs : u.Ok m) (hok : okU u) (hm : Lb.Mid q.lab.l) (hl : q.lab.l.length ≤ 1000000000) (sl1 : Sl m Lb.cells 2 q.lab.p q.lab.c q.lab.l) :
    Rd Tryz.prog 14 #[u.v, q.v] m [] (.tuple #[(doG u q.lab.l q.t q.a q.b).1.v, .int .i64 (doG u q.lab.l q.t q.a q.b).2]) := by
  unfold Rd doG
  have k0 := fun (m' : Mem) (h : m.le m') => may_ u q.lab (hs.mono h) hm (sl1.mono h)
  have k1 := fun (m' : Mem) (h : m.le m') => tier_ u q.t q.a q.b (hs.mono h) hok
  have hT := fun h => tierG_ok (u := u) (t := q.t) (a := q.a) (b := q.b) h
  have k2 := fun (m' : Mem) (K : Nat) (hK : K < 3) (h : m.le m') => of_ u q K hK (hs.mono h) hok.1 hl (sl1.mono h)
  have hg := fun K => qof_good hs q.lab.l K q.a q.b
  clear hs hok hl hm
  generalize may u q.lab.l = e0 at k0 ⊢
  generalize tierG u q.t q.a q.b = T at k1 hT ⊢
  obtain ⟨k, e1⟩ := T
  dsimp only at k1 hT ⊢
  by_cases h0 : e0 ≠ 0
  · rw [if_pos h0]
    clear k1 k2 hT hg
    refine Ct.enterV (by rfl) Tryz.func14 rfl Tryz.ntmps14 rfl (fun w0 Rest => ?_)
    (repeat' (first | refine zss ?_ | refine zsM ?_ | ((with_reducible first | apply AtM1.cr | apply AtQ.cr | apply At.cr); exact rfl; exact rfl; exact fun _ hmm => k0 _ hmm; exact ztk; kernel_rfl) | ((with_reducible apply At.box (d := 2)); exact rfl; exact rfl; exact rfl; intro b2) | ((with_reducible apply At.box (d := 3)); exact rfl; exact rfl; exact rfl; intro b3) | ((with_reducible apply At.alloc (d := 4)); exact rfl; exact rfl; intro b4) | ((with_reducible apply At.alloc (d := 9)); exact rfl; exact rfl; intro b9) | ((with_reducible apply At.alloc (d := 10)); exact rfl; exact rfl; intro b10) | (refine zsp ?_ ?_ <;> (intro hc; (try simp only [zhcs, reduceCtorEq] at hc); (try (exfalso; first | (first | omega | exact absurd hc h0) | contradiction | omega | exact absurd rfl hc | exact absurd (by decide) hc))))))
    all_goals ((with_reducible apply At.retV (B := [])); exact rfl; (repeat' (first | exact RVs.nil | (with_reducible apply RVs.cons) | exact rv_tmp (by rfl) | exact rv_cellN (by rfl) (by repeat constructor) (by rfl) (by rfl) (by rfl) | exact rv_cell1 (by rfl) (by repeat constructor) (by rfl) (by rfl))); exact zml; exact zkp; exact ⟨congrArg (fun v => Value.tuple #[v, .int .i64 e0]) Rep.zv, rfl, rfl⟩)
  rw [if_neg h0]
  obtain rfl : e0 = 0 := by omega
  by_cases h1 : e1 ≠ 0
  · rw [if_pos h1]
    clear k2 hT hg h0
    refine Ct.enterV (by rfl) Tryz.func14 rfl Tryz.ntmps14 rfl (fun w0 Rest => ?_)
    (repeat' (first | refine zss ?_ | refine zsM ?_ | ((with_reducible first | apply AtM1.cr | apply AtQ.cr | apply At.cr); exact rfl; exact rfl; exact fun _ hmm => k0 _ hmm; exact ztk; kernel_rfl) | ((with_reducible first | apply AtM1.cr | apply AtQ.cr | apply At.cr); exact rfl; exact rfl; exact fun _ hmm => k1 _ hmm; exact ztk; kernel_rfl) | ((with_reducible apply At.box (d := 2)); exact rfl; exact rfl; exact rfl; intro b2) | ((with_reducible apply At.box (d := 3)); exact rfl; exact rfl; exact rfl; intro b3) | ((with_reducible apply At.alloc (d := 4)); exact rfl; exact rfl; intro b4) | ((with_reducible apply At.alloc (d := 9)); exact rfl; exact rfl; intro b9) | ((with_reducible apply At.alloc (d := 10)); exact rfl; exact rfl; intro b10) | (refine zsp ?_ ?_ <;> (intro hc; (try simp only [zhcs, reduceCtorEq] at hc); (try (exfalso; first | (first | omega | exact absurd hc h1 | exact absurd rfl hc) | contradiction | omega | exact absurd rfl hc | exact absurd (by decide) hc))))))
    all_goals ((with_reducible apply At.retV (B := [])); exact rfl; (repeat' (first | exact RVs.nil | (with_reducible apply RVs.cons) | exact rv_tmp (by rfl) | exact rv_cellN (by rfl) (by repeat constructor) (by rfl) (by rfl) (by rfl) | exact rv_cell1 (by rfl) (by repeat constructor) (by rfl) (by rfl))); exact zml; exact zkp; exact ⟨congrArg (fun v => Value.tuple #[v, .int .i64 e1]) Rep.zv, rfl, rfl⟩)
  rw [if_neg h1]
  obtain rfl : e1 = 0 := by omega
  obtain ⟨t1, t2, -⟩ := hT rfl
  obtain ⟨K, rfl⟩ : ∃ K : Nat, k = ((K : Nat) : Int) + 1 := ⟨k.toNat - 1, by omega⟩
  have eK : ((K : Int) + 1).toNat - 1 = K := by omega
  rw [eK]
  have k3 := fun (m' : Mem) (h : m.le m') => k2 m' K (by omega) h
  obtain ⟨g1, g2⟩ := hg K
  have hsu : IntKind.wrap .i64 ((K : Int) + 1 - 1) = (K : Int) := by rw [IntWalk.i64_in _ (by omega)]; omega
  have k4 := fun (m' : Mem) (h : m.le m') => rate_ (m := m') (hz.mono h) (qof u q.lab.l K q.a q.b).1 g2 (by have := (ok_X g1).1; omega)
  clear k2 hg hT t1 t2 eK g1 g2 h0 h1
  generalize qof u q.lab.l K q.a q.b = C at k3 k4 ⊢
  obtain ⟨c, e2⟩ := C
  dsimp only at k3 k4 ⊢
  generalize rte c = r at k4 ⊢
  by_cases h2 : e2 ≠ 0
  · rw [if_pos h2]
    clear k4
    refine Ct.enterV (by rfl) Tryz.func14 rfl Tryz.ntmps14 rfl (fun w0 Rest => ?_)
    (repeat' (first | refine zss ?_ | ((first | (with_reducible first | apply At.val | apply AtQ.val)); (exact pr_sub (by rfl) (by rfl) hsu); exact rfl) | refine zsM ?_ | ((with_reducible first | apply AtM1.cr | apply AtQ.cr | apply At.cr); exact rfl; exact rfl; exact fun _ hmm => k0 _ hmm; exact ztk; kernel_rfl) | ((with_reducible first | apply AtM1.cr | apply AtQ.cr | apply At.cr); exact rfl; exact rfl; exact fun _ hmm => k1 _ hmm; exact ztk; kernel_rfl) | ((with_reducible first | apply AtM1.cr | apply AtQ.cr | apply At.cr); exact rfl; exact rfl; exact fun _ hmm => k3 _ hmm; exact ztk; kernel_rfl) | ((with_reducible apply At.box (d := 2)); exact rfl; exact rfl; exact rfl; intro b2) | ((with_reducible apply At.box (d := 3)); exact rfl; exact rfl; exact rfl; intro b3) | ((with_reducible apply At.alloc (d := 4)); exact rfl; exact rfl; intro b4) | ((with_reducible apply At.alloc (d := 9)); exact rfl; exact rfl; intro b9) | ((with_reducible apply At.alloc (d := 10)); exact rfl; exact rfl; intro b10) | (refine zsp ?_ ?_ <;> (intro hc; (try simp only [zhcs, reduceCtorEq] at hc); (try (exfalso; first | (first | omega | exact absurd hc h2 | exact absurd rfl hc) | contradiction | omega | exact absurd rfl hc | exact absurd (by decide) hc))))))
    all_goals ((with_reducible apply At.retV (B := [])); exact rfl; (repeat' (first | exact RVs.nil | (with_reducible apply RVs.cons) | exact rv_tmp (by rfl) | exact rv_cellN (by rfl) (by repeat constructor) (by rfl) (by rfl) (by rfl) | exact rv_cell1 (by rfl) (by repeat constructor) (by rfl) (by rfl))); exact zml; exact zkp; exact ⟨congrArg (fun v => Value.tuple #[v, .int .i64 e2]) Rep.zv, rfl, rfl⟩)
  · rw [if_neg h2]
    obtain rfl : e2 = 0 := by omega
    clear h2
    refine Ct.enterV (by rfl) Tryz.func14 rfl Tryz.ntmps14 rfl (fun w0 Rest => ?_)
    (repeat' (first | refine zss ?_ | ((first | (with_reducible first | apply At.val | apply AtQ.val)); (exact pr_sub (by rfl) (by rfl) hsu); exact rfl) | refine zsM ?_ | ((with_reducible first | apply AtM1.cr | apply AtQ.cr | apply At.cr); exact rfl; exact rfl; exact fun _ hmm => k0 _ hmm; exact ztk; kernel_rfl) | ((with_reducible first | apply AtM1.cr | apply AtQ.cr | apply At.cr); exact rfl; exact rfl; exact fun _ hmm => k1 _ hmm; exact ztk; kernel_rfl) | ((with_reducible first | apply AtM1.cr | apply AtQ.cr | apply At.cr); exact rfl; exact rfl; exact fun _ hmm => k3 _ hmm; exact ztk; kernel_rfl) | ((with_reducible first | apply AtM1.cr | apply AtQ.cr | apply At.cr); exact rfl; exact rfl; exact fun _ hmm => k4 _ zml; exact ztk; kernel_rfl) | ((with_reducible apply At.box (d := 2)); exact rfl; exact rfl; exact rfl; intro b2) | ((with_reducible apply At.box (d := 3)); exact rfl; exact rfl; exact rfl; intro b3) | ((with_reducible apply At.alloc (d := 4)); exact rfl; exact rfl; intro b4) | ((with_reducible apply At.alloc (d := 9)); exact rfl; exact rfl; intro b9) | ((with_reducible apply At.alloc (d := 10)); exact rfl; exact rfl; intro b10) | (refine zsp ?_ ?_ <;> (intro hc; (try simp only [zhcs, reduceCtorEq] at hc); (try (exfalso; first | (first | omega | exact absurd rfl hc) | contradiction | omega | exact absurd rfl hc | exact absurd (by decide) hc))))))
    all_goals ((with_reducible apply At.retV (B := [])); exact rfl; (repeat' (first | exact RVs.nil | (with_reducible apply RVs.cons) | exact rv_tmp (by rfl) | exact rv_cellN (by rfl) (by repeat constructor) (by rfl) (by rfl) (by rfl) | exact rv_cell1 (by rfl) (by repeat constructor) (by rfl) (by rfl))); exact zml; exact zkp; exact ⟨rfl, rfl, rfl⟩)
end Qy
end Go.Proofs.YtkoijdmlehkhbaaGreatDoor
namespace Go.Proofs.YtkoijdmlehkhbaaGreatDoor
open Go Go.J
attribute [local irreducible] At AtQ AtM AtM1 PR Ct Pu Rd Res.blk Res.own Res.ex RVs RV
/-- a series' labels, and its reply -/
structure Part where
  (lab : Lst Lab) (r : Rep)
namespace Part
abbrev cells : Part → List Value := fun p => p.lab.v :: Rep.cells p.r
abbrev v (p : Part) : Value := .agg (cells p).toArray
abbrev z : Part := ⟨Lst.nil, Rep.z⟩
instance : Inhabited Part := ⟨z⟩
instance : Fl cells 21 := ⟨fun _ => rfl, fun x v h => by
  simp at h
  rcases h with rfl | rfl | rfl | rfl | rfl | rfl | rfl | rfl | rfl | rfl | rfl | rfl | rfl | rfl | rfl | rfl | rfl | rfl | rfl | rfl | rfl <;> rfl, by decide⟩
end Part
namespace Qy
open Slot Ti Se St Win
open Fo hiding pt
theorem indexN {m : Mem} (fv : Value) : Rd Tryz.prog 187 #[.slice none 0 0, fv] m [] (.int .i64 (-1)) := by
  unfold Rd
  refine Ct.enterV (by rfl) Tryz.func187 rfl Tryz.ntmps187 rfl (fun w0 Rest => ?_)
  (repeat' (first | refine zss ?_ | refine zs0 ?_ | (refine zsp ?_ ?_ <;> (intro hc; (try simp only [zhcs, reduceCtorEq] at hc); (try (exfalso; first | contradiction | omega | exact absurd rfl hc | exact absurd (by decide) hc))))))
  (refine At.loopk (σ := Nat) [0, 1, 7] (fun s F0 => (8, .int .i64 (s : Int)) :: F0) (fun s => m) (fun s => Rest) (fun s => s = 0) (fun s => 0) 0 (by rfl) ?_ zsubs zml zente ?_)
  · rfl
  rintro s rfl
  (repeat' (first | refine zss ?_ | refine zs0 ?_ | (refine zsp ?_ ?_ <;> (intro hc; (try simp only [zhcs, reduceCtorEq] at hc); (try (exfalso; first | (first | omega | exact absurd rfl hc) | contradiction | omega | exact absurd rfl hc | exact absurd (by decide) hc))))))
  all_goals ((with_reducible apply At.retB1 (B := [])); exact rfl; exact rfl; exact zml; exact zkp; exact ⟨rfl, rfl, rfl⟩)
theorem containsN {m : Mem} (fv : Value) : Rd Tryz.prog 136 #[.slice none 0 0, fv] m [] (.bool false) := by
  unfold Rd
  have k := fun (m' : Mem) (h : m.le m') => indexN (m := m') fv
  refine Ct.enterV (by rfl) Tryz.func136 rfl Tryz.ntmps136 rfl (fun w0 Rest => ?_)
  (repeat' (first | refine zss ?_ | refine zs0 ?_ | ((with_reducible first | apply AtM1.cr | apply AtQ.cr | apply At.cr); exact rfl; exact rfl; exact fun _ hmm => k _ hmm; exact ztk; kernel_rfl) | (refine zsp ?_ ?_ <;> (intro hc; (try simp only [zhcs, reduceCtorEq] at hc); (try (exfalso; first | (first | omega | exact absurd rfl hc) | contradiction | omega | exact absurd rfl hc | exact absurd (by decide) hc))))))
  all_goals ((with_reducible apply At.retB1 (B := [])); exact rfl; exact rfl; exact zml; exact zkp; exact ⟨rfl, rfl, rfl⟩)
theorem checkN {m : Mem} : Rd Tryz.prog 86 #[.slice none 0 0] m [] (.int .i64 0) := by
  unfold Rd
  have k := fun (m' : Mem) (h : m.le m') => containsN (m := m')
  refine Ct.enterV (by rfl) Tryz.func86 rfl Tryz.ntmps86 rfl (fun w0 Rest => ?_)
  (repeat' (first | refine zss ?_ | refine zs0 ?_ | ((with_reducible first | apply AtM1.cr | apply AtQ.cr | apply At.cr); exact rfl; exact rfl; exact fun _ hmm => k _ hmm _; exact ztk; kernel_rfl) | (refine zsp ?_ ?_ <;> (intro hc; (try simp only [zhcs, reduceCtorEq] at hc); (try (exfalso; first | (first | omega | exact absurd rfl hc) | contradiction | omega | exact absurd rfl hc | exact absurd (by decide) hc))))))
  all_goals ((with_reducible apply At.retB1 (B := [])); exact rfl; exact rfl; exact zml; exact zkp; exact ⟨rfl, rfl, rfl⟩)
theorem allN {m : Mem} (l : Lst Lab) : Rd Tryz.prog 87 #[.slice none 0 0, l.v] m [] (.bool true) := by
  unfold Rd
  have k := fun (m' : Mem) (h : m.le m') => containsN (m := m')
  refine Ct.enterV (by rfl) Tryz.func87 rfl Tryz.ntmps87 rfl (fun w0 Rest => ?_)
  (repeat' (first | refine zss ?_ | refine zs0 ?_ | ((with_reducible first | apply AtM1.cr | apply AtQ.cr | apply At.cr); exact rfl; exact rfl; exact fun _ hmm => k _ hmm _; exact ztk; kernel_rfl) | ((with_reducible apply At.box (d := 3)); exact rfl; exact rfl; exact rfl; intro b3) | (refine zsp ?_ ?_ <;> (intro hc; (try simp only [zhcs, reduceCtorEq] at hc); (try (exfalso; first | (first | omega | exact absurd rfl hc) | contradiction | omega | exact absurd rfl hc | exact absurd (by decide) hc))))))
  all_goals ((with_reducible apply At.retB1 (B := [])); exact rfl; exact rfl; exact zml; exact zkp; exact ⟨rfl, rfl, rfl⟩)
/-- those that live -/
def lv (u : Sta) : List Nat := (List.range u.pl.l.length).filter fun i => liv u u.pl.l[i]!
theorem lvs_lv (u : Sta) : lvs u u.pl.l.length = (lv u).map Int.ofNat := rfl
theorem lv_lt {u : Sta} {i : Nat} (h : i ∈ lv u) : i < u.pl.l.length ∧ liv u u.pl.l[i]! = true := by
  obtain ⟨h1, h2⟩ := List.mem_filter.1 h
  exact ⟨List.mem_range.1 h1, h2⟩
theorem lv_len (u : Sta) : (lv u).length ≤ u.pl.l.length := by
  have := List.length_filter_le (fun i => liv u u.pl.l[i]!) (List.range u.pl.l.length)
  rwa [List.length_range] at this
/-- what one is told -/
def dI (u : Sta) (k a b : Int) (i : Nat) : Rep × Int := doG u u.pl.l[i]!.lab.l k a b
/-- the first error -/
def errL (f : Nat → Rep × Int) : List Nat → Int
  | [] => 0
  | i :: l => if (f i).2 ≠ 0 then (f i).2 else errL f l
theorem errL_zero {f : Nat → Rep × Int} : ∀ {l : List Nat}, errL f l = 0 ↔ ∀ i ∈ l, (f i).2 = 0
  | [] => ⟨fun _ i h => absurd h List.not_mem_nil, fun _ => rfl⟩
  | i :: l => by
    unfold errL
    by_cases h : (f i).2 ≠ 0
    · rw [if_pos h]; exact ⟨fun e => absurd e h, fun e => absurd (e i (List.mem_cons_self ..)) h⟩
    · rw [if_neg h]
      refine errL_zero.trans ⟨fun e j hj => ?_, fun e j hj => e j (List.mem_cons_of_mem _ hj)⟩
      rcases List.mem_cons.1 hj with rfl | hj
      · omega
      · exact e j hj
theorem errL_at {f : Nat → Rep × Int} : ∀ {l : List Nat} {j : Nat}, j < l.length → (∀ i ∈ l.take j, (f i).2 = 0) → (f l[j]!).2 ≠ 0 → errL f l = (f l[j]!).2
  | [], j, h, _, _ => absurd h (Nat.not_lt_zero _)
  | i :: l, 0, _, _, h => by
    unfold errL
    exact if_pos h
  | i :: l, j + 1, hj, h1, h2 => by
    unfold errL
    rw [if_neg (fun e => e (h1 i (List.mem_cons_self ..)))]
    exact errL_at (Nat.lt_of_succ_lt_succ hj) (fun x hx => h1 x (List.mem_cons_of_mem _ hx)) h2
def prtL (u : Sta) (f : Nat → Rep × Int) (l : List Nat) : List Part := (l.filter fun i => decide (0 < (f i).1.c.n)).map fun i => ⟨u.pl.l[i]!.lab, (f i).1⟩
theorem prtL_snoc (u : Sta) (f : Nat → Rep × Int) {l : List Nat} {j : Nat} (h : j < l.length) :
    prtL u f (l.take (j + 1)) = prtL u f (l.take j) ++ if 0 < (f l[j]!).1.c.n then [⟨u.pl.l[l[j]!]!.lab, (f l[j]!).1⟩] else [] := by
  unfold prtL
  rw [Ls.take_snoc h, List.filter_append, List.map_append]
  congr 1
  generalize l[j]! = x
  by_cases hp : 0 < (f x).1.c.n
  · rw [if_pos hp, List.filter_cons, if_pos (decide_eq_true hp)]; rfl
  · rw [if_neg hp, List.filter_cons, if_neg (by rw [decide_eq_false hp]; decide)]; rfl
theorem prtL_len (u : Sta) (f : Nat → Rep × Int) (l : List Nat) : (prtL u f l).length ≤ l.length := by
  unfold prtL; rw [List.length_map]; exact List.length_filter_le _ _
def parE (u : Sta) (t a b : Int) : Int := if (tierG u t a b).2 ≠ 0 then (tierG u t a b).2 else errL (dI u (tierG u t a b).1 a b) (lv u)
def prtG (u : Sta) (t a b : Int) : List Part := if parE u t a b = 0 then prtL u (dI u (tierG u t a b).1 a b) (lv u) else []
theorem map_get {l : List Nat} {j : Nat} (h : j < l.length) : (l.map Int.ofNat)[j]! = ((l[j]! : Nat) : Int) := by
  rw [getElem!_pos _ j (by rwa [List.length_map]), List.getElem_map, getElem!_pos l j h]; rfl
abbrev fNat : Nat → List Value := fun n => [.int .i64 (n : Int)]
instance : Fl fNat 1 := ⟨fun _ => rfl, fun x v h => by simp at h; subst h; rfl, by decide⟩
theorem sl_nat {m : Mem} {p : Option Addr} {c : Nat} {l : List Nat} (h : Sl m Ls.fI 1 p c (l.map Int.ofNat)) : Sl m fNat 1 p c l := by
  refine ⟨inferInstance, by have := h.le; rwa [List.length_map] at this, h.big, h.nil, fun a ha hp => ?_⟩
  obtain ⟨h1, E, cs, fz, h2, h3, h4⟩ := h.some a ha hp
  refine ⟨h1, E, cs, fz, h2, h3, fun i j hi hj => (h4 i j (by rwa [List.length_map]) hj).trans ?_⟩
  rw [map_get hi]
theorem live_ {m : Mem} (u : Sta) (hs : u.Ok m) (hw : whole u) : Ct Tryz.prog 13 #[u.v] m [] (fun v m' B => B = [] ∧ ∃ p c, v = .slice p (lv u).length c ∧ Sl m' fNat 1 p c (lv u)) :=
  Ct.mono (live u hs) fun v m' B _ ⟨h1, p, c, h2, h3⟩ => by
    rw [if_pos hw, lvs_lv] at h2 h3
    rw [List.length_map] at h2
    exact ⟨h1, p, c, h2, sl_nat h3⟩
structure PS where
  (j : Nat) (p : Option Addr) (c : Nat)
theorem parts_ {m : Mem} (hz : Ra.TZ m) (u : Sta) (t a b : Int) (hs : u.Ok m) (hok : okU u) :
    Ct Tryz.prog 40 #[u.v, .slice none 0 0, .int .i64 t, .int .i64 a, .int .i64 b] m [] (fun v m' B => ∃ p c, v = .tuple #[.slice p (prtG u t a b).length c, .int .i64 (if parE u t a b = 0 then (tierG u t a b).1 else 0), .int .i64 (parE u t a b)] ∧ B = [.own Part.cells 21 113 p c (prtG u t a b)]) := by
  have k0 := fun (m' : Mem) (hm : m.le m') => check u (hs.mono hm)
  rw [show chk u = 0 from if_pos hok] at k0
  have k1 := fun (m' : Mem) (hm : m.le m') => tier_ u t a b (hs.mono hm) hok
  have kc := fun (m' : Mem) => checkN (m := m')
  unfold prtG parE
  generalize tierG u t a b = T at k1 ⊢
  obtain ⟨k, e⟩ := T
  dsimp only at k1 ⊢
  by_cases h1 : e ≠ 0
  · rw [if_pos h1, if_neg h1, if_neg h1]
    clear hs hok
    refine Ct.enterV (by rfl) Tryz.func40 rfl Tryz.ntmps40 rfl (fun w0 Rest => ?_)
    (repeat' (first | refine zss ?_ | refine zs0 ?_ | ((with_reducible first | apply AtM1.cr | apply AtQ.cr | apply At.cr); exact rfl; exact rfl; exact fun _ hmm => k0 _ hmm; exact ztk; kernel_rfl) | ((with_reducible first | apply AtM1.cr | apply AtQ.cr | apply At.cr); exact rfl; exact rfl; exact fun _ hmm => kc _; exact ztk; kernel_rfl) | ((with_reducible first | apply AtM1.cr | apply AtQ.cr | apply At.cr); exact rfl; exact rfl; exact fun _ hmm => k1 _ hmm; exact ztk; kernel_rfl) | ((with_reducible apply At.box (d := 5)); exact rfl; exact rfl; exact rfl; intro b5) | ((with_reducible apply At.alloc (d := 19)); exact rfl; exact rfl; intro b19) | (refine zsp ?_ ?_ <;> (intro hc; (try simp only [zhcs, reduceCtorEq] at hc); (try (exfalso; first | (first | omega | exact absurd rfl hc | exact absurd hc h1) | contradiction | omega | exact absurd rfl hc | exact absurd (by decide) hc))))))
    all_goals refine At.own_nil Part.cells 21 113 ?_
    all_goals ((with_reducible apply At.retV (B := [.own Part.cells 21 113 none 0 []])); exact rfl; (repeat' (first | exact RVs.nil | (with_reducible apply RVs.cons) | exact rv_tmp (by rfl) | exact rv_cellN (by rfl) (by repeat constructor) (by rfl) (by rfl) (by rfl) | exact rv_cell1 (by rfl) (by repeat constructor) (by rfl) (by rfl))); exact zml; exact zkp; exact ⟨none, 0, rfl, rfl⟩)
  rw [if_neg h1]
  obtain rfl : e = 0 := by omega
  have kl := fun (m' : Mem) (hm : m.le m') => live_ u (hs.mono hm) hok.1
  obtain ⟨L, hL⟩ : ∃ L, lv u = L := ⟨_, rfl⟩
  obtain ⟨f, hf⟩ : ∃ f, dI u k a b = f := ⟨_, rfl⟩
  have hlt : ∀ i ∈ L, i < u.pl.l.length := fun i hi => (lv_lt (hL ▸ hi)).1
  have hlen : L.length ≤ 1000000 := hL ▸ Nat.le_trans (lv_len u) hs.np
  rw [hL] at kl
  rw [hL, hf]
  clear h1
  refine Ct.enterV (by rfl) Tryz.func40 rfl Tryz.ntmps40 rfl (fun w0 Rest => ?_)
  (repeat' (first | refine zss ?_ | refine zsM ?_ | ((with_reducible first | apply AtM1.cr | apply AtQ.cr | apply At.cr); exact rfl; exact rfl; exact fun _ hmm => k0 _ hmm; exact ztk; kernel_rfl) | ((with_reducible first | apply AtM1.cr | apply AtQ.cr | apply At.cr); exact rfl; exact rfl; exact fun _ hmm => kc _; exact ztk; kernel_rfl) | ((with_reducible first | apply AtM1.cr | apply AtQ.cr | apply At.cr); exact rfl; exact rfl; exact fun _ hmm => k1 _ hmm; exact ztk; kernel_rfl) | ((with_reducible first | apply At.c1 | apply At.c0); exact rfl; exact rfl; exact kl _ zml; exact ztk; kernel_rfl; rintro v' m' B' hm' ⟨rfl, p0, c0, rfl, sl9⟩; (try replace sl1 := sl1.mono hm'); (try replace sl7 := sl7.mono hm'); (try replace sl8 := sl8.mono hm'); (try replace sl9 := sl9.mono hm'); (try (have hq0 : hm' = Mem.le_refl _ := rfl; clear hq0 hm'))) | ((with_reducible apply At.box (d := 5)); exact rfl; exact rfl; exact rfl; intro b5) | ((with_reducible apply At.alloc (d := 19)); exact rfl; exact rfl; intro b19) | (refine zsp ?_ ?_ <;> (intro hc; (try simp only [zhcs, reduceCtorEq] at hc); (try (exfalso; first | (first | omega | exact absurd rfl hc) | contradiction | omega | exact absurd rfl hc | exact absurd (by decide) hc))))))
  replace hs := hs.mono hm'
  replace hz := hz.mono hm'
  have ka := fun (m2 : Mem) => allN (m := m2)
  clear k0 k1 kl kc
  refine At.own_nil Part.cells 21 113 ?_
  (refine At.loopk (σ := PS) [1, 3, 4, 5, 13, 41, 42] (fun s F0 => (43, .int .i64 (s.j : Int)) :: (15, .slice s.p (prtL u f (L.take s.j)).length s.c) :: F0) (fun s => m') (fun s => .own Part.cells 21 113 s.p s.c (prtL u f (L.take s.j)) :: .blk b5 28 u.cells :: Rest) (fun s => s.j ≤ L.length ∧ ∀ i ∈ L.take s.j, (f i).2 = 0) (fun s => L.length - s.j) ⟨0, none, 0⟩ (by rfl) ?_ zsubs zml zente ?_)
  · exact ⟨Nat.zero_le _, fun i h => absurd h List.not_mem_nil⟩
  rintro ⟨j, p, c⟩ ⟨hj, he⟩
  dsimp only at hj he ⊢
  by_cases h : j < L.length
  · have hi := hlt _ (Ls.mem! h)
    have hx := hs.at hi
    have sl8 := hs.sl
    have sl7 := hx.sl
    have hsn := prtL_snoc u f h
    have hbad := errL_at h he
    have hle := prtL_len u f (L.take j)
    rw [List.length_take] at hle
    have k2 := fun (m2 : Mem) (hm2 : m'.le m2) => do_ (m := m2) (hz.mono hm2) u ⟨u.pl.l[L[j]!]!.lab, k, a, b⟩ (hs.mono hm2) hok hx.ml (Nat.le_trans hx.nl (by decide)) (sl7.mono hm2)
    have e1 : doG u u.pl.l[L[j]!]!.lab.l k a b = f L[j]! := by rw [← hf]; rfl
    try dsimp only at k2
    rw [e1] at k2
    have hsn' : ∀ i ∈ L.take (j + 1), (f L[j]!).2 = 0 → (f i).2 = 0 := fun i hi h0 => by
      rw [Ls.take_snoc h] at hi
      rcases List.mem_append.1 hi with hi | hi
      · exact he i hi
      · rw [List.mem_singleton.1 hi]; exact h0
    clear e1 hf hL hlt hx he hok
    generalize f L[j]! = R at k2 hsn hsn' hbad
    obtain ⟨r, e⟩ := R
    (try dsimp only at k2); (try dsimp only at hsn); (try dsimp only at hsn'); (try dsimp only at hbad)
    generalize prtL u f (L.take j) = O at hsn hle ⊢
    by_cases h2 : e ≠ 0
    · rw [hbad h2, if_neg h2, if_neg h2]
      clear hsn hsn'
      (repeat' (first | refine zss ?_ | ((first | (with_reducible first | apply At.val | apply AtQ.val)); (exact pr_index_memi (by rfl) (by rfl) sl8 (by rfl) (by rfl) (by rfl) (by omega) (by omega)); exact rfl) | refine zsM ?_ | ((with_reducible first | apply AtM1.cr | apply AtQ.cr | apply At.cr); exact rfl; exact rfl; exact fun _ hmm => ka _ _; exact ztk; kernel_rfl) | ((with_reducible first | apply AtM1.cr | apply AtQ.cr | apply At.cr); exact rfl; exact rfl; exact fun _ hmm => k2 _ hmm; exact ztk; kernel_rfl) | ((with_reducible apply At.box (d := 5)); exact rfl; exact rfl; exact rfl; intro b5) | ((with_reducible apply At.alloc (d := 19)); exact rfl; exact rfl; intro b19) | (refine zsp ?_ ?_ <;> (intro hc; (try simp only [zhcs, reduceCtorEq] at hc); (try (exfalso; first | (first | omega | exact absurd rfl hc | exact absurd hc h2) | contradiction | omega | exact absurd rfl hc | exact absurd (by decide) hc))))))
      all_goals refine At.own_nil Part.cells 21 113 ?_
      all_goals ((with_reducible apply At.retV (B := [.own Part.cells 21 113 none 0 []])); exact rfl; (repeat' (first | exact RVs.nil | (with_reducible apply RVs.cons) | exact rv_tmp (by rfl) | exact rv_cellN (by rfl) (by repeat constructor) (by rfl) (by rfl) (by rfl) | exact rv_cell1 (by rfl) (by repeat constructor) (by rfl) (by rfl))); exact zml; exact zkp; exact ⟨none, 0, rfl, rfl⟩)
    obtain rfl : e = 0 := by omega
    clear h2 hbad
    by_cases h3 : 0 < r.c.n
    · rw [if_pos h3] at hsn
      (repeat' (first | refine zss ?_ | refine zsOM ?_ | ((with_reducible first | apply AtM1.cr | apply AtQ.cr | apply At.cr); exact rfl; exact rfl; exact fun _ hmm => ka _ _; exact ztk; kernel_rfl) | ((with_reducible first | apply AtM1.cr | apply AtQ.cr | apply At.cr); exact rfl; exact rfl; exact fun _ hmm => k2 _ hmm; exact ztk; kernel_rfl) | ((with_reducible apply At.litF Part.cells [(⟨u.pl.l[L[j]!]!.lab, r⟩ : Part)]); exact inferInstance; (iterate 7 exact rfl); intro b' m' hm' sl1; (try replace sl7 := sl7.mono hm'); (try replace sl8 := sl8.mono hm'); (try replace sl9 := sl9.mono hm')) | ((with_reducible apply At.apW (f := Part.cells) (l := O)); exact rfl; exact rfl; exact (by repeat constructor); exact inferInstance; exact zrdl; (iterate 4 exact rfl); exact zom; exact rfl; intro p2 c2) | ((with_reducible apply At.box (d := 5)); exact rfl; exact rfl; exact rfl; intro b5) | ((with_reducible apply At.alloc (d := 19)); exact rfl; exact rfl; intro b19) | (refine zsp ?_ ?_ <;> (intro hc; (try simp only [zhcs, reduceCtorEq] at hc); (try (exfalso; first | (first | omega | exact absurd rfl hc) | contradiction | omega | exact absurd rfl hc | exact absurd (by decide) hc))))))
      all_goals rw [← hsn]
      all_goals ((with_reducible refine At.reachk ((⟨j + 1, p2, c2⟩ : PS)) ?_ ?_ ?_ ?_); exact zsubs; exact zml; exact zente; exact ⟨⟨h, fun i hi => hsn' i hi rfl⟩, by dsimp only; omega⟩)
    · rw [if_neg h3, List.append_nil] at hsn
      (repeat' (first | refine zss ?_ | refine zsOM ?_ | ((with_reducible first | apply AtM1.cr | apply AtQ.cr | apply At.cr); exact rfl; exact rfl; exact fun _ hmm => ka _ _; exact ztk; kernel_rfl) | ((with_reducible first | apply AtM1.cr | apply AtQ.cr | apply At.cr); exact rfl; exact rfl; exact fun _ hmm => k2 _ hmm; exact ztk; kernel_rfl) | ((with_reducible apply At.box (d := 5)); exact rfl; exact rfl; exact rfl; intro b5) | ((with_reducible apply At.alloc (d := 19)); exact rfl; exact rfl; intro b19) | (refine zsp ?_ ?_ <;> (intro hc; (try simp only [zhcs, reduceCtorEq] at hc); (try (exfalso; first | (first | omega | exact absurd rfl hc) | contradiction | omega | exact absurd rfl hc | exact absurd (by decide) hc))))))
      all_goals rw [← hsn]
      all_goals ((with_reducible refine At.reachk ((⟨j + 1, p, c⟩ : PS)) ?_ ?_ ?_ ?_); exact zsubs; exact zml; exact zente; exact ⟨⟨h, fun i hi => hsn' i hi rfl⟩, by dsimp only; omega⟩)
  · obtain rfl : j = L.length := by omega
    rw [List.take_length] at he ⊢
    rw [errL_zero.2 he, if_pos rfl, if_pos rfl]
    clear hs hz hlt hf hL
    (repeat' (first | refine zss ?_ | refine zsM ?_ | ((with_reducible apply At.box (d := 5)); exact rfl; exact rfl; exact rfl; intro b5) | ((with_reducible apply At.alloc (d := 19)); exact rfl; exact rfl; intro b19) | (refine zsp ?_ ?_ <;> (intro hc; (try simp only [zhcs, reduceCtorEq] at hc); (try (exfalso; first | (first | omega | exact absurd rfl hc) | contradiction | omega | exact absurd rfl hc | exact absurd (by decide) hc))))))
    all_goals ((with_reducible apply At.retV (B := [.own Part.cells 21 113 p c (prtL u f L)])); exact rfl; (repeat' (first | exact RVs.nil | (with_reducible apply RVs.cons) | exact rv_tmp (by rfl) | exact rv_cellN (by rfl) (by repeat constructor) (by rfl) (by rfl) (by rfl) | exact rv_cell1 (by rfl) (by repeat constructor) (by rfl) (by rfl))); exact zml; exact zkp; exact ⟨p, c, rfl, rfl⟩)
end Qy
end Go.Proofs.YtkoijdmlehkhbaaGreatDoor
namespace Go.Proofs.YtkoijdmlehkhbaaGreatDoor
open Go.Sort
namespace Qu
/-- a right fraction of small numbers -/
def Sm (p : Nat × Nat) : Prop := p.1 < 18446744073709551616 ∧ p.2 < 18446744073709551616 ∧ 0 < p.2 ∧ Nat.gcd p.1 p.2 = 1
abbrev S : Type := { p : Nat × Nat // Sm p }
instance instS : Inhabited S := ⟨⟨(0, 1), by decide, by decide, by decide, by decide⟩⟩
def lq (x y : Nat × Nat) : Bool := decide (x.1 * y.2 ≤ y.1 * x.2)
def cfi (x y : Nat × Nat) : Int := if x.1 * y.2 < y.1 * x.2 then -1 else if y.1 * x.2 < x.1 * y.2 then 1 else 0
def cf (x y : S) : Int := cfi x.1 y.1
theorem lt_of {x y : S} : ltOf cf x y = decide (x.1.1 * y.1.2 < y.1.1 * x.1.2) := by
  unfold ltOf cf cfi
  by_cases h : x.1.1 * y.1.2 < y.1.1 * x.1.2
  · rw [if_pos h]; simp [h]
  · rw [if_neg h]
    by_cases h2 : y.1.1 * x.1.2 < x.1.1 * y.1.2
    · rw [if_pos h2]; simp [h]
    · rw [if_neg h2]; simp [h]
theorem tr (a b c d e f : Nat) (hd : 0 < d) (h1 : a * d ≤ c * b) (h2 : c * f ≤ e * d) : a * f ≤ e * b := by
  have h : d * (a * f) ≤ d * (e * b) :=
    calc d * (a * f) = (a * d) * f := by rw [← Nat.mul_assoc, Nat.mul_comm d a]
      _ ≤ (c * b) * f := Nat.mul_le_mul_right _ h1
      _ = (c * f) * b := Nat.mul_right_comm _ _ _
      _ ≤ (e * d) * b := Nat.mul_le_mul_right _ h2
      _ = d * (e * b) := by rw [Nat.mul_comm e d, Nat.mul_assoc]
  exact Nat.le_of_mul_le_mul_left h hd
theorem trs (a b c d e f : Nat) (hf : 0 < f) (h1 : a * d < c * b) (h2 : c * f ≤ e * d) : a * f < e * b := by
  have h : d * (a * f) < d * (e * b) :=
    calc d * (a * f) = (a * d) * f := by rw [← Nat.mul_assoc, Nat.mul_comm d a]
      _ < (c * b) * f := Nat.mul_lt_mul_of_pos_right h1 hf
      _ = (c * f) * b := Nat.mul_right_comm _ _ _
      _ ≤ (e * d) * b := Nat.mul_le_mul_right _ h2
      _ = d * (e * b) := by rw [Nat.mul_comm e d, Nat.mul_assoc]
  exact Nat.lt_of_mul_lt_mul_left h
theorem lq_total (x y : Nat × Nat) : (lq x y || lq y x) = true := by
  unfold lq
  rcases Nat.le_total (x.1 * y.2) (y.1 * x.2) with h | h
  · rw [decide_eq_true h]; rfl
  · rw [decide_eq_true h]; exact Bool.or_true _
theorem lq_not {x y : Nat × Nat} (h : lq x y = false) : lq y x = true := by
  have := lq_total x y; rw [h] at this; exact this
theorem lq_anti {x y : Nat × Nat} (hx : Sm x) (hy : Sm y) (h1 : lq x y = true) (h2 : lq y x = true) : x = y := by
  have e : x.1 * y.2 = y.1 * x.2 := Nat.le_antisymm (of_decide_eq_true h1) (of_decide_eq_true h2)
  obtain ⟨a, b⟩ := x
  obtain ⟨c, d⟩ := y
  have hbd : b ∣ d := Nat.Coprime.dvd_of_dvd_mul_left (show Nat.Coprime b a from (Nat.gcd_comm b a).trans hx.2.2.2) ⟨c, by rw [Nat.mul_comm b c]; exact e⟩
  have hdb : d ∣ b := Nat.Coprime.dvd_of_dvd_mul_left (show Nat.Coprime d c from (Nat.gcd_comm d c).trans hy.2.2.2) ⟨a, by rw [Nat.mul_comm d a]; exact e.symm⟩
  have h : b = d := Nat.dvd_antisymm hbd hdb
  subst h
  have : a = c := Nat.eq_of_mul_eq_mul_right hx.2.2.1 e
  rw [this]
theorem swo : Sort.SWO (ltOf cf) where
  irrefl x := by rw [lt_of]; exact decide_eq_false (Nat.lt_irrefl _)
  trans x y z h1 h2 := by
    rw [lt_of] at *
    exact decide_eq_true (trs _ _ _ _ _ _ z.2.2.2.1 (of_decide_eq_true h1) (Nat.le_of_lt (of_decide_eq_true h2)))
  ntrans x y z h1 h2 := by
    rw [lt_of] at *
    have h1 := Nat.not_lt.1 (of_decide_eq_false h1)
    have h2 := Nat.not_lt.1 (of_decide_eq_false h2)
    exact decide_eq_false (Nat.not_lt.2 (tr _ _ _ _ _ _ y.2.2.2.1 h2 h1))
theorem not_lt_of (x y : S) : (!ltOf cf y x) = lq x.1 y.1 := by
  rw [lt_of]
  unfold lq
  by_cases h : y.1.1 * x.1.2 < x.1.1 * y.1.2
  · rw [decide_eq_true h, decide_eq_false (Nat.not_le.2 h)]; rfl
  · rw [decide_eq_false h, decide_eq_true (Nat.not_lt.1 h)]; rfl
theorem cf_T (x y : S) (h1 : ltOf cf x y = false) (h2 : ltOf cf y x = false) : x = y := by
  have k1 := not_lt_of y x
  have k2 := not_lt_of x y
  rw [h1] at k1
  rw [h2] at k2
  exact Subtype.ext (lq_anti x.2 y.2 k2.symm k1.symm)
def srt (l : List (Nat × Nat)) : List (Nat × Nat) := l.mergeSort lq
theorem srt_map (L : List S) : (L.mergeSort fun x y => !ltOf cf y x).map Subtype.val = srt (L.map Subtype.val) :=
  List.map_mergeSort fun a _ b _ => not_lt_of a b
theorem lift {l : List (Nat × Nat)} (h : ∀ p ∈ l, Sm p) : ∃ L : List S, l = L.map Subtype.val := by
  refine ⟨l.attach.map fun p => ⟨p.1, h p.1 p.2⟩, ?_⟩
  rw [List.map_map]
  exact (List.attach_map_subtype_val l).symm
theorem srt_perm (l : List (Nat × Nat)) : (srt l).Perm l := List.mergeSort_perm _ _
theorem srt_len (l : List (Nat × Nat)) : (srt l).length = l.length := (srt_perm l).length_eq
theorem srt_mem {l : List (Nat × Nat)} {p : Nat × Nat} : p ∈ srt l ↔ p ∈ l := (srt_perm l).mem_iff
/-- how many are not greater -/
def cnt (f : Nat × Nat) (l : List (Nat × Nat)) : Nat := (l.filter fun y => lq y f).length
theorem cnt_le (f : Nat × Nat) (l : List (Nat × Nat)) : cnt f l ≤ l.length := List.length_filter_le _ _
/-- which one a part of n ends with -/
def up (x d : Nat) : Nat := if x % d = 0 then x / d else x / d + 1
def rk (n num den : Nat) : Nat := max (up (n * num) den) 1
theorem up_le {x d k : Nat} (hd : 0 < d) : up x d ≤ k ↔ x ≤ k * d := by
  unfold up
  have e := Nat.div_add_mod x d
  have hm := Nat.mod_lt x hd
  have hk : k * d = d * k := Nat.mul_comm _ _
  split
  · rename_i h
    rw [h, Nat.add_zero] at e
    constructor
    · intro hx
      have := Nat.mul_le_mul_left d hx
      omega
    · intro hx
      exact Nat.div_le_of_le_mul (by omega)
  · rename_i h
    constructor
    · intro hx
      have h1 := Nat.mul_le_mul_left d hx
      rw [Nat.mul_add, Nat.mul_one] at h1
      omega
    · intro hx
      refine Nat.succ_le_of_lt ?_
      refine (Nat.div_lt_iff_lt_mul hd).2 ?_
      have : x ≠ k * d := by
        rintro rfl
        exact h (Nat.mul_mod_left k d)
      omega
theorem rk_le {n num den : Nat} (hn : 1 ≤ n) (hd : 0 < den) (h : num ≤ den) : rk n num den ≤ n :=
  Nat.max_le.2 ⟨(up_le hd).2 (Nat.mul_le_mul_left _ h), hn⟩
theorem rk_one (n num den : Nat) : 1 ≤ rk n num den := Nat.le_max_right _ _
end Qu
end Go.Proofs.YtkoijdmlehkhbaaGreatDoor
namespace Go.Proofs.YtkoijdmlehkhbaaGreatDoor
open Go Go.J Go.RowKit Go.Sort
namespace Qu
section
variable {α : Type} [Inhabited α]
theorem flat_get {β : Type} {f : β → List Value} {g : α → β} {enc : α → List Value} {k : Nat} (hf : ∀ x, (f x).length = k) (he : ∀ x, f (g x) = enc x) (L : List α) {t : Nat} (h : t < L.length * k) :
    ((L.map g).flatMap f)[t]? = some ((flatK enc k L.toArray)[t]!) := by
  have k0 : 0 < k := by
    rcases Nat.eq_zero_or_pos k with h0 | h0
    · subst h0; simp at h
    · exact h0
  have hi : t / k < L.length := (Nat.div_lt_iff_lt_mul k0).2 h
  have hj := Nat.mod_lt t k0
  have e : ((L.map g).flatMap f) = L.flatMap enc := by
    rw [List.flatMap_map]
    congr 1
    exact funext he
  have hl : ∀ x, (enc x).length = k := fun x => by rw [← he, hf]
  rw [e, get_flatK enc k L.toArray t (by simpa using h)]
  have := flatMap_get hl L (t / k) (t % k) hi hj
  rw [Nat.div_add_mod' t k] at this
  rw [this]
  have e2 : L.toArray[t / k]! = L[t / k]! := by simp
  have hh : t % k < (enc L[t / k]!).length := by rw [hl]; exact hj
  rw [e2, List.getElem?_eq_getElem hh, getElem!_pos (enc L[t / k]!) (t % k) hh]
/-- what a world of the sort's is to one who owns the row -/
theorem own_sorted {P : Program} {β : Type} {fn : FuncId} {fv : Value} {f : β → List Value} {g : α → β} {enc : α → List Value} {k : Nat} (hf : ∀ x, (f x).length = k) (he : ∀ x, f (g x) = enc x) (h1 : ∀ x, ∀ v ∈ enc x, v.oneCell' = true)
    (so : Array α → Array α) (hso : ∀ d, (so d).size = d.size)
    (hN : ∀ (p : Option Addr) (cap : Nat) (w : World), Calls P fn #[.slice p 0 cap, fv] w fun e w' => e = .returned (.tuple #[]) ∧ w' = w)
    (hS : ∀ (blk off cap : Nat) (d : Array α) (w : World), HoldsK enc k w blk off d → blk < w.heap.size → d.size < 4611686018427387904 → Calls P fn #[.slice (some ⟨blk, off, none⟩) d.size cap, fv] w fun e w' => e = .returned (.tuple #[]) ∧ ∃ n os, w' = sortWorldK enc k w blk off n (so d) os)
    (m : Mem) (p : Option Addr) (c : Nat) (E : TypeId) (L : List α) (hL : L.length < 4611686018427387904) :
    Ct P fn #[.slice p L.length c, fv] m [.own f k E p c (L.map g)] fun v m' B => v = .tuple #[] ∧ m = m' ∧ B = [.own f k E p c ((so L.toArray).toList.map g)] := by
  intro w0 Rest w hw
  obtain ⟨s, ⟨s1, s2, hs1, hs2, hd, hs⟩, hm⟩ := hw.res
  rcases hs1 with ⟨rfl, rfl, hl, hn⟩ | ⟨b, o, cur, rfl, h2, h3, h4, h5, h6, h7⟩
  · have hl' : L = [] := List.map_eq_nil_iff.1 hl
    subst hl'
    refine (hN none 0 w).mono ?_
    rintro e w' ⟨rfl, rfl⟩
    have e0 : (so (#[] : Array α)).toList = [] := by
      have := hso #[]
      rw [← Array.length_toList] at this
      exact List.length_eq_zero_iff.1 this
    refine ⟨_, m, [_], rfl, Mem.le_refl m, ⟨rfl, rfl, rfl⟩, hw.os, hw.tape, hw.output, hw.size, hw.dr, hw.mem, s, ⟨s1, s2, .inl ⟨rfl, rfl, ?_, hn⟩, hs2, hd, hs⟩, hm⟩
    show ((so #[]).toList.map g) = []
    rw [e0]
    rfl
  · rw [List.length_map] at h3 h6
    have hH : HoldsK enc k w b o L.toArray := by
      intro j hj
      rw [size_flatK] at hj
      refine ⟨?_, by simp [World.frozen?, h2]⟩
      have hj' : j < L.length * k := by simpa using hj
      rw [World.cell_of h2, h6 j hj', flat_get hf he L hj']
      rfl
    have hblk : b < w.heap.size := (Array.getElem?_eq_some_iff.1 h2).1
    have hc := hS b o c L.toArray w hH hblk (by simpa using hL)
    rw [show (L.toArray).size = L.length from List.size_toArray] at hc
    refine hc.mono ?_
    rintro e w' ⟨rfl, n, os, rfl⟩
    have hb : ∀ i, i < w.heap.size → i ≠ b → (sortWorldK enc k w b o n (so L.toArray) os).heap[i]? = w.heap[i]? := fun i hi hne => by
      have e1 : (sortWorldK enc k w b o n (so L.toArray) os).heap[i]? = (putRowK enc k (Sort.ahead w n) b o (so L.toArray)).heap[i]? := Array.getElem?_append_left (by rw [size_putRowK]; exact hi)
      rw [e1]
      show (w.heap.modify b _)[i]? = _
      rw [Array.getElem?_modify, if_neg (Ne.symm hne)]
    have hbb : (sortWorldK enc k w b o n (so L.toArray) os).heap[b]? = some (.cells (putCells id o (flatK enc k (so L.toArray)) cur) E (0, 0)) := by
      have e1 : (sortWorldK enc k w b o n (so L.toArray) os).heap[b]? = (putRowK enc k (Sort.ahead w n) b o (so L.toArray)).heap[b]? := Array.getElem?_append_left (by rw [size_putRowK]; exact hblk)
      rw [e1]
      show (w.heap.modify b _)[b]? = _
      rw [Array.getElem?_modify, if_pos rfl, h2]
      rfl
    have hsz : w.heap.size ≤ (sortWorldK enc k w b o n (so L.toArray) os).heap.size := size_sortWorldK_c enc k w b o n _ os
    have hlen : (so L.toArray).size = L.length := by rw [hso]; exact List.size_toArray
    refine ⟨_, m, [_], rfl, Mem.le_refl m, ⟨rfl, rfl, rfl⟩, hw.os, hw.tape, hw.output, Nat.le_trans hw.size hsz, Nat.le_trans hw.dr (Nat.le_add_right _ _), fun i o' hi => ?_, s, ⟨s1, s2, .inr ⟨b, o, _, rfl, hbb, ?_, h4, ?_, fun j hj => ?_, h7⟩, Sat.loc hs2 fun i hi => ?_, hd, hs⟩, hm⟩
    · have h0 := hw.mem i o' hi
      rw [hb i (Array.getElem?_eq_some_iff.1 h0).1 ?_]
      · exact h0
      · rintro rfl
        rw [hm i ((hs i).2 (.inl ((h7 i).2 rfl)))] at hi
        cases hi
    · rw [List.length_map, Array.length_toList, hlen]; exact h3
    · rw [putCells, Array.size_mapIdx]; exact h5
    · rw [List.length_map, Array.length_toList, hlen] at hj
      have hjc : j < (so L.toArray).toList.length * k := by rw [Array.length_toList, hlen]; exact hj
      have hlt : o + j < cur.size := by
        have := Nat.mul_le_mul_right k h3
        omega
      rw [flat_get hf he _ hjc, putCells, Array.getElem?_mapIdx, Array.getElem?_eq_getElem hlt, Option.map_some, if_pos ⟨Nat.le_add_right _ _, by rw [size_flatK, hlen]; omega⟩, Nat.add_sub_cancel_left]
      rfl
    · have hlt : i < w.heap.size := Sat.dom hs2 hi
      refine hb i hlt ?_
      rintro rfl
      exact hd i ⟨(h7 i).2 rfl, hi⟩
end
end Qu
end Go.Proofs.YtkoijdmlehkhbaaGreatDoor
namespace Go.Proofs.YtkoijdmlehkhbaaGreatDoor
open Go Go.Shelf
set_option maxRecDepth 100000
def sllaysf0n6_ren : Go.Shelf.Ren := ⟨fun | 6 => 72 | 15 => 128 | 14 => 127 | 28 => 183 | 29 => 184 | 20 => 175 | 21 => 176 | 22 => 177 | 23 => 178 | 24 => 179 | 25 => 180 | 26 => 181 | 27 => 182 | 46 => 213 | 47 => 214 | 48 => 215 | 49 => 216 | 50 => 217 | 57 => 227 | n => n, fun | 22 => 152 | 24 => 157 | 25 => 158 | 3 => 3 | 39 => 211 | 0 => 0 | 53 => 268 | 55 => 39 | 4 => 4 | 46 => 261 | 45 => 260 | 50 => 265 | 5 => 5 | 9 => 9 | 66 => 295 | 70 => 299 | 76 => 307 | 77 => 308 | n => n, fun | n => n⟩
theorem sllaysf0n6 : Go.Proofs.SlLaysF0.n6 Tryz.prog sllaysf0n6_ren := {
  mixed := by kernel_rfl
  f6 := ⟨Tryz.f72.name, by decide, Tryz.func72.trans (congrArg some (by kernel_rfl))⟩
  f14 := ⟨Tryz.f127.name, by decide, Tryz.func127.trans (congrArg some (by kernel_rfl))⟩
  f15 := Tryz.func128.trans (congrArg some (by kernel_rfl))
  f20 := ⟨Tryz.f175.name, by decide, Tryz.func175.trans (congrArg some (by kernel_rfl))⟩
  f21 := ⟨Tryz.f176.name, by decide, Tryz.func176.trans (congrArg some (by kernel_rfl))⟩
  f22 := ⟨Tryz.f177.name, by decide, Tryz.func177.trans (congrArg some (by kernel_rfl))⟩
  f23 := ⟨Tryz.f178.name, by decide, Tryz.func178.trans (congrArg some (by kernel_rfl))⟩
  f24 := ⟨Tryz.f179.name, by decide, Tryz.func179.trans (congrArg some (by kernel_rfl))⟩
  f25 := ⟨Tryz.f180.name, by decide, Tryz.func180.trans (congrArg some (by kernel_rfl))⟩
  f26 := ⟨Tryz.f181.name, by decide, Tryz.func181.trans (congrArg some (by kernel_rfl))⟩
  f27 := ⟨Tryz.f182.name, by decide, Tryz.func182.trans (congrArg some (by kernel_rfl))⟩
  f28 := Tryz.func183.trans (congrArg some (by kernel_rfl))
  f29 := Tryz.func184.trans (congrArg some (by kernel_rfl))
  f46 := ⟨Tryz.f213.name, by decide, Tryz.func213.trans (congrArg some (by kernel_rfl))⟩
  f47 := Tryz.func214.trans (congrArg some (by kernel_rfl))
  f48 := Tryz.func215.trans (congrArg some (by kernel_rfl))
  f49 := ⟨Tryz.f216.name, by decide, Tryz.func216.trans (congrArg some (by kernel_rfl))⟩
  f50 := ⟨Tryz.f217.name, by decide, Tryz.func217.trans (congrArg some (by kernel_rfl))⟩
  f57 := ⟨Tryz.f227.name, by decide, Tryz.func227.trans (congrArg some (by kernel_rfl))⟩
  t0 := Tryz.underlying0
  a0 := Tryz.isAgg0
  z0 := Tryz.sizeOf0
  v0 := Tryz.zeroValue0
  t3 := Tryz.underlying3
  a3 := Tryz.isAgg3
  z3 := Tryz.sizeOf3
  v3 := Tryz.zeroValue3
  t4 := Tryz.underlying4
  a4 := Tryz.isAgg4
  z4 := Tryz.sizeOf4
  v4 := Tryz.zeroValue4
  t5 := Tryz.underlying5
  a5 := Tryz.isAgg5
  z5 := Tryz.sizeOf5
  v5 := Tryz.zeroValue5
  t9 := Tryz.underlying9
  a9 := Tryz.isAgg9
  z9 := Tryz.sizeOf9
  v9 := Tryz.zeroValue9
  t22 := Tryz.underlying152
  a22 := Tryz.isAgg152
  z22 := Tryz.sizeOf152
  v22 := Tryz.zeroValue152
  t25 := Tryz.underlying158
  a25 := Tryz.isAgg158
  z25 := Tryz.sizeOf158
  v25 := Tryz.zeroValue158
  t39 := Tryz.underlying211
  a39 := Tryz.isAgg211
  z39 := Tryz.sizeOf211
  v39 := Tryz.zeroValue211
  t45 := Tryz.underlying260
  a45 := Tryz.isAgg260
  z45 := Tryz.sizeOf260
  v45 := Tryz.zeroValue260
  t46 := Tryz.underlying261
  a46 := Tryz.isAgg261
  z46 := Tryz.sizeOf261
  v46 := Tryz.zeroValue261
  t50 := Tryz.underlying265
  a50 := Tryz.isAgg265
  z50 := Tryz.sizeOf265
  v50 := Tryz.zeroValue265
  t53 := Tryz.underlying268
  a53 := Tryz.isAgg268
  z53 := Tryz.sizeOf268
  v53 := Tryz.zeroValue268
  t55 := Tryz.underlying39
  a55 := Tryz.isAgg39
  z55 := Tryz.sizeOf39
  v55 := Tryz.zeroValue39
  t66 := Tryz.underlying295
  a66 := Tryz.isAgg295
  z66 := Tryz.sizeOf295
  v66 := Tryz.zeroValue295
  t70 := Tryz.underlying299
  a70 := Tryz.isAgg299
  z70 := Tryz.sizeOf299
  v70 := Tryz.zeroValue299
  t76 := Tryz.underlying307
  a76 := Tryz.isAgg307
  z76 := Tryz.sizeOf307
  v76 := Tryz.zeroValue307
  t77 := Tryz.underlying308
  a77 := Tryz.isAgg308
  z77 := Tryz.sizeOf308
  v77 := Tryz.zeroValue308 }
end Go.Proofs.YtkoijdmlehkhbaaGreatDoor
namespace Go.J
open Go Go.ChangeShapes Go.WideShapes Go.ChangeAt Go.RowKit
def memOf (W : World) : Mem := fun k => W.heap[k]?
theorem HW.init (W : World) : HW W (memOf W) [] W :=
  ⟨rfl, rfl, rfl, Nat.le_refl _, Nat.le_refl _, fun _ _ h => h, fun _ => False, fun _ h => h, fun _ h => h.elim⟩
theorem HW.below {W w' : World} {m' : Mem} {Rs : List Res} (h : HW W m' Rs w') (hm : (memOf W).le m') : Below W.heap.size W w' :=
  ⟨h.os, h.tape, h.output, h.size, fun k hk => by
    have hk' : W.heap[k]? = some W.heap[k] := Array.getElem?_eq_getElem hk
    rw [hk']
    exact h.mem k _ (hm k _ hk')⟩
theorem law_calls {P : Program} {f : FuncId} {args : Array Value} {W : World} (h : Ct P f args (memOf W) [] (fun v _ _ => v = .bool true)) :
    Calls P f args W fun e W' => e = .returned (.bool true) ∧ Below W.heap.size W W' :=
  (h W [] W (HW.init W)).mono fun _ _ ⟨_, _, _, he, hm, hv, hw⟩ => ⟨by rw [he, hv], hw.below hm⟩
/-- the arguments read as they did -/
theorem trodAll_below {H : Type} {enc : TypeId × Value → H} {P : Program} (hl : laidOutB P = true) {W W' : World} (hb : Below W.heap.size W W') :
    ∀ (ts : List TypeId) (vs : List Value) (ds : List (DataW H)) (ps : List MemPlace), (ts.all fun t => P.readableRec t && decide (t < P.types.size)) = true →
      DataW.TrodAll enc P W 0 (fun _ => true) true ts vs ds ps → (∀ x ∈ ps, x.block < W.heap.size) → DataW.TrodAll enc P W' 0 (fun b => decide (b < W.heap.size)) true ts vs ds ps
  | [], vs, ds, ps, _, h, _ => by
    obtain ⟨rfl, rfl, rfl⟩ := trodAll_nil h
    exact trodAll_mk0
  | t :: ts, vs, ds, ps, hr, h, hlt => by
    obtain ⟨v, vs', d, ds', p, q, rfl, rfl, rfl, h0, h1⟩ := trodAll_cons h
    simp only [List.all_cons, Bool.and_eq_true, decide_eq_true_eq] at hr
    exact trodAll_cons_mk (Below.trod hl hr.1.1 hr.1.2 h0 hb (fun x hx => hlt x (by simp [hx]))) (trodAll_below hl hb ts vs' ds' q hr.2 h1 (fun x hx => hlt x (by simp [hx])))
end Go.J
namespace Go.Proofs.YtkoijdmlehkhbaaGreatDoor
open Go Go.J
attribute [local irreducible] At AtQ AtM AtM1 PR Ct Pu Rd Res.blk Res.own Res.ex RVs RV
namespace Qu
open Wide
abbrev sm (p : Nat × Nat) : List Value := [.int .u64 (p.1 : Int), .int .u64 (p.2 : Int)]
abbrev sv (p : Nat × Nat) : Value := .agg (sm p).toArray
instance : Fl sm 2 := ⟨fun _ => rfl, fun x v h => by simp at h; rcases h with rfl | rfl <;> rfl, by decide⟩
theorem times_s (a b n : Nat) (ha : a < 18446744073709551616) (hn : n < 18446744073709551616) : Pu Tryz.prog 129 #[sv (a, b), .int .u64 (n : Int)] (wv (a * n)) := Pu.intro fun m => by
  have m1 := mul64 (a : Int) (n : Int) (by omega) (by omega) (by omega) (by omega)
  rw [← Int.natCast_mul] at m1
  generalize a * n = x at m1 ⊢
  refine Ct.enterV (by rfl) Tryz.func129 rfl Tryz.ntmps129 rfl (fun w0 Rest => ?_)
  (repeat' (first | refine zss ?_ | ((first | (with_reducible first | apply At.val | apply AtQ.val)); (exact zprA); exact rfl) | refine zs0 ?_ | ((with_reducible first | apply AtM1.callp | apply AtQ.callp | apply At.callp); kernel_rfl; exact rfl; exact rfl; exact m1) | ((with_reducible apply At.box (d := 2)); exact rfl; exact rfl; exact rfl; intro b2) | ((with_reducible apply At.alloc (d := 4)); exact rfl; exact rfl; intro b4) | (refine zsp ?_ ?_ <;> (intro hc; (try simp only [zhcs, reduceCtorEq] at hc); (try (exfalso; first | contradiction | omega | exact absurd rfl hc | exact absurd (by decide) hc))))))
  all_goals ((with_reducible apply At.retV (B := [])); exact rfl; (repeat' (first | exact RVs.nil | (with_reducible apply RVs.cons) | exact rv_tmp (by rfl) | exact rv_cellN (by rfl) (by repeat constructor) (by rfl) (by rfl) (by rfl) | exact rv_cell1 (by rfl) (by repeat constructor) (by rfl) (by rfl) | exact rv_cellA (by rfl) (by repeat constructor) (by rfl) (by rfl) zlq)); exact zml; exact zkp; exact ⟨wd_mk (by omega) (by omega), rfl, rfl⟩)
theorem compare_ (x y : Nat × Nat) (hx : Sm x) (hy : Sm y) : Pu Tryz.prog 73 #[sv x, sv y] (.int .i64 (cfi x y)) := Pu.intro fun m => by
  obtain ⟨a, b⟩ := x
  obtain ⟨c, d⟩ := y
  have k1 := times_s a b d hx.1 hy.2.1
  have k2 := times_s c d b hy.1 hx.2.1
  have k3 := less (a * d) (c * b)
  have k4 := less (c * b) (a * d)
  unfold cfi
  dsimp only
  clear hx hy
  generalize a * d = u at k1 k3 k4 ⊢
  generalize c * b = v at k2 k3 k4 ⊢
  by_cases h : u < v
  · rw [decide_eq_true h] at k3
    rw [if_pos h]
    clear h k4
    refine Ct.enterV (by rfl) Tryz.func73 rfl Tryz.ntmps73 rfl (fun w0 Rest => ?_)
    (repeat' (first | ((with_reducible apply At.mixed (id := 1) 12 (.q 0 (.q 1 (.q 2 (.q 3 (.q 4 (.q 5 (.q 6 (.q 7 (.b 8 9 (.l 9 (.x 10 (.x 11 .done))) (.l 8 (.x 10 (.x 11 .done))))))))))))); exact rfl; kernel_rfl; kernel_rfl; kernel_rfl) | refine zsx ?_ | refine zss ?_ | ((with_reducible apply AtM.bo); exact rfl; exact rfl; exact rfl) | ((first | (with_reducible first | apply At.val | apply AtQ.val) | ((with_reducible first | apply AtM1.valz | apply AtM1.val); exact rfl) | ((with_reducible apply AtM1.val); exact rfl)); (exact zprA); exact rfl) | refine zs0 ?_ | refine zx0 ?_ | ((with_reducible first | apply AtM1.callp | apply AtQ.callp | apply At.callp); kernel_rfl; exact rfl; exact rfl; exact k1) | ((with_reducible first | apply AtM1.callp | apply AtQ.callp | apply At.callp); kernel_rfl; exact rfl; exact rfl; exact k2) | ((with_reducible first | apply AtM1.callp | apply AtQ.callp | apply At.callp); kernel_rfl; exact rfl; exact rfl; exact k3) | ((with_reducible apply At.box (d := 2)); exact rfl; exact rfl; exact rfl; intro b2) | ((with_reducible apply At.box (d := 3)); exact rfl; exact rfl; exact rfl; intro b3) | ((with_reducible apply At.alloc (d := 5)); exact rfl; exact rfl; intro b5) | ((with_reducible apply At.alloc (d := 6)); exact rfl; exact rfl; intro b6) | (refine zsp ?_ ?_ <;> (intro hc; (try simp only [zhcs, reduceCtorEq] at hc); (try (exfalso; first | contradiction | omega | exact absurd rfl hc | exact absurd (by decide) hc))))))
    all_goals ((with_reducible apply At.retB1 (B := [])); exact rfl; exact rfl; exact zml; exact zkp; exact ⟨rfl, rfl, rfl⟩)
  · rw [decide_eq_false h] at k3
    rw [if_neg h]
    by_cases h2 : v < u
    · rw [decide_eq_true h2] at k4
      rw [if_pos h2]
      clear h h2
      refine Ct.enterV (by rfl) Tryz.func73 rfl Tryz.ntmps73 rfl (fun w0 Rest => ?_)
      (repeat' (first | ((with_reducible apply At.mixed (id := 1) 12 (.q 0 (.q 1 (.q 2 (.q 3 (.q 4 (.q 5 (.q 6 (.q 7 (.b 8 9 (.l 9 (.x 10 (.x 11 .done))) (.l 8 (.x 10 (.x 11 .done))))))))))))); exact rfl; kernel_rfl; kernel_rfl; kernel_rfl) | refine zsx ?_ | refine zss ?_ | ((with_reducible apply AtM.bo); exact rfl; exact rfl; exact rfl) | ((first | (with_reducible first | apply At.val | apply AtQ.val) | ((with_reducible first | apply AtM1.valz | apply AtM1.val); exact rfl) | ((with_reducible apply AtM1.val); exact rfl)); (exact zprA); exact rfl) | refine zs0 ?_ | refine zx0 ?_ | ((with_reducible first | apply AtM1.callp | apply AtQ.callp | apply At.callp); kernel_rfl; exact rfl; exact rfl; exact k1) | ((with_reducible first | apply AtM1.callp | apply AtQ.callp | apply At.callp); kernel_rfl; exact rfl; exact rfl; exact k2) | ((with_reducible first | apply AtM1.callp | apply AtQ.callp | apply At.callp); kernel_rfl; exact rfl; exact rfl; exact k3) | ((with_reducible first | apply AtM1.callp | apply AtQ.callp | apply At.callp); kernel_rfl; exact rfl; exact rfl; exact k4) | ((with_reducible apply At.box (d := 2)); exact rfl; exact rfl; exact rfl; intro b2) | ((with_reducible apply At.box (d := 3)); exact rfl; exact rfl; exact rfl; intro b3) | ((with_reducible apply At.alloc (d := 5)); exact rfl; exact rfl; intro b5) | ((with_reducible apply At.alloc (d := 6)); exact rfl; exact rfl; intro b6) | (refine zsp ?_ ?_ <;> (intro hc; (try simp only [zhcs, reduceCtorEq] at hc); (try (exfalso; first | contradiction | omega | exact absurd rfl hc | exact absurd (by decide) hc))))))
      all_goals ((with_reducible apply At.retB1 (B := [])); exact rfl; exact rfl; exact zml; exact zkp; exact ⟨rfl, rfl, rfl⟩)
    · rw [decide_eq_false h2] at k4
      rw [if_neg h2]
      clear h h2
      refine Ct.enterV (by rfl) Tryz.func73 rfl Tryz.ntmps73 rfl (fun w0 Rest => ?_)
      (repeat' (first | ((with_reducible apply At.mixed (id := 1) 12 (.q 0 (.q 1 (.q 2 (.q 3 (.q 4 (.q 5 (.q 6 (.q 7 (.b 8 9 (.l 9 (.x 10 (.x 11 .done))) (.l 8 (.x 10 (.x 11 .done))))))))))))); exact rfl; kernel_rfl; kernel_rfl; kernel_rfl) | refine zsx ?_ | refine zss ?_ | ((with_reducible apply AtM.bo); exact rfl; exact rfl; exact rfl) | ((first | (with_reducible first | apply At.val | apply AtQ.val) | ((with_reducible first | apply AtM1.valz | apply AtM1.val); exact rfl) | ((with_reducible apply AtM1.val); exact rfl)); (exact zprA); exact rfl) | refine zs0 ?_ | refine zx0 ?_ | ((with_reducible first | apply AtM1.callp | apply AtQ.callp | apply At.callp); kernel_rfl; exact rfl; exact rfl; exact k1) | ((with_reducible first | apply AtM1.callp | apply AtQ.callp | apply At.callp); kernel_rfl; exact rfl; exact rfl; exact k2) | ((with_reducible first | apply AtM1.callp | apply AtQ.callp | apply At.callp); kernel_rfl; exact rfl; exact rfl; exact k3) | ((with_reducible first | apply AtM1.callp | apply AtQ.callp | apply At.callp); kernel_rfl; exact rfl; exact rfl; exact k4) | ((with_reducible apply At.box (d := 2)); exact rfl; exact rfl; exact rfl; intro b2) | ((with_reducible apply At.box (d := 3)); exact rfl; exact rfl; exact rfl; intro b3) | ((with_reducible apply At.alloc (d := 5)); exact rfl; exact rfl; intro b5) | ((with_reducible apply At.alloc (d := 6)); exact rfl; exact rfl; intro b6) | (refine zsp ?_ ?_ <;> (intro hc; (try simp only [zhcs, reduceCtorEq] at hc); (try (exfalso; first | contradiction | omega | exact absurd rfl hc | exact absurd (by decide) hc))))))
      all_goals ((with_reducible apply At.retB1 (B := [])); exact rfl; exact rfl; exact zml; exact zkp; exact ⟨rfl, rfl, rfl⟩)
/-- what a call that changes nothing leaves of a world -/
theorem grown {P : Program} {f : FuncId} {args : Array Value} {V : Value} (h : Pu P f args V) (W : World) : Calls P f args W fun e w' => e = .returned V ∧ ∃ q os', w' = Go.Sort.grow (W.drewN q) os' := by
  unfold Pu Ct at h
  refine (h (memOf W) W [] W (HW.init W)).mono ?_
  rintro e w' ⟨v, m', B, rfl, hm, ⟨rfl, rfl, rfl⟩, hw⟩
  refine ⟨rfl, w'.drawn - W.drawn, w'.heap.extract W.heap.size w'.heap.size, ?_⟩
  have e0 : W.heap ++ w'.heap.extract W.heap.size w'.heap.size = w'.heap := by
    refine Array.ext_getElem? fun i => ?_
    have hs := hw.size
    by_cases hi : i < W.heap.size
    · rw [Array.getElem?_append_left hi]
      have := hw.mem i W.heap[i] (Array.getElem?_eq_getElem hi)
      rw [this, Array.getElem?_eq_getElem hi]
    · rw [Array.getElem?_append_right (Nat.le_of_not_lt hi), Array.getElem?_extract]
      have e1 : W.heap.size + (i - W.heap.size) = i := by omega
      rw [e1]
      split
      · rfl
      · rw [Array.getElem?_eq_none (by omega)]
  have h1 := hw.os
  have h2 := hw.tape
  have h3 := hw.output
  have h4 : W.drawn + (w'.drawn - W.drawn) = w'.drawn := by have := hw.dr; omega
  unfold Go.Sort.grow World.drewN
  dsimp only
  rw [e0, h4, ← h1, ← h2, ← h3]
theorem cmpLays (blk off size : Nat) (w : World) : Go.Proofs.CmpLays Tryz.prog 73 #[] (fun s : S => sm s.1) 2 cf blk off size w :=
  fun _ _ _ _ x y => grown (compare_ x.1 y.1 x.2 y.2) _
theorem sort_s {m : Mem} (p : Option Addr) (c : Nat) (L : List S) (hL : L.length < 4611686018427387904) :
    Ct Tryz.prog 72 #[.slice p L.length c, .func (.func 73) #[] #[]] m [.own sm 2 157 p c (L.map Subtype.val)] fun v m' B => v = .tuple #[] ∧ m = m' ∧ B = [.own sm 2 157 p c (srt (L.map Subtype.val))] := by
  have h := own_sorted (P := Tryz.prog) (fn := 72) (fv := .func (.func 73) #[] #[]) (f := sm) (g := Subtype.val) (enc := fun s : S => sm s.1) (k := 2)
    (fun _ => rfl) (fun _ => rfl) (fun x v hv => by simp at hv; rcases hv with rfl | rfl <;> rfl)
    (fun d => (d.toList.mergeSort fun x y => !ltOf cf y x).toArray) (fun d => by simp [List.length_mergeSort])
    (fun p cap w => AnyF.slices_SortFunc_none sllaysf0n6 p cap _ w)
    (fun blk off cap d w hH hblk hd => AnyQ.slices_SortFunc_total sllaysf0n6 2 Tryz.isAgg157 Tryz.sizeOf157 (fun s : S => sm s.1) (fun _ => rfl) (fun x v hv => by simp at hv; rcases hv with rfl | rfl <;> rfl) cf swo 73 #[] blk off cap d w
      (enters_of Tryz.func73 (by kernel_rfl) rfl) (cmpLays blk off d.size w) hH hblk hd cf_T)
    m p c 157 L hL
  dsimp only at h
  rw [← srt_map]
  exact h
end Qu
end Go.Proofs.YtkoijdmlehkhbaaGreatDoor
namespace Go.Proofs.YtkoijdmlehkhbaaGreatDoor
open Go Go.J
attribute [local irreducible] At AtQ AtM AtM1 PR Ct Pu Rd Res.blk Res.own Res.ex RVs RV
namespace Qu
open Wide
def In (x : Nat) : Prop := x < 340282366920938463463374607431768211456
abbrev fd (p : Nat × Nat) : List Value := wd p.1 ++ wd p.2
abbrev fv (p : Nat × Nat) : Value := .agg (fd p).toArray
def In2 (p : Nat × Nat) : Prop := In p.1 ∧ In p.2
instance : Fl fd 4 := ⟨fun _ => rfl, fun x v h => by simp at h; rcases h with rfl | rfl | rfl | rfl <;> rfl, by decide⟩
def bad (p : Nat × Nat) : Bool := decide (Ra.chk p.1 p.2 ≠ 0)
def big (p : Nat × Nat) : Bool := decide (18446744073709551616 ≤ p.1 ∨ 18446744073709551616 ≤ p.2)
def chkL (l : List (Nat × Nat)) : Int := if l.any bad = true then 2 else if l.any big = true then 1 else 0
theorem chk_two {a b : Nat} (h : Ra.chk a b ≠ 0) : Ra.chk a b = 2 := by
  unfold Ra.chk at h ⊢
  split
  · rfl
  · rename_i k
    rw [if_neg k] at h
    exact absurd rfl h
theorem chk_sm {p : Nat × Nat} (h1 : bad p = false) (h2 : big p = false) : Sm p := by
  have h1 := of_decide_eq_false h1
  have h2 := of_decide_eq_false h2
  have h3 : Ra.chk p.1 p.2 = 0 := Classical.byContradiction fun e => h1 e
  unfold Ra.chk at h3
  by_cases k : p.2 = 0 ∨ Nat.gcd p.1 p.2 ≠ 1
  · rw [if_pos k] at h3; exact absurd h3 (by decide)
  · exact ⟨by omega, by omega, by omega, Classical.byContradiction fun e => k (.inr e)⟩
theorem sm_chk {p : Nat × Nat} (h : Sm p) : bad p = false ∧ big p = false := by
  have h3 : Ra.chk p.1 p.2 = 0 := if_neg (by rintro (k | k); have := h.2.2.1; omega; exact k h.2.2.2)
  exact ⟨decide_eq_false (fun e => e h3), decide_eq_false (by have := h.1; have := h.2.1; omega)⟩
theorem chkL_ok {l : List (Nat × Nat)} (h : chkL l = 0) : ∀ p ∈ l, Sm p := by
  unfold chkL at h
  by_cases h1 : l.any bad = true
  · rw [if_pos h1] at h; exact absurd h (by decide)
  · rw [if_neg h1] at h
    by_cases h2 : l.any big = true
    · rw [if_pos h2] at h; exact absurd h (by decide)
    · intro p hp
      rw [Bool.not_eq_true, List.any_eq_false] at h1 h2
      exact chk_sm (Bool.not_eq_true _ ▸ h1 p hp) (Bool.not_eq_true _ ▸ h2 p hp)
theorem ok_chkL {l : List (Nat × Nat)} (h : ∀ p ∈ l, Sm p) : chkL l = 0 := by
  unfold chkL
  rw [if_neg, if_neg]
  · rw [Bool.not_eq_true, List.any_eq_false]
    intro p hp
    rw [(sm_chk (h p hp)).2]
    decide
  · rw [Bool.not_eq_true, List.any_eq_false]
    intro p hp
    rw [(sm_chk (h p hp)).1]
    decide
theorem any_snoc {l : List (Nat × Nat)} {f : Nat × Nat → Bool} {i : Nat} (h : i < l.length) : (l.take (i + 1)).any f = ((l.take i).any f || f l[i]!) := by
  rw [Ls.take_snoc h, List.any_append, List.any_cons, List.any_nil, Bool.or_false]
theorem or_big {p : Nat × Nat} (h : In2 p) : ∃ r : Int, bits .or .u64 ((p.1 / 18446744073709551616 : Nat) : Int) ((p.2 / 18446744073709551616 : Nat) : Int) = r ∧ decide (0 < r) = big p := by
  obtain ⟨a, b⟩ := p
  obtain ⟨ha, hb⟩ := h
  unfold In at ha hb
  dsimp only at ha hb ⊢
  refine ⟨_, rfl, ?_⟩
  unfold big
  dsimp only
  by_cases h0 : a / 18446744073709551616 = 0 ∧ b / 18446744073709551616 = 0
  · rw [or_zero (by omega) (by omega), decide_eq_false (show ¬ (18446744073709551616 ≤ a ∨ 18446744073709551616 ≤ b) by omega)]
    rfl
  · have hne := or_ne (a := ((a / 18446744073709551616 : Nat) : Int)) (b := ((b / 18446744073709551616 : Nat) : Int)) (by omega) (by omega) (by omega)
    rw [decide_eq_true (show (18446744073709551616 ≤ a ∨ 18446744073709551616 ≤ b) by omega)]
    rw [u64_or _ _ (by omega) (by omega) (by omega) (by omega)] at hne ⊢
    exact decide_eq_true (by omega)
structure CK where
  (i : Nat) (g : Bool)
theorem check_ {m : Mem} (ht : Ra.TZ m) (p : Option Addr) (c : Nat) (l : List (Nat × Nat)) (hl : l.length ≤ 1000000) (hb : ∀ x ∈ l, In2 x) (sl0 : Sl m fd 4 p c l) :
    Rd Tryz.prog 29 #[.slice p l.length c] m [] (.int .i64 (chkL l)) := by
  unfold Rd
  refine Ct.enterV (by rfl) Tryz.func29 rfl Tryz.ntmps29 rfl (fun w0 Rest => ?_)
  (repeat' (first | refine zss ?_ | refine zsM ?_ | ((with_reducible apply At.alloc (d := 5)); exact rfl; exact rfl; intro b5) | (refine zsp ?_ ?_ <;> (intro hc; (try simp only [zhcs, reduceCtorEq] at hc); (try (exfalso; first | omega | contradiction | omega | exact absurd rfl hc | exact absurd (by decide) hc))))))
  (refine At.loopk (σ := CK) [7, 8] (fun s F0 => (9, .int .i64 (s.i : Int)) :: (3, .bool s.g) :: F0) (fun s => m) (fun s => Rest) (fun s => s.i ≤ l.length ∧ (l.take s.i).any bad = false ∧ s.g = (l.take s.i).any big) (fun s => l.length - s.i) ⟨0, false⟩ (by rfl) ?_ zsubs zml zente ?_)
  · exact ⟨Nat.zero_le _, rfl, rfl⟩
  rintro ⟨i, g⟩ ⟨hi, h1, h2⟩
  dsimp only at hi h1 h2 ⊢
  by_cases h : i < l.length
  · have hx : In2 l[i]! := hb _ (Ls.mem! h)
    have k1 := fun (m' : Mem) (hm' : m.le m') => Ra.check (m := m') (ht.mono hm') l[i]!.1 l[i]!.2 hx.1 hx.2
    have e1 := any_snoc (f := bad) h
    have e2 := any_snoc (f := big) h
    by_cases hk : Ra.chk l[i]!.1 l[i]!.2 = 0
    · rw [hk] at k1
      rw [h1, show bad l[i]! = false from decide_eq_false (fun e => e hk), Bool.or_false] at e1
      obtain ⟨r, hr, hrb⟩ := or_big hx
      rw [← h2, ← hrb] at e2
      cases g
      · (repeat' (first | refine zss ?_ | ((first | (with_reducible first | apply At.val | apply AtQ.val)); (exact pr_or (by rfl) (by rfl) hr); exact rfl) | refine zsM ?_ | ((with_reducible first | apply AtM1.cr | apply AtQ.cr | apply At.cr); exact rfl; exact rfl; exact fun _ hmm => k1 _ hmm; exact ztk; kernel_rfl) | ((with_reducible apply At.alloc (d := 5)); exact rfl; exact rfl; intro b5) | (refine zsp ?_ ?_ <;> (intro hc; (try simp only [zhcs, reduceCtorEq] at hc); (try (exfalso; first | omega | contradiction | omega | exact absurd rfl hc | exact absurd (by decide) hc))))))
        all_goals ((with_reducible refine At.reachk (⟨i + 1, decide (0 < r)⟩) ?_ ?_ ?_ ?_); exact zsubs; exact zml; exact zente; exact ⟨⟨h, e1, by rw [e2, Bool.false_or]⟩, by dsimp only; omega⟩)
      · (repeat' (first | refine zss ?_ | refine zsM ?_ | ((with_reducible first | apply AtM1.cr | apply AtQ.cr | apply At.cr); exact rfl; exact rfl; exact fun _ hmm => k1 _ hmm; exact ztk; kernel_rfl) | ((with_reducible apply At.alloc (d := 5)); exact rfl; exact rfl; intro b5) | (refine zsp ?_ ?_ <;> (intro hc; (try simp only [zhcs, reduceCtorEq] at hc); (try (exfalso; first | omega | contradiction | omega | exact absurd rfl hc | exact absurd (by decide) hc))))))
        all_goals ((with_reducible refine At.reachk (⟨i + 1, true⟩) ?_ ?_ ?_ ?_); exact zsubs; exact zml; exact zente; exact ⟨⟨h, e1, by rw [e2, Bool.true_or]⟩, by dsimp only; omega⟩)
    · rw [chk_two hk] at k1
      have e3 : chkL l = 2 := if_pos (List.any_eq_true.2 ⟨_, Ls.mem! h, decide_eq_true hk⟩)
      rw [e3]
      (repeat' (first | refine zss ?_ | refine zsM ?_ | ((with_reducible first | apply AtM1.cr | apply AtQ.cr | apply At.cr); exact rfl; exact rfl; exact fun _ hmm => k1 _ hmm; exact ztk; kernel_rfl) | ((with_reducible apply At.alloc (d := 5)); exact rfl; exact rfl; intro b5) | (refine zsp ?_ ?_ <;> (intro hc; (try simp only [zhcs, reduceCtorEq] at hc); (try (exfalso; first | omega | contradiction | omega | exact absurd rfl hc | exact absurd (by decide) hc))))))
      all_goals ((with_reducible apply At.retB1 (B := [])); exact rfl; exact rfl; exact zml; exact zkp; exact ⟨rfl, rfl, rfl⟩)
  · rw [List.take_of_length_le (by omega)] at h1 h2
    cases g
    · have e3 : chkL l = 0 := by unfold chkL; rw [if_neg (by rw [h1]; decide), if_neg (by rw [← h2]; decide)]
      rw [e3]
      (repeat' (first | refine zss ?_ | refine zsM ?_ | ((with_reducible apply At.alloc (d := 5)); exact rfl; exact rfl; intro b5) | (refine zsp ?_ ?_ <;> (intro hc; (try simp only [zhcs, reduceCtorEq] at hc); (try (exfalso; first | omega | contradiction | omega | exact absurd rfl hc | exact absurd (by decide) hc))))))
      all_goals ((with_reducible apply At.retB1 (B := [])); exact rfl; exact rfl; exact zml; exact zkp; exact ⟨rfl, rfl, rfl⟩)
    · have e3 : chkL l = 1 := by unfold chkL; rw [if_neg (by rw [h1]; decide), if_pos h2.symm]
      rw [e3]
      (repeat' (first | refine zss ?_ | refine zsM ?_ | ((with_reducible apply At.alloc (d := 5)); exact rfl; exact rfl; intro b5) | (refine zsp ?_ ?_ <;> (intro hc; (try simp only [zhcs, reduceCtorEq] at hc); (try (exfalso; first | omega | contradiction | omega | exact absurd rfl hc | exact absurd (by decide) hc))))))
      all_goals ((with_reducible apply At.retB1 (B := [])); exact rfl; exact rfl; exact zml; exact zkp; exact ⟨rfl, rfl, rfl⟩)
def outO (l : List (Nat × Nat)) : List (Nat × Nat) := if chkL l = 0 then l else []
def outS (l : List (Nat × Nat)) : List (Nat × Nat) := if chkL l = 0 then srt l else []
theorem fill_set {l : List (Nat × Nat)} {i : Nat} (h : i < l.length) : (l.take i ++ List.replicate (l.length - i) (0, 0)).set i l[i]! = l.take (i + 1) ++ List.replicate (l.length - (i + 1)) (0, 0) := by
  rw [Ls.take_snoc h, List.set_append_right _ _ (by rw [List.length_take]; omega), List.length_take, show i - min i l.length = 0 by omega, show l.length - i = (l.length - (i + 1)) + 1 by omega, List.replicate_succ, List.set_cons_zero, List.append_assoc]
  rfl
theorem fill_len {l : List (Nat × Nat)} {i : Nat} (h : i ≤ l.length) : (l.take i ++ List.replicate (l.length - i) (0, 0)).length = l.length := by
  rw [List.length_append, List.length_take, List.length_replicate]; omega
theorem open_ {m : Mem} (ht : Ra.TZ m) (p : Option Addr) (c : Nat) (l : List (Nat × Nat)) (hl : l.length ≤ 1000000) (hb : ∀ x ∈ l, In2 x) (sl0 : Sl m fd 4 p c l) :
    Ct Tryz.prog 71 #[.slice p l.length c] m [] (fun v m' B => m = m' ∧ ∃ p' c', v = .tuple #[.slice p' (outO l).length c', .int .i64 (chkL l)] ∧ B = [.own sm 2 157 p' c' (outO l)]) := by
  have k1 := fun (m' : Mem) (hm' : m.le m') => check_ (m := m') (ht.mono hm') p c l hl hb (sl0.mono hm')
  unfold outO
  by_cases hk : chkL l = 0
  · have hsm := chkL_ok hk
    rw [hk] at k1 ⊢
    rw [if_pos rfl]
    refine Ct.enterV (by rfl) Tryz.func71 rfl Tryz.ntmps71 rfl (fun w0 Rest => ?_)
    (repeat' (first | refine zss ?_ | refine zsM ?_ | ((with_reducible first | apply AtM1.cr | apply AtQ.cr | apply At.cr); exact rfl; exact rfl; exact fun _ hmm => k1 _ hmm; exact ztk; kernel_rfl) | ((with_reducible apply At.makeN (f := sm) ((0, 0))); exact inferInstance; (iterate 5 exact rfl); exact zlq; exact rfl; exact zom; exact rfl; intro b9) | ((with_reducible apply At.alloc (d := 7)); exact rfl; exact rfl; intro b7) | (refine zsp ?_ ?_ <;> (intro hc; (try simp only [zhcs, reduceCtorEq] at hc); (try (exfalso; first | omega | contradiction | omega | exact absurd rfl hc | exact absurd (by decide) hc))))))
    rw [show List.replicate l.length ((0, 0) : Nat × Nat) = l.take 0 ++ List.replicate (l.length - 0) (0, 0) from rfl]
    (refine At.loopk (σ := Nat) [5, 16, 17] (fun s F0 => (18, .int .i64 (s : Int)) :: F0) (fun s => m) (fun s => .own sm 2 157 (some ⟨b9, 0, none⟩) l.length (l.take s ++ List.replicate (l.length - s) (0, 0)) :: Rest) (fun s => s ≤ l.length) (fun s => l.length - s) 0 (by rfl) ?_ zsubs zml zente ?_)
    · exact Nat.zero_le _
    rintro i hi
    by_cases h : i < l.length
    · have hs := fill_set h
      have hn := fill_len (Nat.le_of_lt h)
      have hx := hsm _ (Ls.mem! h)
      have ex : (l[i]!.1 % 18446744073709551616, l[i]!.2 % 18446744073709551616) = l[i]! := by
        rw [Nat.mod_eq_of_lt hx.1, Nat.mod_eq_of_lt hx.2.1]
      rw [← ex] at hs
      clear hx ex hsm hb
      generalize l.take i ++ List.replicate (l.length - i) ((0, 0) : Nat × Nat) = X at hs hn ⊢
      (repeat' (first | refine zss ?_ | refine zsOM ?_ | ((with_reducible apply At.storeW (f := sm) (x' := (l[i]!.1 % 18446744073709551616, l[i]!.2 % 18446744073709551616))); (case hx => exact rfl); (case hy => exact rfl); (case hv => exact rfl); (case hp => exact (by repeat constructor)); (case hr => exact rfl); (case hf => exact inferInstance); (case hk => exact zom); (case hs => exact rfl); (case hq => exact rfl); (case h1 => exact rfl)) | ((with_reducible apply At.alloc (d := 7)); exact rfl; exact rfl; intro b7) | (refine zsp ?_ ?_ <;> (intro hc; (try simp only [zhcs, reduceCtorEq] at hc); (try (exfalso; first | omega | contradiction | omega | exact absurd rfl hc | exact absurd (by decide) hc))))))
      all_goals rw [hs]
      all_goals ((with_reducible refine At.reachk ((i + 1)) ?_ ?_ ?_ ?_); exact zsubs; exact zml; exact zente; exact ⟨h, by omega⟩)
    · have e0 : l.take i ++ List.replicate (l.length - i) ((0, 0) : Nat × Nat) = l := by
        rw [List.take_of_length_le (by omega), show l.length - i = 0 by omega]
        exact List.append_nil l
      rw [e0]
      (repeat' (first | refine zss ?_ | refine zsM ?_ | ((with_reducible apply At.alloc (d := 7)); exact rfl; exact rfl; intro b7) | (refine zsp ?_ ?_ <;> (intro hc; (try simp only [zhcs, reduceCtorEq] at hc); (try (exfalso; first | omega | contradiction | omega | exact absurd rfl hc | exact absurd (by decide) hc))))))
      all_goals ((with_reducible apply At.retV (B := [.own sm 2 157 _ _ _])); exact rfl; (repeat' (first | exact RVs.nil | (with_reducible apply RVs.cons) | exact rv_tmp (by rfl) | exact rv_cellN (by rfl) (by repeat constructor) (by rfl) (by rfl) (by rfl) | exact rv_cell1 (by rfl) (by repeat constructor) (by rfl) (by rfl))); exact zml; exact zkp; exact ⟨rfl, _, _, rfl, rfl⟩)
  · rw [if_neg hk]
    refine Ct.enterV (by rfl) Tryz.func71 rfl Tryz.ntmps71 rfl (fun w0 Rest => ?_)
    (repeat' (first | refine zss ?_ | refine zsM ?_ | ((with_reducible first | apply AtM1.cr | apply AtQ.cr | apply At.cr); exact rfl; exact rfl; exact fun _ hmm => k1 _ hmm; exact ztk; kernel_rfl) | ((with_reducible apply At.alloc (d := 7)); exact rfl; exact rfl; intro b7) | (refine zsp ?_ ?_ <;> (intro hc; (try simp only [zhcs, reduceCtorEq] at hc); (try (exfalso; first | (first | omega | exact absurd hc hk) | contradiction | omega | exact absurd rfl hc | exact absurd (by decide) hc))))))
    refine At.own_nil sm 2 157 ?_
    all_goals ((with_reducible apply At.retV (B := [.own sm 2 157 _ _ _])); exact rfl; (repeat' (first | exact RVs.nil | (with_reducible apply RVs.cons) | exact rv_tmp (by rfl) | exact rv_cellN (by rfl) (by repeat constructor) (by rfl) (by rfl) (by rfl) | exact rv_cell1 (by rfl) (by repeat constructor) (by rfl) (by rfl))); exact zml; exact zkp; exact ⟨rfl, _, _, rfl, rfl⟩)
theorem fraction_ (p : Nat × Nat) (h : Sm p) : Pu Tryz.prog 74 #[sv p] (fv p) := Pu.intro fun m => by
  obtain ⟨a, b⟩ := p
  have k1 := of_ a h.1
  have k2 := of_ b h.2.1
  clear h
  refine Ct.enterV (by rfl) Tryz.func74 rfl Tryz.ntmps74 rfl (fun w0 Rest => ?_)
  (repeat' (first | ((with_reducible apply At.mixed (id := 1) 8 (.q 0 (.q 1 (.q 2 (.q 3 (.q 4 (.q 5 (.q 6 (.x 7 .done))))))))); exact rfl; kernel_rfl; kernel_rfl; kernel_rfl) | refine zsx ?_ | refine zss ?_ | ((with_reducible apply AtM.bo); exact rfl; exact rfl; exact rfl) | refine zs0 ?_ | refine zx0 ?_ | ((with_reducible first | apply AtM1.callp | apply AtQ.callp | apply At.callp); kernel_rfl; exact rfl; exact rfl; exact k1) | ((with_reducible first | apply AtM1.callp | apply AtQ.callp | apply At.callp); kernel_rfl; exact rfl; exact rfl; exact k2) | ((with_reducible apply At.box (d := 1)); exact rfl; exact rfl; exact rfl; intro b1) | ((with_reducible apply At.alloc (d := 2)); exact rfl; exact rfl; intro b2) | (refine zsp ?_ ?_ <;> (intro hc; (try simp only [zhcs, reduceCtorEq] at hc); (try (exfalso; first | contradiction | omega | exact absurd rfl hc | exact absurd (by decide) hc))))))
  all_goals ((with_reducible apply At.retV (B := [])); exact rfl; (repeat' (first | exact RVs.nil | (with_reducible apply RVs.cons) | exact rv_tmp (by rfl) | exact rv_cellN (by rfl) (by repeat constructor) (by rfl) (by rfl) (by rfl) | exact rv_cell1 (by rfl) (by repeat constructor) (by rfl) (by rfl))); exact zml; exact zkp; exact ⟨rfl, rfl, rfl⟩)
theorem fill_set' {l : List (Nat × Nat)} {i : Nat} (h : i < l.length) : (l.take i ++ List.replicate (l.length - i) (0, 0)).set i l[i]! = l.take (i + 1) ++ List.replicate (l.length - (i + 1)) (0, 0) := fill_set h
theorem sort_ {m : Mem} (ht : Ra.TZ m) (p : Option Addr) (c : Nat) (l : List (Nat × Nat)) (hl : l.length ≤ 1000000) (hb : ∀ x ∈ l, In2 x) (sl0 : Sl m fd 4 p c l) :
    Ct Tryz.prog 31 #[.slice p l.length c] m [] (fun v m' B => m = m' ∧ ∃ p' c', v = .tuple #[.slice p' (outS l).length c', .int .i64 (chkL l)] ∧ B = [.own fd 4 43 p' c' (outS l)]) := by
  have k1 := fun (m' : Mem) (hm' : m.le m') => open_ (m := m') (ht.mono hm') p c l hl hb (sl0.mono hm')
  unfold outS
  by_cases hk : chkL l = 0
  · have hsm := chkL_ok hk
    have eo : outO l = l := if_pos hk
    obtain ⟨L, rfl⟩ := lift hsm
    rw [eo, hk] at k1
    rw [hk, if_pos rfl]
    have k2 := fun (m' : Mem) (p' : Option Addr) (c' : Nat) => sort_s (m := m') p' c' L (by rw [List.length_map] at hl; omega)
    have en : L.length = (L.map Subtype.val).length := (List.length_map _).symm
    rw [en] at k2
    have hsS : ∀ x ∈ srt (L.map Subtype.val), Sm x := fun x hx => hsm x (srt_mem.1 hx)
    have hn := srt_len (L.map Subtype.val)
    generalize srt (L.map Subtype.val) = X at k2 hsS hn ⊢
    generalize L.map Subtype.val = l at *
    clear hk hsm eo hb en
    rw [← hn] at hl
    refine Ct.enterV (by rfl) Tryz.func31 rfl Tryz.ntmps31 rfl (fun w0 Rest => ?_)
    (repeat' (first | refine zss ?_ | refine zsOM ?_ | ((with_reducible first | apply At.c1 | apply At.c0); exact rfl; exact rfl; exact k1 _ zml; exact ztk; kernel_rfl; rintro v' m' B' hm' ⟨rfl, p1, c1, rfl, rfl⟩; (try replace sl0 := sl0.mono hm'); (try (have hq0 : hm' = Mem.le_refl _ := rfl; clear hq0 hm'))) | ((with_reducible first | apply At.c1 | apply At.c0); exact rfl; exact rfl; exact k2 _ p1 c1; exact ztk; kernel_rfl; rintro v' m' B' hm' ⟨rfl, rfl, rfl⟩; (try replace sl0 := sl0.mono hm'); (try (have hq0 : hm' = Mem.le_refl _ := rfl; clear hq0 hm'))) | ((with_reducible apply At.makeN (f := fd) ((0, 0))); exact inferInstance; (iterate 5 exact rfl); exact zlq; exact rfl; exact zom; exact rfl; intro b9) | ((with_reducible apply At.alloc (d := 8)); exact rfl; exact rfl; intro b8) | (refine zsp ?_ ?_ <;> (intro hc; (try simp only [zhcs, reduceCtorEq] at hc); (try (exfalso; first | omega | contradiction | omega | exact absurd rfl hc | exact absurd (by decide) hc))))))
    rw [← hn]
    rw [show List.replicate X.length ((0, 0) : Nat × Nat) = X.take 0 ++ List.replicate (X.length - 0) (0, 0) from rfl]
    (refine At.loopk (σ := Nat) [6, 22, 23] (fun s F0 => (24, .int .i64 (s : Int)) :: F0) (fun s => m) (fun s => .own fd 4 43 (some ⟨b9, 0, none⟩) X.length (X.take s ++ List.replicate (X.length - s) (0, 0)) :: .own sm 2 157 p1 c1 X :: Rest) (fun s => s ≤ X.length) (fun s => X.length - s) 0 (by rfl) ?_ zsubs zml zente ?_)
    · exact Nat.zero_le _
    rintro i hi
    by_cases h : i < X.length
    · have hs := fill_set' h
      have hm := fill_len (Nat.le_of_lt h)
      have k3 := fraction_ _ (hsS _ (Ls.mem! h))
      clear hsS k1 k2
      generalize X.take i ++ List.replicate (X.length - i) ((0, 0) : Nat × Nat) = Y at hs hm ⊢
      (repeat' (first | refine zss ?_ | refine zsO ?_ | ((with_reducible first | apply AtM1.callp | apply AtQ.callp | apply At.callp); kernel_rfl; exact rfl; exact rfl; exact k3) | ((with_reducible apply At.storeW (f := fd) (x' := (X[i]!))); (case hx => exact rfl); (case hy => exact rfl); (case hv => exact rfl); (case hp => exact (by repeat constructor)); (case hr => exact rfl); (case hf => exact inferInstance); (case hk => exact zom); (case hs => exact rfl); (case hq => exact rfl); (case h1 => exact rfl)) | ((with_reducible apply At.alloc (d := 8)); exact rfl; exact rfl; intro b8) | (refine zsp ?_ ?_ <;> (intro hc; (try simp only [zhcs, reduceCtorEq] at hc); (try (exfalso; first | omega | contradiction | omega | exact absurd rfl hc | exact absurd (by decide) hc))))))
      all_goals rw [hs]
      all_goals ((with_reducible refine At.reachk ((i + 1)) ?_ ?_ ?_ ?_); exact zsubs; exact zml; exact zente; exact ⟨h, by omega⟩)
    · have e0 : X.take i ++ List.replicate (X.length - i) ((0, 0) : Nat × Nat) = X := by
        rw [List.take_of_length_le (by omega), show X.length - i = 0 by omega]
        exact List.append_nil X
      rw [e0]
      (repeat' (first | refine zss ?_ | refine zsO ?_ | ((with_reducible apply At.alloc (d := 8)); exact rfl; exact rfl; intro b8) | (refine zsp ?_ ?_ <;> (intro hc; (try simp only [zhcs, reduceCtorEq] at hc); (try (exfalso; first | omega | contradiction | omega | exact absurd rfl hc | exact absurd (by decide) hc))))))
      all_goals ((with_reducible apply At.retV (B := [.own fd 4 43 _ _ _])); exact rfl; (repeat' (first | exact RVs.nil | (with_reducible apply RVs.cons) | exact rv_tmp (by rfl) | exact rv_cellN (by rfl) (by repeat constructor) (by rfl) (by rfl) (by rfl) | exact rv_cell1 (by rfl) (by repeat constructor) (by rfl) (by rfl))); exact zml; exact zkp; exact ⟨rfl, _, _, rfl, rfl⟩)
  · rw [if_neg hk]
    have eo : outO l = [] := if_neg hk
    rw [eo] at k1
    generalize chkL l = w at *
    refine Ct.enterV (by rfl) Tryz.func31 rfl Tryz.ntmps31 rfl (fun w0 Rest => ?_)
    (repeat' (first | refine zss ?_ | refine zsM ?_ | ((with_reducible first | apply At.c1 | apply At.c0); exact rfl; exact rfl; exact k1 _ zml; exact ztk; kernel_rfl; rintro v' m' B' hm' ⟨rfl, p1, c1, rfl, rfl⟩; (try replace sl0 := sl0.mono hm'); (try (have hq0 : hm' = Mem.le_refl _ := rfl; clear hq0 hm'))) | ((with_reducible apply At.alloc (d := 8)); exact rfl; exact rfl; intro b8) | (refine zsp ?_ ?_ <;> (intro hc; (try simp only [zhcs, reduceCtorEq] at hc); (try (exfalso; first | (first | omega | exact absurd hc hk) | contradiction | omega | exact absurd rfl hc | exact absurd (by decide) hc))))))
    refine At.own_nil fd 4 43 ?_
    all_goals ((with_reducible apply At.retV (B := [.own fd 4 43 _ _ _])); exact rfl; (repeat' (first | exact RVs.nil | (with_reducible apply RVs.cons) | exact rv_tmp (by rfl) | exact rv_cellN (by rfl) (by repeat constructor) (by rfl) (by rfl) (by rfl) | exact rv_cell1 (by rfl) (by repeat constructor) (by rfl) (by rfl))); exact zml; exact zkp; exact ⟨rfl, _, _, rfl, rfl⟩)
end Qu
end Go.Proofs.YtkoijdmlehkhbaaGreatDoor

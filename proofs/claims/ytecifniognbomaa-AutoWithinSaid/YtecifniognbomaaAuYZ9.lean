/- Part 9 of what the law's proof needs: rules of the walk, contracts of functions, plain laws. No condition. -/
import Derived.Test.YtecifniognbomaaAuYZ8
import Derived.ProofKit
import Derived.OpenShut
import Derived.Below
import Derived.Carry
import Derived.Deep.Slices
import Derived.WideShapes
/- States: those that live, a new one; small ones. -/
set_option linter.unusedSimpArgs false
set_option linter.unusedVariables false
set_option linter.unusedSectionVars false
set_option maxRecDepth 20000
set_option maxHeartbeats 4000000
namespace Go.Proofs.Ytecifniognbomaa
open Go Go.J
attribute [local irreducible] At AtQ AtM AtM1 PR Ct Pu Rd Res.blk Res.own Res.ex RVs RV
namespace Ser
/-- what it has lies where it says; its numbers are numbers; it may be of any length -/
structure Lay (m : Mem) (s : Ser) : Prop where
  sl : Sl m Lb.cells 2 s.lab.p s.lab.c s.lab.l
  sr : Sl m Ev.cells 4 s.raw.p s.raw.c s.raw.l
  s0 : Sl m Slot.cells 15 s.t0.p s.t0.c s.t0.l
  s1 : Sl m Slot.cells 15 s.t1.p s.t1.c s.t1.l
  s2 : Sl m Slot.cells 15 s.t2.p s.t2.c s.t2.l
  i0 : ∀ x ∈ s.t0.l, Slot.In x
  i1 : ∀ x ∈ s.t1.l, Slot.In x
  i2 : ∀ x ∈ s.t2.l, Slot.In x
  io : Slot.In s.op
  ir : ∀ e ∈ s.raw.l, e.V < 18446744073709551616
  bl : -9223372036854775808 ≤ s.last ∧ s.last ≤ 9223372036854775807
theorem Lay.mono {m m' : Mem} {s : Ser} (h : Lay m s) (hm : m.le m') : Lay m' s := ⟨h.sl.mono hm, h.sr.mono hm, h.s0.mono hm, h.s1.mono hm, h.s2.mono hm, h.i0, h.i1, h.i2, h.io, h.ir, h.bl⟩
def sm (x : Ser) : Prop := Lb.few x.lab.l ∧ x.raw.l.length ≤ 60 ∧ x.t0.l.length ≤ 40 ∧ x.t1.l.length ≤ 40 ∧ x.t2.l.length ≤ 40
instance (x : Ser) : Decidable (sm x) := by unfold sm; infer_instance
theorem Lay.ok {m : Mem} {x : Ser} (h : Lay m x) (hs : sm x) : Ok m x :=
  ⟨h.sl, h.sr, h.s0, h.s1, h.s2, hs.1.mid, h.i0, h.i1, h.i2, h.io, h.ir, Nat.le_trans hs.1.1 (by decide), Nat.le_trans hs.2.1 (by decide), Nat.le_trans hs.2.2.1 (by decide), Nat.le_trans hs.2.2.2.1 (by decide), Nat.le_trans hs.2.2.2.2 (by decide), h.bl⟩
theorem Ok.lay {m : Mem} {x : Ser} (h : Ok m x) : Lay m x := ⟨h.sl, h.sr, h.s0, h.s1, h.s2, h.i0, h.i1, h.i2, h.io, h.ir, h.bl⟩
end Ser
namespace Sta
structure Lay (m : Mem) (s : Sta) : Prop where
  sl : Sl m Ser.cells 23 s.pl.p s.pl.c s.pl.l
  pk : ∀ x ∈ s.pl.l, Ser.Lay m x
  bn : -9223372036854775808 ≤ s.now ∧ s.now ≤ 9223372036854775807
  bs : -9223372036854775808 ≤ s.swept ∧ s.swept ≤ 9223372036854775807
theorem Lay.mono {m m' : Mem} {s : Sta} (h : Lay m s) (hm : m.le m') : Lay m' s := ⟨h.sl.mono hm, fun x hx => (h.pk x hx).mono hm, h.bn, h.bs⟩
def sm (u : Sta) : Prop := u.pl.l.length ≤ 8 ∧ ∀ x ∈ u.pl.l, Ser.sm x
instance (u : Sta) : Decidable (sm u) := by unfold sm; infer_instance
theorem Lay.ok {m : Mem} {u : Sta} (h : Lay m u) (hs : sm u) : Ok m u := ⟨h.sl, fun x hx => (h.pk x hx).ok (hs.2 x hx), Nat.le_trans hs.1 (by decide), h.bn, h.bs⟩
end Sta
namespace St
open Se Win
theorem small14 (a b c : Lst Slot) : Pu Try.prog 26 #[t3v a b c] (.int .i64 (if a.l.length ≤ 40 ∧ b.l.length ≤ 40 ∧ c.l.length ≤ 40 then 1 else 0)) := Pu.intro fun m => by
  refine Ct.enterV (by rfl) Try.func26 rfl Try.ntmps26 rfl (fun w0 Rest => ?_)
  (repeat' (first | refine zss ?_ | refine zs0 ?_ | ((with_reducible apply At.box (d := 1)); exact rfl; exact rfl; exact rfl; intro b1) | (refine zsp ?_ ?_ <;> (intro hc; (try simp only [zhcs, reduceCtorEq] at hc); (try (exfalso; first | contradiction | omega | exact absurd rfl hc | exact absurd (by decide) hc))))))
  (refine At.loopk (σ := Nat) [1] (fun s F0 => (4, .int .i64 (s : Int)) :: F0) (fun s => m) (fun s => .blk b1 48 [a.v, b.v, c.v] :: Rest) (fun s => s ≤ 3 ∧ (0 < s → a.l.length ≤ 40) ∧ (1 < s → b.l.length ≤ 40) ∧ (2 < s → c.l.length ≤ 40)) (fun s => 3 - s) 0 (by rfl) ?_ zsubs zml zente ?_)
  · exact ⟨Nat.zero_le _, fun h => absurd h (by decide), fun h => absurd h (by decide), fun h => absurd h (by decide)⟩
  rintro s ⟨hs, g0, g1, g2⟩
  rcases (show s = 0 ∨ s = 1 ∨ s = 2 ∨ s = 3 by omega) with rfl | rfl | rfl | rfl
  · by_cases h : a.l.length ≤ 40
    · (repeat' (first | refine zss ?_ | ((first | (with_reducible first | apply At.val | apply AtQ.val)); (exact pr_indexArr (k := 0) (by rfl) (by rfl) (by rfl) (by rfl) (by decide)); exact rfl) | refine zs0 ?_ | ((with_reducible apply At.box (d := 1)); exact rfl; exact rfl; exact rfl; intro b1) | (refine zsp ?_ ?_ <;> (intro hc; (try simp only [zhcs, reduceCtorEq] at hc); (try (exfalso; first | omega | contradiction | omega | exact absurd rfl hc | exact absurd (by decide) hc))))))
      all_goals ((with_reducible refine At.reachk (1) ?_ ?_ ?_ ?_); exact zsubs; exact zml; exact zente; exact ⟨⟨by decide, fun _ => h, fun h => absurd h (by decide), fun h => absurd h (by decide)⟩, by decide⟩)
    · rw [if_neg (fun k => h k.1)]
      (repeat' (first | refine zss ?_ | ((first | (with_reducible first | apply At.val | apply AtQ.val)); (exact pr_indexArr (k := 0) (by rfl) (by rfl) (by rfl) (by rfl) (by decide)); exact rfl) | refine zs0 ?_ | ((with_reducible apply At.box (d := 1)); exact rfl; exact rfl; exact rfl; intro b1) | (refine zsp ?_ ?_ <;> (intro hc; (try simp only [zhcs, reduceCtorEq] at hc); (try (exfalso; first | omega | contradiction | omega | exact absurd rfl hc | exact absurd (by decide) hc))))))
      all_goals ((with_reducible apply At.retB1 (B := [])); exact rfl; exact rfl; exact zml; exact zkp; exact ⟨rfl, rfl, rfl⟩)
  · by_cases h : b.l.length ≤ 40
    · (repeat' (first | refine zss ?_ | ((first | (with_reducible first | apply At.val | apply AtQ.val)); (exact pr_indexArr (k := 1) (by rfl) (by rfl) (by rfl) (by rfl) (by decide)); exact rfl) | refine zs0 ?_ | ((with_reducible apply At.box (d := 1)); exact rfl; exact rfl; exact rfl; intro b1) | (refine zsp ?_ ?_ <;> (intro hc; (try simp only [zhcs, reduceCtorEq] at hc); (try (exfalso; first | omega | contradiction | omega | exact absurd rfl hc | exact absurd (by decide) hc))))))
      all_goals ((with_reducible refine At.reachk (2) ?_ ?_ ?_ ?_); exact zsubs; exact zml; exact zente; exact ⟨⟨by decide, fun _ => g0 (by decide), fun _ => h, fun h => absurd h (by decide)⟩, by decide⟩)
    · rw [if_neg (fun k => h k.2.1)]
      (repeat' (first | refine zss ?_ | ((first | (with_reducible first | apply At.val | apply AtQ.val)); (exact pr_indexArr (k := 1) (by rfl) (by rfl) (by rfl) (by rfl) (by decide)); exact rfl) | refine zs0 ?_ | ((with_reducible apply At.box (d := 1)); exact rfl; exact rfl; exact rfl; intro b1) | (refine zsp ?_ ?_ <;> (intro hc; (try simp only [zhcs, reduceCtorEq] at hc); (try (exfalso; first | omega | contradiction | omega | exact absurd rfl hc | exact absurd (by decide) hc))))))
      all_goals ((with_reducible apply At.retB1 (B := [])); exact rfl; exact rfl; exact zml; exact zkp; exact ⟨rfl, rfl, rfl⟩)
  · by_cases h : c.l.length ≤ 40
    · (repeat' (first | refine zss ?_ | ((first | (with_reducible first | apply At.val | apply AtQ.val)); (exact pr_indexArr (k := 2) (by rfl) (by rfl) (by rfl) (by rfl) (by decide)); exact rfl) | refine zs0 ?_ | ((with_reducible apply At.box (d := 1)); exact rfl; exact rfl; exact rfl; intro b1) | (refine zsp ?_ ?_ <;> (intro hc; (try simp only [zhcs, reduceCtorEq] at hc); (try (exfalso; first | omega | contradiction | omega | exact absurd rfl hc | exact absurd (by decide) hc))))))
      all_goals ((with_reducible refine At.reachk (3) ?_ ?_ ?_ ?_); exact zsubs; exact zml; exact zente; exact ⟨⟨by decide, fun _ => g0 (by decide), fun _ => g1 (by decide), fun _ => h⟩, by decide⟩)
    · rw [if_neg (fun k => h k.2.2)]
      (repeat' (first | refine zss ?_ | ((first | (with_reducible first | apply At.val | apply AtQ.val)); (exact pr_indexArr (k := 2) (by rfl) (by rfl) (by rfl) (by rfl) (by decide)); exact rfl) | refine zs0 ?_ | ((with_reducible apply At.box (d := 1)); exact rfl; exact rfl; exact rfl; intro b1) | (refine zsp ?_ ?_ <;> (intro hc; (try simp only [zhcs, reduceCtorEq] at hc); (try (exfalso; first | omega | contradiction | omega | exact absurd rfl hc | exact absurd (by decide) hc))))))
      all_goals ((with_reducible apply At.retB1 (B := [])); exact rfl; exact rfl; exact zml; exact zkp; exact ⟨rfl, rfl, rfl⟩)
  · rw [if_pos ⟨g0 (by decide), g1 (by decide), g2 (by decide)⟩]
    (repeat' (first | refine zss ?_ | refine zs0 ?_ | ((with_reducible apply At.box (d := 1)); exact rfl; exact rfl; exact rfl; intro b1) | (refine zsp ?_ ?_ <;> (intro hc; (try simp only [zhcs, reduceCtorEq] at hc); (try (exfalso; first | omega | contradiction | omega | exact absurd rfl hc | exact absurd (by decide) hc))))))
    all_goals ((with_reducible apply At.retB1 (B := [])); exact rfl; exact rfl; exact zml; exact zkp; exact ⟨rfl, rfl, rfl⟩)
def smI (x : Ser) : Int := if x.sm then 1 else 0
theorem small15 {m : Mem} (x : Ser) (hx : x.Lay m) : Rd Try.prog 13 #[x.v] m [] (.int .i64 (smI x)) := by
  unfold Rd
  have k1 := fun (m' : Mem) (h : m.le m') => Lb.small x.lab.p x.lab.c x.lab.l (hx.sl.mono h)
  have k2 := small14 x.t0 x.t1 x.t2
  clear hx
  unfold smI
  by_cases h1 : Lb.few x.lab.l
  rotate_left
  · rw [if_neg h1] at k1
    rw [if_neg (fun h => h1 h.1)]
    refine Ct.enterV (by rfl) Try.func13 rfl Try.ntmps13 rfl (fun w0 Rest => ?_)
    (repeat' (first | refine zss ?_ | refine zsM ?_ | ((with_reducible first | apply AtM1.cr | apply AtQ.cr | apply At.cr); exact rfl; exact rfl; exact fun _ hmm => k1 _ hmm; exact ztk; kernel_rfl) | ((with_reducible apply At.box (d := 1)); exact rfl; exact rfl; exact rfl; intro b1) | (refine zsp ?_ ?_ <;> (intro hc; (try simp only [zhcs, reduceCtorEq] at hc); (try (exfalso; first | (first | omega | exact absurd rfl hc) | contradiction | omega | exact absurd rfl hc | exact absurd (by decide) hc))))))
    all_goals ((with_reducible apply At.retB1 (B := [])); exact rfl; exact rfl; exact zml; exact zkp; exact ⟨rfl, rfl, rfl⟩)
  rw [if_pos h1] at k1
  by_cases h2 : x.raw.l.length ≤ 60
  rotate_left
  · rw [if_neg (fun h => h2 h.2.1)]
    clear h1
    refine Ct.enterV (by rfl) Try.func13 rfl Try.ntmps13 rfl (fun w0 Rest => ?_)
    (repeat' (first | refine zss ?_ | refine zsM ?_ | ((with_reducible first | apply AtM1.cr | apply AtQ.cr | apply At.cr); exact rfl; exact rfl; exact fun _ hmm => k1 _ hmm; exact ztk; kernel_rfl) | ((with_reducible apply At.box (d := 1)); exact rfl; exact rfl; exact rfl; intro b1) | (refine zsp ?_ ?_ <;> (intro hc; (try simp only [zhcs, reduceCtorEq] at hc); (try (exfalso; first | (first | omega | exact absurd rfl hc) | contradiction | omega | exact absurd rfl hc | exact absurd (by decide) hc))))))
    all_goals ((with_reducible apply At.retB1 (B := [])); exact rfl; exact rfl; exact zml; exact zkp; exact ⟨rfl, rfl, rfl⟩)
  rw [show (if x.sm then (1 : Int) else 0) = (if x.t0.l.length ≤ 40 ∧ x.t1.l.length ≤ 40 ∧ x.t2.l.length ≤ 40 then 1 else 0) by
    by_cases h : x.t0.l.length ≤ 40 ∧ x.t1.l.length ≤ 40 ∧ x.t2.l.length ≤ 40
    · rw [if_pos h, if_pos ⟨h1, h2, h.1, h.2.1, h.2.2⟩]
    · rw [if_neg h, if_neg (fun g => h ⟨g.2.2.1, g.2.2.2.1, g.2.2.2.2⟩)]]
  clear h1
  refine Ct.enterV (by rfl) Try.func13 rfl Try.ntmps13 rfl (fun w0 Rest => ?_)
  (repeat' (first | refine zss ?_ | refine zsM ?_ | ((with_reducible first | apply AtM1.cr | apply AtQ.cr | apply At.cr); exact rfl; exact rfl; exact fun _ hmm => k1 _ hmm; exact ztk; kernel_rfl) | ((with_reducible first | apply AtM1.callp | apply AtQ.callp | apply At.callp); kernel_rfl; exact rfl; exact rfl; exact k2) | ((with_reducible apply At.box (d := 1)); exact rfl; exact rfl; exact rfl; intro b1) | (refine zsp ?_ ?_ <;> (intro hc; (try simp only [zhcs, reduceCtorEq] at hc); (try (exfalso; first | (first | omega | exact absurd rfl hc) | contradiction | omega | exact absurd rfl hc | exact absurd (by decide) hc))))))
  all_goals ((with_reducible apply At.retB1 (B := [])); exact rfl; exact rfl; exact zml; exact zkp; exact ⟨rfl, rfl, rfl⟩)
def smU (u : Sta) : Int := if u.sm then 1 else 0
theorem small17 {m : Mem} (u : Sta) (hu : u.Lay m) : Rd Try.prog 5 #[u.v] m [] (.int .i64 (smU u)) := by
  unfold Rd
  have sl0 := hu.sl
  unfold smU
  by_cases h0 : u.pl.l.length ≤ 8
  rotate_left
  · rw [if_neg (fun h => h0 h.1)]
    refine Ct.enterV (by rfl) Try.func5 rfl Try.ntmps5 rfl (fun w0 Rest => ?_)
    (repeat' (first | refine zss ?_ | refine zsM ?_ | ((with_reducible apply At.box (d := 1)); exact rfl; exact rfl; exact rfl; intro b1) | ((with_reducible apply At.alloc (d := 4)); exact rfl; exact rfl; intro b4) | (refine zsp ?_ ?_ <;> (intro hc; (try simp only [zhcs, reduceCtorEq] at hc); (try (exfalso; first | (first | omega | exact absurd rfl hc) | contradiction | omega | exact absurd rfl hc | exact absurd (by decide) hc))))))
    all_goals ((with_reducible apply At.retB1 (B := [])); exact rfl; exact rfl; exact zml; exact zkp; exact ⟨rfl, rfl, rfl⟩)
  refine Ct.enterV (by rfl) Try.func5 rfl Try.ntmps5 rfl (fun w0 Rest => ?_)
  (repeat' (first | refine zss ?_ | refine zsM ?_ | ((with_reducible apply At.box (d := 1)); exact rfl; exact rfl; exact rfl; intro b1) | ((with_reducible apply At.alloc (d := 4)); exact rfl; exact rfl; intro b4) | (refine zsp ?_ ?_ <;> (intro hc; (try simp only [zhcs, reduceCtorEq] at hc); (try (exfalso; first | (first | omega | exact absurd rfl hc) | contradiction | omega | exact absurd rfl hc | exact absurd (by decide) hc))))))
  (refine At.loopk (σ := Nat) [10, 11] (fun s F0 => (12, .int .i64 (s : Int)) :: F0) (fun s => m) (fun s => Rest) (fun s => s ≤ u.pl.l.length ∧ ∀ i, i < s → u.pl.l[i]!.sm) (fun s => u.pl.l.length - s) 0 (by rfl) ?_ zsubs zml zente ?_)
  · exact ⟨Nat.zero_le _, fun i hi => absurd hi (Nat.not_lt_zero i)⟩
  rintro s ⟨hs, hn⟩
  by_cases h : s < u.pl.l.length
  · have hx := hu.pk _ (Ls.mem! h)
    have k1 := fun (m' : Mem) (h : m.le m') => small15 u.pl.l[s]! (hx.mono h)
    unfold smI at k1
    by_cases e : u.pl.l[s]!.sm
    · have hnn : ∀ i, i < s + 1 → u.pl.l[i]!.sm := fun i hi => by
        by_cases e1 : i = s
        · subst e1; exact e
        · exact hn i (by omega)
      rw [if_pos e] at k1
      clear hn hx hu e
      (repeat' (first | refine zss ?_ | refine zsM ?_ | ((with_reducible first | apply AtM1.cr | apply AtQ.cr | apply At.cr); exact rfl; exact rfl; exact fun _ hmm => k1 _ hmm; exact ztk; kernel_rfl) | ((with_reducible apply At.box (d := 1)); exact rfl; exact rfl; exact rfl; intro b1) | ((with_reducible apply At.alloc (d := 4)); exact rfl; exact rfl; intro b4) | (refine zsp ?_ ?_ <;> (intro hc; (try simp only [zhcs, reduceCtorEq] at hc); (try (exfalso; first | (first | omega | exact absurd rfl hc) | contradiction | omega | exact absurd rfl hc | exact absurd (by decide) hc))))))
      all_goals ((with_reducible refine At.reachk ((s + 1)) ?_ ?_ ?_ ?_); exact zsubs; exact zml; exact zente; exact ⟨⟨h, hnn⟩, by omega⟩)
    · rw [if_neg (fun g => e (g.2 _ (Ls.mem! h)))]
      rw [if_neg e] at k1
      clear hn hx hu e
      (repeat' (first | refine zss ?_ | refine zsM ?_ | ((with_reducible first | apply AtM1.cr | apply AtQ.cr | apply At.cr); exact rfl; exact rfl; exact fun _ hmm => k1 _ hmm; exact ztk; kernel_rfl) | ((with_reducible apply At.box (d := 1)); exact rfl; exact rfl; exact rfl; intro b1) | ((with_reducible apply At.alloc (d := 4)); exact rfl; exact rfl; intro b4) | (refine zsp ?_ ?_ <;> (intro hc; (try simp only [zhcs, reduceCtorEq] at hc); (try (exfalso; first | (first | omega | exact absurd rfl hc) | contradiction | omega | exact absurd rfl hc | exact absurd (by decide) hc))))))
      all_goals ((with_reducible apply At.retB1 (B := [])); exact rfl; exact rfl; exact zml; exact zkp; exact ⟨rfl, rfl, rfl⟩)
  · rw [if_pos ⟨h0, fun x hx => by
      obtain ⟨i, hi, e⟩ := List.mem_iff_getElem.1 hx
      have := hn i (by omega)
      rwa [getElem!_pos u.pl.l i hi, e] at this⟩]
    clear hn hu
    (repeat' (first | refine zss ?_ | refine zsM ?_ | ((with_reducible apply At.box (d := 1)); exact rfl; exact rfl; exact rfl; intro b1) | ((with_reducible apply At.alloc (d := 4)); exact rfl; exact rfl; intro b4) | (refine zsp ?_ ?_ <;> (intro hc; (try simp only [zhcs, reduceCtorEq] at hc); (try (exfalso; first | (first | omega | exact absurd rfl hc) | contradiction | omega | exact absurd rfl hc | exact absurd (by decide) hc))))))
    all_goals ((with_reducible apply At.retB1 (B := [])); exact rfl; exact rfl; exact zml; exact zkp; exact ⟨rfl, rfl, rfl⟩)
/-- a new state -/
theorem new {m : Mem} (k : Cfg) (n : Nat) (hk : k.ok) (hn : (n : Int) = k.c) (hz : Conf.szv k.r k.x k.y k.w k.c k.g ≤ 16777216) :
    Ct Try.prog 10 #[k.v] m [] (fun v m' B => B = [] ∧ ∃ p c, v = .tuple #[(⟨k, 0, -1, ⟨p, c, List.replicate n Ser.z⟩⟩ : Sta).v, .int .i64 0] ∧ Sl m' Ser.cells 23 p c (List.replicate n Ser.z)) := by
  have k1 := Conf.sizeF hk
  rw [if_neg (by omega)] at k1
  have hc0 := hk.hc
  clear hk hz
  generalize Conf.szv k.r k.x k.y k.w k.c k.g = z at k1
  refine Ct.enterV (by rfl) Try.func10 rfl Try.ntmps10 rfl (fun w0 Rest => ?_)
  (repeat' (first | ((with_reducible apply At.mixed (id := 4) 7 (.q 0 (.q 1 (.q 2 (.l 3 (.q 4 (.x 5 (.q 6 .done)))))))); exact rfl; kernel_rfl; kernel_rfl; kernel_rfl) | refine zsx ?_ | refine zss ?_ | ((with_reducible apply AtM.bo); exact rfl; exact rfl; exact rfl) | refine zsO ?_ | refine zxO ?_ | ((with_reducible first | apply AtM1.callp | apply AtQ.callp | apply At.callp); kernel_rfl; exact rfl; exact rfl; exact k1) | ((with_reducible apply At.makeN (f := Ser.cells) (cp := n) (Ser.z)); exact inferInstance; (iterate 4 exact rfl); exact hn.symm; exact hn.symm; exact rfl; exact zom; exact rfl; intro bm) | ((with_reducible apply At.box (d := 1)); exact rfl; exact rfl; exact rfl; intro b1) | ((with_reducible apply At.alloc (d := 2)); exact rfl; exact rfl; intro b2) | (refine zsp ?_ ?_ <;> (intro hc; (try simp only [zhcs, reduceCtorEq] at hc); (try (exfalso; first | (first | omega | exact absurd rfl hc) | contradiction | omega | exact absurd rfl hc | exact absurd (by decide) hc))))))
  all_goals refine At.own_freeze inferInstance (by repeat constructor) fun m' hm' sl1 => ?_
  all_goals
    obtain ⟨L, hL⟩ : ∃ L, L = List.replicate n Ser.z := ⟨_, rfl⟩
    have e : n = L.length := by rw [hL, List.length_replicate]
    rw [← hL] at sl1 ⊢
    clear hL
    subst e
    ((with_reducible apply At.retV (B := [])); exact rfl; (repeat' (first | exact RVs.nil | (with_reducible apply RVs.cons) | exact rv_tmp (by rfl) | exact rv_cellN (by rfl) (by repeat constructor) (by rfl) (by rfl) (by rfl) | exact rv_cell1 (by rfl) (by repeat constructor) (by rfl) (by rfl))); exact zml; exact zkp; exact ⟨rfl, some ⟨bm, 0, none⟩, L.length, rfl, sl1⟩)
end St
end Go.Proofs.Ytecifniognbomaa
/- Ranges that are cut to a tier's windows. -/
set_option linter.unusedSimpArgs false
set_option linter.unusedVariables false
set_option linter.unusedSectionVars false
set_option maxRecDepth 20000
set_option maxHeartbeats 4000000
namespace Go.Proofs.Ytecifniognbomaa
open Go Go.J
attribute [local irreducible] At AtQ AtM AtM1 PR Ct Pu Rd Res.blk Res.own Res.ex RVs RV
namespace Au
open Se Win St
/-- a tier's width, and how many windows it has -/
def T3 (c : Cfg) (t w n : Int) : Prop := (t = 1 ∧ w = c.a ∧ n = c.x) ∨ (t = 2 ∧ w = c.b ∧ n = c.y) ∨ (t = 3 ∧ w = c.d ∧ n = c.w)
def wT (c : Cfg) (t : Int) : Int := if t = 1 then c.a else if t = 2 then c.b else c.d
def nT (c : Cfg) (t : Int) : Int := if t = 1 then c.x else if t = 2 then c.y else c.w
theorem t3 {c : Cfg} {t : Int} (h1 : 1 ≤ t) (h2 : t ≤ 3) : T3 c t (wT c t) (nT c t) := by
  rcases (show t = 1 ∨ t = 2 ∨ t = 3 by omega) with rfl | rfl | rfl
  · exact .inl ⟨rfl, rfl, rfl⟩
  · exact .inr (.inl ⟨rfl, rfl, rfl⟩)
  · exact .inr (.inr ⟨rfl, rfl, rfl⟩)
theorem T3.bd {c : Cfg} {t w n : Int} (h : T3 c t w n) (hk : c.ok) : (1 ≤ w ∧ w ≤ 1099511627776) ∧ (1 ≤ n ∧ n ≤ 4096) := by
  rcases h with ⟨-, rfl, rfl⟩ | ⟨-, rfl, rfl⟩ | ⟨-, rfl, rfl⟩
  · exact ⟨hk.ha, hk.hx⟩
  · exact ⟨hk.hb, hk.hy⟩
  · exact ⟨hk.hd, hk.hw⟩
theorem old0 {now w n : Int} (ht : tm now) (hw : 1 ≤ w ∧ w ≤ 1099511627776) (hn : 1 ≤ n ∧ n ≤ 4096) : oldE now w n = 0 ∧ ofV now w = now / w := by
  have h1 : ofOk now w := ⟨ht.1, by have := ht.2; omega, hw.1, hw.2⟩
  exact ⟨if_pos ⟨h1, hn.1, hn.2⟩, if_pos h1⟩
theorem old_bd {now w n : Int} (ht : tm now) (hw : 1 ≤ w ∧ w ≤ 1099511627776) (hn : 1 ≤ n ∧ n ≤ 4096) : 0 ≤ oldV now w n ∧ oldV now w n ≤ now / w := by
  have h1 : ofOk now w := ⟨ht.1, by have := ht.2; omega, hw.1, hw.2⟩
  have h2 := div_bd (t := now) ht.1 hw.1
  unfold oldV
  rw [if_pos ⟨h1, hn.1, hn.2⟩]
  split <;> omega
theorem tiers {m : Mem} (u : Sta) (t : Int) (hs : u.Ok m) (hok : okU u) (h1 : 1 ≤ t) (h2 : t ≤ 3) : Rd Try.prog 45 #[u.v, .int .i64 (t - 1)] m [] (.int .i64 0) := by
  unfold Rd
  have k0 := fun (m' : Mem) (h : m.le m') => check u (hs.mono h)
  rw [show chk u = 0 from if_pos hok] at k0
  refine Ct.enterV (by rfl) Try.func45 rfl Try.ntmps45 rfl (fun w0 Rest => ?_)
  (repeat' (first | refine zss ?_ | refine zs0 ?_ | ((with_reducible first | apply AtM1.cr | apply AtQ.cr | apply At.cr); exact rfl; exact rfl; exact fun _ hmm => k0 _ hmm; exact ztk; kernel_rfl) | ((with_reducible apply At.box (d := 2)); exact rfl; exact rfl; exact rfl; intro b2) | (refine zsp ?_ ?_ <;> (intro hc; (try simp only [zhcs, reduceCtorEq] at hc); (try (exfalso; first | (first | omega | exact absurd rfl hc) | contradiction | omega | exact absurd rfl hc | exact absurd (by decide) hc))))))
  all_goals ((with_reducible apply At.retB1 (B := [])); exact rfl; exact rfl; exact zml; exact zkp; exact ⟨rfl, rfl, rfl⟩)
abbrev vk (a b : Int) : Value := .tuple #[.int .i64 a, .int .i64 b, .int .i64 0]
theorem kept {m : Mem} (u : Sta) (t w n : Int) (hs : u.Ok m) (hok : okU u) (h : T3 u.k t w n) :
    Rd Try.prog 33 #[u.v, .int .i64 (t - 1)] m [] (vk (oldV u.now w n) (u.now / w)) := by
  unfold Rd
  have ht := hok.2.1.1
  obtain ⟨hw, hn⟩ := h.bd hok.1.1
  have k1 := win_oldest u.now w n
  rw [(old0 ht hw hn).1] at k1
  have fq : IntKind.wrap .i64 (u.now.tdiv w) = u.now / w := IntWalk.i64_quo _ _ (by have := ht.1; have := ht.2; omega)
  generalize oldV u.now w n = o at k1 ⊢
  have h13 : 1 ≤ t ∧ t ≤ 3 := by rcases h with ⟨rfl, -⟩ | ⟨rfl, -⟩ | ⟨rfl, -⟩ <;> decide
  have k0 := fun (m' : Mem) (h : m.le m') => tiers u t (hs.mono h) hok h13.1 h13.2
  obtain ⟨q, hq⟩ : ∃ q, u.now / w = q := ⟨_, rfl⟩
  rw [hq] at fq ⊢
  clear hq hs hok h13
  rcases h with ⟨rfl, rfl, rfl⟩ | ⟨rfl, rfl, rfl⟩ | ⟨rfl, rfl, rfl⟩
  all_goals
    refine Ct.enterV (by rfl) Try.func33 rfl Try.ntmps33 rfl (fun w0 Rest => ?_)
    (repeat' (first | refine zss ?_ | ((first | (with_reducible first | apply At.val | apply AtQ.val)); (first | exact pr_indexArr (k := 0) (by rfl) (by rfl) (by rfl) (by rfl) (by decide) | exact pr_indexArr (k := 1) (by rfl) (by rfl) (by rfl) (by rfl) (by decide) | exact pr_indexArr (k := 2) (by rfl) (by rfl) (by rfl) (by rfl) (by decide) | exact pr_quo (by rfl) (by rfl) (by omega) fq); exact rfl) | refine zs0 ?_ | ((with_reducible first | apply AtM1.cr | apply AtQ.cr | apply At.cr); exact rfl; exact rfl; exact fun _ hmm => k0 _ hmm; exact ztk; kernel_rfl) | ((with_reducible first | apply AtM1.callp | apply AtQ.callp | apply At.callp); kernel_rfl; exact rfl; exact rfl; exact k1) | ((with_reducible apply At.box (d := 2)); exact rfl; exact rfl; exact rfl; intro b2) | (refine zsp ?_ ?_ <;> (intro hc; (try simp only [zhcs, reduceCtorEq] at hc); (try (exfalso; first | (first | omega | exact absurd rfl hc) | contradiction | omega | exact absurd rfl hc | exact absurd (by decide) hc))))))
    all_goals ((with_reducible apply At.retV (B := [])); exact rfl; (repeat' (first | exact RVs.nil | (with_reducible apply RVs.cons) | exact rv_tmp (by rfl) | exact rv_cellN (by rfl) (by repeat constructor) (by rfl) (by rfl) (by rfl) | exact rv_cell1 (by rfl) (by repeat constructor) (by rfl) (by rfl))); exact zml; exact zkp; exact ⟨rfl, rfl, rfl⟩)
/-- whether a range may be asked about -/
def mayE (u : Sta) (t f g : Int) : Int := if ¬ okU u then 2 else if t < 1 ∨ 3 < t ∨ f < 0 ∨ 35184372088832 < g ∨ g ≤ f then 1 else 0
theorem may0 {u : Sta} {t f g : Int} (h : mayE u t f g = 0) : okU u ∧ (1 ≤ t ∧ t ≤ 3) ∧ (0 ≤ f ∧ f < g ∧ g ≤ 35184372088832) := by
  unfold mayE at h
  by_cases h0 : okU u
  · rw [if_neg (not_not_intro h0)] at h
    by_cases h1 : t < 1 ∨ 3 < t ∨ f < 0 ∨ 35184372088832 < g ∨ g ≤ f
    · rw [if_pos h1] at h; exact absurd h (by decide)
    · exact ⟨h0, by omega, by omega⟩
  · rw [if_pos h0] at h; exact absurd h (by decide)
theorem may3 {u : Sta} {t f g : Int} : mayE u t f g ≠ 3 := by
  unfold mayE
  split
  · decide
  · split <;> decide
theorem may_all {u : Sta} {t t' f g : Int} (h1 : 1 ≤ t ∧ t ≤ 3) (h2 : 1 ≤ t' ∧ t' ≤ 3) : mayE u t f g = mayE u t' f g := by
  unfold mayE
  by_cases h0 : okU u
  · rw [if_neg (not_not_intro h0), if_neg (not_not_intro h0)]
    split <;> split <;> first | rfl | (exfalso; omega)
  · rw [if_pos h0, if_pos h0]
abbrev spv (w o f g : Int) : Value := .agg #[.int .i64 w, .int .i64 o, .int .i64 f, .int .i64 g]
theorem openN {m : Mem} (u : Sta) (t f g : Int) (hs : u.Ok m) (h : mayE u t f g ≠ 0) : Rd Try.prog 19 #[u.v, .int .i64 t, .int .i64 f, .int .i64 g] m [] (.tuple #[spv 0 0 0 0, .int .i64 (mayE u t f g)]) := by
  unfold Rd
  have k0 := fun (m' : Mem) (h : m.le m') => check u (hs.mono h)
  unfold chk at k0
  by_cases h0 : okU u
  rotate_left
  · rw [if_neg h0] at k0
    rw [show mayE u t f g = 2 from if_pos h0]
    refine Ct.enterV (by rfl) Try.func19 rfl Try.ntmps19 rfl (fun w0 Rest => ?_)
    (repeat' (first | refine zss ?_ | refine zs0 ?_ | ((with_reducible first | apply AtM1.cr | apply AtQ.cr | apply At.cr); exact rfl; exact rfl; exact fun _ hmm => k0 _ hmm; exact ztk; kernel_rfl) | ((with_reducible apply At.box (d := 4)); exact rfl; exact rfl; exact rfl; intro b4) | ((with_reducible apply At.alloc (d := 8)); exact rfl; exact rfl; intro b8) | (refine zsp ?_ ?_ <;> (intro hc; (try simp only [zhcs, reduceCtorEq] at hc); (try (exfalso; first | (first | omega | exact absurd rfl hc) | contradiction | omega | exact absurd rfl hc | exact absurd (by decide) hc))))))
    all_goals ((with_reducible apply At.retV (B := [])); exact rfl; (repeat' (first | exact RVs.nil | (with_reducible apply RVs.cons) | exact rv_tmp (by rfl) | exact rv_cellN (by rfl) (by repeat constructor) (by rfl) (by rfl) (by rfl) | exact rv_cell1 (by rfl) (by repeat constructor) (by rfl) (by rfl))); exact zml; exact zkp; exact ⟨rfl, rfl, rfl⟩)
  rw [if_pos h0] at k0
  have h1 : t < 1 ∨ 3 < t ∨ f < 0 ∨ 35184372088832 < g ∨ g ≤ f := Decidable.by_contra fun h1 => h (by unfold mayE; rw [if_neg (not_not_intro h0), if_neg h1])
  rw [show mayE u t f g = 1 by unfold mayE; rw [if_neg (not_not_intro h0), if_pos h1]]
  clear h h0
  refine Ct.enterV (by rfl) Try.func19 rfl Try.ntmps19 rfl (fun w0 Rest => ?_)
  (repeat' (first | refine zss ?_ | refine zs0 ?_ | ((with_reducible first | apply AtM1.cr | apply AtQ.cr | apply At.cr); exact rfl; exact rfl; exact fun _ hmm => k0 _ hmm; exact ztk; kernel_rfl) | ((with_reducible apply At.box (d := 4)); exact rfl; exact rfl; exact rfl; intro b4) | ((with_reducible apply At.alloc (d := 8)); exact rfl; exact rfl; intro b8) | (refine zsp ?_ ?_ <;> (intro hc; (try simp only [zhcs, reduceCtorEq] at hc); (try (exfalso; first | (first | omega | exact absurd rfl hc) | contradiction | omega | exact absurd rfl hc | exact absurd (by decide) hc))))))
  all_goals ((with_reducible apply At.retV (B := [])); exact rfl; (repeat' (first | exact RVs.nil | (with_reducible apply RVs.cons) | exact rv_tmp (by rfl) | exact rv_cellN (by rfl) (by repeat constructor) (by rfl) (by rfl) (by rfl) | exact rv_cell1 (by rfl) (by repeat constructor) (by rfl) (by rfl))); exact zml; exact zkp; exact ⟨rfl, rfl, rfl⟩)
theorem openK {m : Mem} (u : Sta) (t f g w n : Int) (hs : u.Ok m) (h : mayE u t f g = 0) (h3 : T3 u.k t w n) : Rd Try.prog 19 #[u.v, .int .i64 t, .int .i64 f, .int .i64 g] m [] (.tuple #[spv w (oldV u.now w n) f g, .int .i64 0]) := by
  unfold Rd
  obtain ⟨hok, ht, hf⟩ := may0 h
  have k0 := fun (m' : Mem) (h : m.le m') => check u (hs.mono h)
  rw [show chk u = 0 from if_pos hok] at k0
  have k1 := fun (m' : Mem) (h : m.le m') => kept u t w n (hs.mono h) hok h3
  generalize oldV u.now w n = o at k1 ⊢
  generalize u.now / w = q at k1 ⊢
  clear h hok hs
  rcases h3 with ⟨rfl, rfl, rfl⟩ | ⟨rfl, rfl, rfl⟩ | ⟨rfl, rfl, rfl⟩
  all_goals
    refine Ct.enterV (by rfl) Try.func19 rfl Try.ntmps19 rfl (fun w0 Rest => ?_)
    (repeat' (first | refine zss ?_ | ((first | (with_reducible first | apply At.val | apply AtQ.val)); (first | exact pr_indexArr (k := 0) (by rfl) (by rfl) (by rfl) (by rfl) (by decide) | exact pr_indexArr (k := 1) (by rfl) (by rfl) (by rfl) (by rfl) (by decide) | exact pr_indexArr (k := 2) (by rfl) (by rfl) (by rfl) (by rfl) (by decide)); exact rfl) | refine zs0 ?_ | ((with_reducible first | apply AtM1.cr | apply AtQ.cr | apply At.cr); exact rfl; exact rfl; exact fun _ hmm => k0 _ hmm; exact ztk; kernel_rfl) | ((with_reducible first | apply AtM1.cr | apply AtQ.cr | apply At.cr); exact rfl; exact rfl; exact fun _ hmm => k1 _ hmm; exact ztk; kernel_rfl) | ((with_reducible apply At.box (d := 4)); exact rfl; exact rfl; exact rfl; intro b4) | ((with_reducible apply At.alloc (d := 8)); exact rfl; exact rfl; intro b8) | (refine zsp ?_ ?_ <;> (intro hc; (try simp only [zhcs, reduceCtorEq] at hc); (try (exfalso; first | (first | omega | exact absurd rfl hc) | contradiction | omega | exact absurd rfl hc | exact absurd (by decide) hc))))))
    all_goals ((with_reducible apply At.retV (B := [])); exact rfl; (repeat' (first | exact RVs.nil | (with_reducible apply RVs.cons) | exact rv_tmp (by rfl) | exact rv_cellN (by rfl) (by repeat constructor) (by rfl) (by rfl) (by rfl) | exact rv_cell1 (by rfl) (by repeat constructor) (by rfl) (by rfl))); exact zml; exact zkp; exact ⟨rfl, rfl, rfl⟩)
/-- as many windows as have begun -/
def upI (x w : Int) : Int := (x + w - 1) / w
theorem upI_eq {x w : Int} (hw : 1 ≤ w) : upI x w = if 0 < x % w then x / w + 1 else x / w := by
  have h1 := Int.emod_add_mul_ediv x w
  have h2 := mod_bd (t := x) hw
  unfold upI
  by_cases h : 0 < x % w
  · rw [if_pos h]
    exact ((Int.ediv_emod_unique (r := x % w - 1) (by omega)).2 ⟨by rw [Int.mul_add, Int.mul_one]; omega, by omega, by omega⟩).1
  · rw [if_neg h]
    exact ((Int.ediv_emod_unique (r := w - 1) (by omega)).2 ⟨by omega, by omega, by omega⟩).1
theorem upI_bd {x w : Int} (h0 : 0 ≤ x) (hw : 1 ≤ w) : 0 ≤ upI x w ∧ upI x w ≤ x + 1 ∧ x ≤ upI x w * w ∧ upI x w * w < x + w := by
  have h1 := Int.emod_add_mul_ediv x w
  have h2 := mod_bd (t := x) hw
  have h3 := div_bd (t := x) h0 hw
  rw [Int.mul_comm] at h1
  rw [upI_eq hw]
  split
  · rw [Int.add_mul, Int.one_mul]; omega
  · omega
theorem up (w o f g x : Int) (hw : 1 ≤ w ∧ w ≤ 1099511627776) (hx : 0 ≤ x ∧ x ≤ 35184372088832) : Pu Try.prog 20 #[spv w o f g, .int .i64 x] (.int .i64 (upI x w)) := Pu.intro fun m => by
  have fq : IntKind.wrap .i64 ((x + w - 1).tdiv w) = upI x w := IntWalk.i64_quo _ _ (by omega)
  refine Ct.enterV (by rfl) Try.func20 rfl Try.ntmps20 rfl (fun w0 Rest => ?_)
  (repeat' (first | refine zss ?_ | ((first | (with_reducible first | apply At.val | apply AtQ.val)); (exact pr_quo (by rfl) (by rfl) (by omega) fq); exact rfl) | refine zs0 ?_ | ((with_reducible apply At.box (d := 2)); exact rfl; exact rfl; exact rfl; intro b2) | (refine zsp ?_ ?_ <;> (intro hc; (try simp only [zhcs, reduceCtorEq] at hc); (try (exfalso; first | (first | omega | exact absurd rfl hc) | contradiction | omega | exact absurd rfl hc | exact absurd (by decide) hc))))))
  all_goals ((with_reducible apply At.retB1 (B := [])); exact rfl; exact rfl; exact zml; exact zkp; exact ⟨rfl, rfl, rfl⟩)
theorem times (w o f g i j : Int) (hi : 0 ≤ i * w ∧ i * w ≤ 9223372036854775807) (hj : 0 ≤ j * w ∧ j * w ≤ 9223372036854775807) : Pu Try.prog 21 #[spv w o f g, .int .i64 i, .int .i64 j] (vk (i * w) (j * w)) := Pu.intro fun m => by
  have g1 : IntKind.wrap .i64 (i * w) = i * w := IntWalk.i64_in _ (by omega)
  have g2 : IntKind.wrap .i64 (j * w) = j * w := IntWalk.i64_in _ (by omega)
  refine Ct.enterV (by rfl) Try.func21 rfl Try.ntmps21 rfl (fun w0 Rest => ?_)
  (repeat' (first | refine zss ?_ | ((first | (with_reducible first | apply At.val | apply AtQ.val)); (first | exact pr_mul (by rfl) (by rfl) g1 | exact pr_mul (by rfl) (by rfl) g2); exact rfl) | refine zs0 ?_ | ((with_reducible apply At.box (d := 3)); exact rfl; exact rfl; exact rfl; intro b3) | (refine zsp ?_ ?_ <;> (intro hc; (try simp only [zhcs, reduceCtorEq] at hc); (try (exfalso; first | (first | omega | exact absurd rfl hc) | contradiction | omega | exact absurd rfl hc | exact absurd (by decide) hc))))))
  all_goals ((with_reducible apply At.retV (B := [])); exact rfl; (repeat' (first | exact RVs.nil | (with_reducible apply RVs.cons) | exact rv_tmp (by rfl) | exact rv_cellN (by rfl) (by repeat constructor) (by rfl) (by rfl) (by rfl) | exact rv_cell1 (by rfl) (by repeat constructor) (by rfl) (by rfl))); exact zml; exact zkp; exact ⟨rfl, rfl, rfl⟩)
def innW (w o f g : Int) : Int × Int × Int := if g / w ≤ max (upI f w) o then (0, 0, 3) else (max (upI f w) o * w, g / w * w, 0)
def inn (u : Sta) (t f g : Int) : Int × Int × Int := if mayE u t f g = 0 then innW (wT u.k t) (oldV u.now (wT u.k t) (nT u.k t)) f g else (0, 0, mayE u t f g)
def outW (w o f g : Int) : Int × Int × Int := if f / w < o then (0, 0, 11) else if 35184372088832 < upI g w * w then (0, 0, 1) else (f / w * w, upI g w * w, 0)
def out (u : Sta) (t f g : Int) : Int × Int × Int := if mayE u t f g = 0 then outW (wT u.k t) (oldV u.now (wT u.k t) (nT u.k t)) f g else (0, 0, mayE u t f g)
abbrev v3 (p : Int × Int × Int) : Value := .tuple #[.int .i64 p.1, .int .i64 p.2.1, .int .i64 p.2.2]
theorem mul_div {x w : Int} (h0 : 0 ≤ x) (hw : 1 ≤ w) : 0 ≤ x / w * w ∧ x / w * w ≤ x :=
  ⟨Int.mul_nonneg (div_bd h0 hw).1 (by omega), Int.ediv_mul_le x (by omega)⟩
theorem inner {m : Mem} (u : Sta) (t f g : Int) (hs : u.Ok m) : Rd Try.prog 7 #[u.v, .int .i64 t, .int .i64 f, .int .i64 g] m [] (v3 (inn u t f g)) := by
  unfold Rd inn
  by_cases h : mayE u t f g = 0
  rotate_left
  · have k0 := fun (m' : Mem) (hm : m.le m') => openN u t f g (hs.mono hm) h
    rw [if_neg h]
    generalize mayE u t f g = e at h k0 ⊢
    refine Ct.enterV (by rfl) Try.func7 rfl Try.ntmps7 rfl (fun w0 Rest => ?_)
    (repeat' (first | refine zss ?_ | refine zs0 ?_ | ((with_reducible first | apply AtM1.cr | apply AtQ.cr | apply At.cr); exact rfl; exact rfl; exact fun _ hmm => k0 _ hmm; exact ztk; kernel_rfl) | ((with_reducible apply At.box (d := 4)); exact rfl; exact rfl; exact rfl; intro b4) | ((with_reducible apply At.alloc (d := 11)); exact rfl; exact rfl; intro b11) | (refine zsp ?_ ?_ <;> (intro hc; (try simp only [zhcs, reduceCtorEq] at hc); (try (exfalso; first | (first | omega | exact absurd rfl hc | exact absurd hc h) | contradiction | omega | exact absurd rfl hc | exact absurd (by decide) hc))))))
    all_goals ((with_reducible apply At.retV (B := [])); exact rfl; (repeat' (first | exact RVs.nil | (with_reducible apply RVs.cons) | exact rv_tmp (by rfl) | exact rv_cellN (by rfl) (by repeat constructor) (by rfl) (by rfl) (by rfl) | exact rv_cell1 (by rfl) (by repeat constructor) (by rfl) (by rfl))); exact zml; exact zkp; exact ⟨rfl, rfl, rfl⟩)
  obtain ⟨hok, ht, hf⟩ := may0 h
  rw [if_pos h]
  have h3 := t3 (c := u.k) ht.1 ht.2
  have k0 := fun (m' : Mem) (hm : m.le m') => openK u t f g _ _ (hs.mono hm) h h3
  obtain ⟨hw, hn⟩ := h3.bd hok.1.1
  have ho := old_bd (w := wT u.k t) (n := nT u.k t) hok.2.1.1 hw hn
  generalize oldV u.now (wT u.k t) (nT u.k t) = o at k0 ho ⊢
  generalize wT u.k t = w at k0 ho hw ⊢
  have hu := upI_bd (x := f) hf.1 hw.1
  have k1 := up w o f g f hw (by omega)
  have hd := mul_div (x := g) (by omega) hw.1
  have fq : IntKind.wrap .i64 (g.tdiv w) = g / w := IntWalk.i64_quo _ _ (by omega)
  unfold innW
  by_cases h1 : g / w ≤ max (upI f w) o
  · rw [if_pos h1]
    generalize g / w = q at h1 fq
    generalize upI f w = p at h1 k1 hu
    clear hd hu hs h h3 hok hn
    refine Ct.enterV (by rfl) Try.func7 rfl Try.ntmps7 rfl (fun w0 Rest => ?_)
    (repeat' (first | refine zss ?_ | ((first | (with_reducible first | apply At.val | apply AtQ.val)); (first | exact pr_maxI (by rfl) (by rfl) | exact pr_quo (by rfl) (by rfl) (by omega) fq); exact rfl) | refine zs0 ?_ | ((with_reducible first | apply AtM1.cr | apply AtQ.cr | apply At.cr); exact rfl; exact rfl; exact fun _ hmm => k0 _ hmm; exact ztk; kernel_rfl) | ((with_reducible first | apply AtM1.callp | apply AtQ.callp | apply At.callp); kernel_rfl; exact rfl; exact rfl; exact k1) | ((with_reducible apply At.box (d := 4)); exact rfl; exact rfl; exact rfl; intro b4) | ((with_reducible apply At.alloc (d := 11)); exact rfl; exact rfl; intro b11) | (refine zsp ?_ ?_ <;> (intro hc; (try simp only [zhcs, reduceCtorEq] at hc); (try (exfalso; first | (first | omega | exact absurd rfl hc) | contradiction | omega | exact absurd rfl hc | exact absurd (by decide) hc))))))
    all_goals ((with_reducible apply At.retV (B := [])); exact rfl; (repeat' (first | exact RVs.nil | (with_reducible apply RVs.cons) | exact rv_tmp (by rfl) | exact rv_cellN (by rfl) (by repeat constructor) (by rfl) (by rfl) (by rfl) | exact rv_cell1 (by rfl) (by repeat constructor) (by rfl) (by rfl))); exact zml; exact zkp; exact ⟨rfl, rfl, rfl⟩)
  rw [if_neg h1]
  have hle : max (upI f w) o * w ≤ g / w * w := Int.mul_le_mul_of_nonneg_right (by omega) (by omega)
  have h0 : 0 ≤ max (upI f w) o * w := Int.mul_nonneg (by omega) (by omega)
  have k2 := times w o f g (max (upI f w) o) (g / w) (by omega) (by omega)
  generalize upI f w = p at h1 k1 hu k2 ⊢
  generalize max p o * w = a at k2 ⊢
  generalize g / w * w = b at k2 ⊢
  generalize g / w = q at h1 fq k2
  clear hs h h3 hok hn
  refine Ct.enterV (by rfl) Try.func7 rfl Try.ntmps7 rfl (fun w0 Rest => ?_)
  (repeat' (first | refine zss ?_ | ((first | (with_reducible first | apply At.val | apply AtQ.val)); (first | exact pr_maxI (by rfl) (by rfl) | exact pr_quo (by rfl) (by rfl) (by omega) fq); exact rfl) | refine zs0 ?_ | ((with_reducible first | apply AtM1.cr | apply AtQ.cr | apply At.cr); exact rfl; exact rfl; exact fun _ hmm => k0 _ hmm; exact ztk; kernel_rfl) | ((with_reducible first | apply AtM1.callp | apply AtQ.callp | apply At.callp); kernel_rfl; exact rfl; exact rfl; exact k1) | ((with_reducible first | apply AtM1.callp | apply AtQ.callp | apply At.callp); kernel_rfl; exact rfl; exact rfl; exact k2) | ((with_reducible apply At.box (d := 4)); exact rfl; exact rfl; exact rfl; intro b4) | ((with_reducible apply At.alloc (d := 11)); exact rfl; exact rfl; intro b11) | (refine zsp ?_ ?_ <;> (intro hc; (try simp only [zhcs, reduceCtorEq] at hc); (try (exfalso; first | (first | omega | exact absurd rfl hc) | contradiction | omega | exact absurd rfl hc | exact absurd (by decide) hc))))))
  all_goals ((with_reducible apply At.retV (B := [])); exact rfl; (repeat' (first | exact RVs.nil | (with_reducible apply RVs.cons) | exact rv_tmp (by rfl) | exact rv_cellN (by rfl) (by repeat constructor) (by rfl) (by rfl) (by rfl) | exact rv_cell1 (by rfl) (by repeat constructor) (by rfl) (by rfl))); exact zml; exact zkp; exact ⟨rfl, rfl, rfl⟩)
theorem outer {m : Mem} (u : Sta) (t f g : Int) (hs : u.Ok m) : Rd Try.prog 9 #[u.v, .int .i64 t, .int .i64 f, .int .i64 g] m [] (v3 (out u t f g)) := by
  unfold Rd out
  by_cases h : mayE u t f g = 0
  rotate_left
  · have k0 := fun (m' : Mem) (hm : m.le m') => openN u t f g (hs.mono hm) h
    rw [if_neg h]
    generalize mayE u t f g = e at h k0 ⊢
    refine Ct.enterV (by rfl) Try.func9 rfl Try.ntmps9 rfl (fun w0 Rest => ?_)
    (repeat' (first | refine zss ?_ | refine zs0 ?_ | ((with_reducible first | apply AtM1.cr | apply AtQ.cr | apply At.cr); exact rfl; exact rfl; exact fun _ hmm => k0 _ hmm; exact ztk; kernel_rfl) | ((with_reducible apply At.box (d := 4)); exact rfl; exact rfl; exact rfl; intro b4) | ((with_reducible apply At.alloc (d := 11)); exact rfl; exact rfl; intro b11) | (refine zsp ?_ ?_ <;> (intro hc; (try simp only [zhcs, reduceCtorEq] at hc); (try (exfalso; first | (first | omega | exact absurd rfl hc | exact absurd hc h) | contradiction | omega | exact absurd rfl hc | exact absurd (by decide) hc))))))
    all_goals ((with_reducible apply At.retV (B := [])); exact rfl; (repeat' (first | exact RVs.nil | (with_reducible apply RVs.cons) | exact rv_tmp (by rfl) | exact rv_cellN (by rfl) (by repeat constructor) (by rfl) (by rfl) (by rfl) | exact rv_cell1 (by rfl) (by repeat constructor) (by rfl) (by rfl))); exact zml; exact zkp; exact ⟨rfl, rfl, rfl⟩)
  obtain ⟨hok, ht, hf⟩ := may0 h
  rw [if_pos h]
  have h3 := t3 (c := u.k) ht.1 ht.2
  have k0 := fun (m' : Mem) (hm : m.le m') => openK u t f g _ _ (hs.mono hm) h h3
  obtain ⟨hw, hn⟩ := h3.bd hok.1.1
  generalize oldV u.now (wT u.k t) (nT u.k t) = o at k0 ⊢
  generalize wT u.k t = w at k0 hw ⊢
  have hu := upI_bd (x := g) (by omega) hw.1
  have k1 := up w o f g g hw (by omega)
  have hd := mul_div (x := f) hf.1 hw.1
  have fq : IntKind.wrap .i64 (f.tdiv w) = f / w := IntWalk.i64_quo _ _ (by omega)
  have k2 := times w o f g (f / w) (upI g w) (by omega) (by omega)
  have fm : IntKind.wrap .i64 (upI g w * w) = upI g w * w := IntWalk.i64_in _ (by omega)
  unfold outW
  generalize f / w * w = a at k2 hd ⊢
  generalize f / w = q at k2 fq ⊢
  clear hs h h3 hok hn
  generalize upI g w = p at k1 k2 hu fm ⊢
  by_cases h1 : q < o
  · rw [if_pos h1]
    clear hd
    refine Ct.enterV (by rfl) Try.func9 rfl Try.ntmps9 rfl (fun w0 Rest => ?_)
    (repeat' (first | refine zss ?_ | ((first | (with_reducible first | apply At.val | apply AtQ.val)); (first | exact pr_quo (by rfl) (by rfl) (by omega) fq | exact pr_mul (by rfl) (by rfl) fm); exact rfl) | refine zs0 ?_ | ((with_reducible first | apply AtM1.cr | apply AtQ.cr | apply At.cr); exact rfl; exact rfl; exact fun _ hmm => k0 _ hmm; exact ztk; kernel_rfl) | ((with_reducible first | apply AtM1.callp | apply AtQ.callp | apply At.callp); kernel_rfl; exact rfl; exact rfl; exact k1) | ((with_reducible first | apply AtM1.callp | apply AtQ.callp | apply At.callp); kernel_rfl; exact rfl; exact rfl; exact k2) | ((with_reducible apply At.box (d := 4)); exact rfl; exact rfl; exact rfl; intro b4) | ((with_reducible apply At.alloc (d := 11)); exact rfl; exact rfl; intro b11) | (refine zsp ?_ ?_ <;> (intro hc; (try simp only [zhcs, reduceCtorEq] at hc); (try (exfalso; first | (first | omega | exact absurd rfl hc) | contradiction | omega | exact absurd rfl hc | exact absurd (by decide) hc))))))
    all_goals ((with_reducible apply At.retV (B := [])); exact rfl; (repeat' (first | exact RVs.nil | (with_reducible apply RVs.cons) | exact rv_tmp (by rfl) | exact rv_cellN (by rfl) (by repeat constructor) (by rfl) (by rfl) (by rfl) | exact rv_cell1 (by rfl) (by repeat constructor) (by rfl) (by rfl))); exact zml; exact zkp; exact ⟨rfl, rfl, rfl⟩)
  rw [if_neg h1]
  by_cases h2 : 35184372088832 < p * w
  · rw [if_pos h2]
    clear hd
    refine Ct.enterV (by rfl) Try.func9 rfl Try.ntmps9 rfl (fun w0 Rest => ?_)
    (repeat' (first | refine zss ?_ | ((first | (with_reducible first | apply At.val | apply AtQ.val)); (first | exact pr_quo (by rfl) (by rfl) (by omega) fq | exact pr_mul (by rfl) (by rfl) fm); exact rfl) | refine zs0 ?_ | ((with_reducible first | apply AtM1.cr | apply AtQ.cr | apply At.cr); exact rfl; exact rfl; exact fun _ hmm => k0 _ hmm; exact ztk; kernel_rfl) | ((with_reducible first | apply AtM1.callp | apply AtQ.callp | apply At.callp); kernel_rfl; exact rfl; exact rfl; exact k1) | ((with_reducible first | apply AtM1.callp | apply AtQ.callp | apply At.callp); kernel_rfl; exact rfl; exact rfl; exact k2) | ((with_reducible apply At.box (d := 4)); exact rfl; exact rfl; exact rfl; intro b4) | ((with_reducible apply At.alloc (d := 11)); exact rfl; exact rfl; intro b11) | (refine zsp ?_ ?_ <;> (intro hc; (try simp only [zhcs, reduceCtorEq] at hc); (try (exfalso; first | (first | omega | exact absurd rfl hc) | contradiction | omega | exact absurd rfl hc | exact absurd (by decide) hc))))))
    all_goals ((with_reducible apply At.retV (B := [])); exact rfl; (repeat' (first | exact RVs.nil | (with_reducible apply RVs.cons) | exact rv_tmp (by rfl) | exact rv_cellN (by rfl) (by repeat constructor) (by rfl) (by rfl) (by rfl) | exact rv_cell1 (by rfl) (by repeat constructor) (by rfl) (by rfl))); exact zml; exact zkp; exact ⟨rfl, rfl, rfl⟩)
  · rw [if_neg h2]
    clear hd
    refine Ct.enterV (by rfl) Try.func9 rfl Try.ntmps9 rfl (fun w0 Rest => ?_)
    (repeat' (first | refine zss ?_ | ((first | (with_reducible first | apply At.val | apply AtQ.val)); (first | exact pr_quo (by rfl) (by rfl) (by omega) fq | exact pr_mul (by rfl) (by rfl) fm); exact rfl) | refine zs0 ?_ | ((with_reducible first | apply AtM1.cr | apply AtQ.cr | apply At.cr); exact rfl; exact rfl; exact fun _ hmm => k0 _ hmm; exact ztk; kernel_rfl) | ((with_reducible first | apply AtM1.callp | apply AtQ.callp | apply At.callp); kernel_rfl; exact rfl; exact rfl; exact k1) | ((with_reducible first | apply AtM1.callp | apply AtQ.callp | apply At.callp); kernel_rfl; exact rfl; exact rfl; exact k2) | ((with_reducible apply At.box (d := 4)); exact rfl; exact rfl; exact rfl; intro b4) | ((with_reducible apply At.alloc (d := 11)); exact rfl; exact rfl; intro b11) | (refine zsp ?_ ?_ <;> (intro hc; (try simp only [zhcs, reduceCtorEq] at hc); (try (exfalso; first | (first | omega | exact absurd rfl hc) | contradiction | omega | exact absurd rfl hc | exact absurd (by decide) hc))))))
    all_goals ((with_reducible apply At.retV (B := [])); exact rfl; (repeat' (first | exact RVs.nil | (with_reducible apply RVs.cons) | exact rv_tmp (by rfl) | exact rv_cellN (by rfl) (by repeat constructor) (by rfl) (by rfl) (by rfl) | exact rv_cell1 (by rfl) (by repeat constructor) (by rfl) (by rfl))); exact zml; exact zkp; exact ⟨rfl, rfl, rfl⟩)
theorem inn_e {u : Sta} {t f g : Int} (h : mayE u t f g = 0) : (inn u t f g).2.2 = 0 ∨ (inn u t f g).2.2 = 3 := by
  unfold inn
  rw [if_pos h]
  unfold innW
  split
  · exact .inr rfl
  · exact .inl rfl
/-- the first tier that has one -/
def fin (u : Sta) (f g : Int) : Int × Int × Int × Int := if mayE u 1 f g ≠ 0 then (0, 0, 0, mayE u 1 f g) else
  if (inn u 1 f g).2.2 = 0 then (1, inn u 1 f g) else if (inn u 2 f g).2.2 = 0 then (2, inn u 2 f g) else if (inn u 3 f g).2.2 = 0 then (3, inn u 3 f g) else (0, 0, 0, 3)
abbrev v4 (p : Int × Int × Int × Int) : Value := .tuple #[.int .i64 p.1, .int .i64 p.2.1, .int .i64 p.2.2.1, .int .i64 p.2.2.2]
structure FS where
  j : Nat
  e : Int
theorem finest {m : Mem} (u : Sta) (f g : Int) (hs : u.Ok m) : Rd Try.prog 12 #[u.v, .int .i64 f, .int .i64 g] m [] (v4 (fin u f g)) := by
  unfold Rd fin
  by_cases h : mayE u 1 f g = 0
  rotate_left
  · have k0 := fun (m' : Mem) (hm : m.le m') => inner u 1 f g (hs.mono hm)
    unfold inn at k0
    rw [if_neg h] at k0
    rw [if_pos h]
    have h9 := may3 (u := u) (t := 1) (f := f) (g := g)
    generalize mayE u 1 f g = e at h h9 k0 ⊢
    clear hs
    refine Ct.enterV (by rfl) Try.func12 rfl Try.ntmps12 rfl (fun w0 Rest => ?_)
    (repeat' (first | refine zss ?_ | refine zs0 ?_ | ((with_reducible apply At.box (d := 3)); exact rfl; exact rfl; exact rfl; intro b3) | (refine zsp ?_ ?_ <;> (intro hc; (try simp only [zhcs, reduceCtorEq] at hc); (try (exfalso; first | (first | omega | exact absurd rfl hc | exact absurd hc h) | contradiction | omega | exact absurd rfl hc | exact absurd (by decide) hc))))))
    (refine At.loopk (σ := FS) [1, 2, 3] (fun s F0 => (11, .int .i64 ((s.j : Int) + 1)) :: (10, .int .i64 s.e) :: F0) (fun s => m) (fun s => .blk b3 28 u.cells :: Rest) (fun s => (s.j = 0 ∧ s.e = 3) ∨ (s.j = 1 ∧ s.e = e)) (fun s => 2 - s.j) ⟨0, 3⟩ (by rfl) ?_ zsubs zml zente ?_)
    · exact .inl ⟨rfl, rfl⟩
    rintro ⟨j, q⟩ hq
    dsimp only at hq ⊢
    rcases hq with ⟨rfl, rfl⟩ | ⟨rfl, rfl⟩
    · (repeat' (first | refine zss ?_ | refine zs0 ?_ | ((with_reducible first | apply AtM1.cr | apply AtQ.cr | apply At.cr); exact rfl; exact rfl; exact fun _ hmm => k0 _ hmm; exact ztk; kernel_rfl) | ((with_reducible apply At.box (d := 3)); exact rfl; exact rfl; exact rfl; intro b3) | (refine zsp ?_ ?_ <;> (intro hc; (try simp only [zhcs, reduceCtorEq] at hc); (try (exfalso; first | (first | omega | exact absurd rfl hc | exact absurd hc h | exact absurd hc h9) | contradiction | omega | exact absurd rfl hc | exact absurd (by decide) hc))))))
      all_goals ((with_reducible refine At.reachk (⟨1, e⟩) ?_ ?_ ?_ ?_); exact zsubs; exact zml; exact zente; exact ⟨.inr ⟨rfl, rfl⟩, (by decide : 2 - 1 < 2 - 0)⟩)
    · (repeat' (first | refine zss ?_ | refine zs0 ?_ | ((with_reducible apply At.box (d := 3)); exact rfl; exact rfl; exact rfl; intro b3) | (refine zsp ?_ ?_ <;> (intro hc; (try simp only [zhcs, reduceCtorEq] at hc); (try (exfalso; first | (first | omega | exact absurd rfl hc | exact absurd hc h | exact absurd hc h9) | contradiction | omega | exact absurd rfl hc | exact absurd (by decide) hc))))))
      all_goals ((with_reducible apply At.retV (B := [])); exact rfl; (repeat' (first | exact RVs.nil | (with_reducible apply RVs.cons) | exact rv_tmp (by rfl) | exact rv_cellN (by rfl) (by repeat constructor) (by rfl) (by rfl) (by rfl) | exact rv_cell1 (by rfl) (by repeat constructor) (by rfl) (by rfl))); exact zml; exact zkp; exact ⟨rfl, rfl, rfl⟩)
  rw [if_neg (fun g => g h)]
  have q1 := inn_e h
  have q2 := inn_e (u := u) (t := 2) (f := f) (g := g) (by rw [← h]; exact may_all (by decide) (by decide))
  have q3 := inn_e (u := u) (t := 3) (f := f) (g := g) (by rw [← h]; exact may_all (by decide) (by decide))
  have k1 := fun (m' : Mem) (hm : m.le m') => inner u 1 f g (hs.mono hm)
  have k2 := fun (m' : Mem) (hm : m.le m') => inner u 2 f g (hs.mono hm)
  have k3 := fun (m' : Mem) (hm : m.le m') => inner u 3 f g (hs.mono hm)
  generalize inn u 1 f g = A at q1 k1 ⊢
  generalize inn u 2 f g = B at q2 k2 ⊢
  generalize inn u 3 f g = C at q3 k3 ⊢
  obtain ⟨a1, b1, e1⟩ := A
  obtain ⟨a2, b2, e2⟩ := B
  obtain ⟨a3, b3, e3⟩ := C
  dsimp only at q1 q2 q3 k1 k2 k3 ⊢
  clear hs h
  refine Ct.enterV (by rfl) Try.func12 rfl Try.ntmps12 rfl (fun w0 Rest => ?_)
  (repeat' (first | refine zss ?_ | refine zs0 ?_ | ((with_reducible apply At.box (d := 3)); exact rfl; exact rfl; exact rfl; intro b3) | (refine zsp ?_ ?_ <;> (intro hc; (try simp only [zhcs, reduceCtorEq] at hc); (try (exfalso; first | (first | omega | exact absurd rfl hc) | contradiction | omega | exact absurd rfl hc | exact absurd (by decide) hc))))))
  (refine At.loopk (σ := Nat) [1, 2, 3] (fun s F0 => (11, .int .i64 ((s : Int) + 1)) :: (10, .int .i64 3) :: F0) (fun s => m) (fun s => .blk b3 28 u.cells :: Rest) (fun s => s ≤ 3 ∧ (0 < s → e1 = 3) ∧ (1 < s → e2 = 3) ∧ (2 < s → e3 = 3)) (fun s => 3 - s) 0 (by rfl) ?_ zsubs zml zente ?_)
  · exact ⟨Nat.zero_le _, fun h => absurd h (Nat.not_lt_zero _), fun h => absurd h (by decide), fun h => absurd h (by decide)⟩
  rintro s ⟨hs3, g1, g2, g3⟩
  rcases (show s = 0 ∨ s = 1 ∨ s = 2 ∨ s = 3 by omega) with rfl | rfl | rfl | rfl
  · rcases q1 with rfl | rfl
    · rw [if_pos rfl]
      (repeat' (first | refine zss ?_ | refine zs0 ?_ | ((with_reducible first | apply AtM1.cr | apply AtQ.cr | apply At.cr); exact rfl; exact rfl; exact fun _ hmm => k1 _ hmm; exact ztk; kernel_rfl) | ((with_reducible apply At.box (d := 3)); exact rfl; exact rfl; exact rfl; intro b3) | (refine zsp ?_ ?_ <;> (intro hc; (try simp only [zhcs, reduceCtorEq] at hc); (try (exfalso; first | (first | omega | exact absurd rfl hc | exact absurd hc (by decide)) | contradiction | omega | exact absurd rfl hc | exact absurd (by decide) hc))))))
      all_goals ((with_reducible apply At.retV (B := [])); exact rfl; (repeat' (first | exact RVs.nil | (with_reducible apply RVs.cons) | exact rv_tmp (by rfl) | exact rv_cellN (by rfl) (by repeat constructor) (by rfl) (by rfl) (by rfl) | exact rv_cell1 (by rfl) (by repeat constructor) (by rfl) (by rfl))); exact zml; exact zkp; exact ⟨rfl, rfl, rfl⟩)
    · (repeat' (first | refine zss ?_ | refine zs0 ?_ | ((with_reducible first | apply AtM1.cr | apply AtQ.cr | apply At.cr); exact rfl; exact rfl; exact fun _ hmm => k1 _ hmm; exact ztk; kernel_rfl) | ((with_reducible apply At.box (d := 3)); exact rfl; exact rfl; exact rfl; intro b3) | (refine zsp ?_ ?_ <;> (intro hc; (try simp only [zhcs, reduceCtorEq] at hc); (try (exfalso; first | (first | omega | exact absurd rfl hc | exact absurd hc (by decide)) | contradiction | omega | exact absurd rfl hc | exact absurd (by decide) hc))))))
      all_goals ((with_reducible refine At.reachk (1) ?_ ?_ ?_ ?_); exact zsubs; exact zml; exact zente; exact ⟨⟨by decide, fun _ => rfl, fun h => absurd h (by decide), fun h => absurd h (by decide)⟩, (by decide : 3 - 1 < 3 - 0)⟩)
  · obtain rfl := g1 (by decide)
    rw [if_neg (by decide)]
    rcases q2 with rfl | rfl
    · rw [if_pos rfl]
      (repeat' (first | refine zss ?_ | refine zs0 ?_ | ((with_reducible first | apply AtM1.cr | apply AtQ.cr | apply At.cr); exact rfl; exact rfl; exact fun _ hmm => k2 _ hmm; exact ztk; kernel_rfl) | ((with_reducible apply At.box (d := 3)); exact rfl; exact rfl; exact rfl; intro b3) | (refine zsp ?_ ?_ <;> (intro hc; (try simp only [zhcs, reduceCtorEq] at hc); (try (exfalso; first | (first | omega | exact absurd rfl hc | exact absurd hc (by decide)) | contradiction | omega | exact absurd rfl hc | exact absurd (by decide) hc))))))
      all_goals ((with_reducible apply At.retV (B := [])); exact rfl; (repeat' (first | exact RVs.nil | (with_reducible apply RVs.cons) | exact rv_tmp (by rfl) | exact rv_cellN (by rfl) (by repeat constructor) (by rfl) (by rfl) (by rfl) | exact rv_cell1 (by rfl) (by repeat constructor) (by rfl) (by rfl))); exact zml; exact zkp; exact ⟨rfl, rfl, rfl⟩)
    · (repeat' (first | refine zss ?_ | refine zs0 ?_ | ((with_reducible first | apply AtM1.cr | apply AtQ.cr | apply At.cr); exact rfl; exact rfl; exact fun _ hmm => k2 _ hmm; exact ztk; kernel_rfl) | ((with_reducible apply At.box (d := 3)); exact rfl; exact rfl; exact rfl; intro b3) | (refine zsp ?_ ?_ <;> (intro hc; (try simp only [zhcs, reduceCtorEq] at hc); (try (exfalso; first | (first | omega | exact absurd rfl hc | exact absurd hc (by decide)) | contradiction | omega | exact absurd rfl hc | exact absurd (by decide) hc))))))
      all_goals ((with_reducible refine At.reachk (2) ?_ ?_ ?_ ?_); exact zsubs; exact zml; exact zente; exact ⟨⟨by decide, fun _ => rfl, fun _ => rfl, fun h => absurd h (by decide)⟩, (by decide : 3 - 2 < 3 - 1)⟩)
  · obtain rfl := g1 (by decide)
    obtain rfl := g2 (by decide)
    rw [if_neg (by decide), if_neg (by decide)]
    rcases q3 with rfl | rfl
    · rw [if_pos rfl]
      (repeat' (first | refine zss ?_ | refine zs0 ?_ | ((with_reducible first | apply AtM1.cr | apply AtQ.cr | apply At.cr); exact rfl; exact rfl; exact fun _ hmm => k3 _ hmm; exact ztk; kernel_rfl) | ((with_reducible apply At.box (d := 3)); exact rfl; exact rfl; exact rfl; intro b3) | (refine zsp ?_ ?_ <;> (intro hc; (try simp only [zhcs, reduceCtorEq] at hc); (try (exfalso; first | (first | omega | exact absurd rfl hc | exact absurd hc (by decide)) | contradiction | omega | exact absurd rfl hc | exact absurd (by decide) hc))))))
      all_goals ((with_reducible apply At.retV (B := [])); exact rfl; (repeat' (first | exact RVs.nil | (with_reducible apply RVs.cons) | exact rv_tmp (by rfl) | exact rv_cellN (by rfl) (by repeat constructor) (by rfl) (by rfl) (by rfl) | exact rv_cell1 (by rfl) (by repeat constructor) (by rfl) (by rfl))); exact zml; exact zkp; exact ⟨rfl, rfl, rfl⟩)
    · (repeat' (first | refine zss ?_ | refine zs0 ?_ | ((with_reducible first | apply AtM1.cr | apply AtQ.cr | apply At.cr); exact rfl; exact rfl; exact fun _ hmm => k3 _ hmm; exact ztk; kernel_rfl) | ((with_reducible apply At.box (d := 3)); exact rfl; exact rfl; exact rfl; intro b3) | (refine zsp ?_ ?_ <;> (intro hc; (try simp only [zhcs, reduceCtorEq] at hc); (try (exfalso; first | (first | omega | exact absurd rfl hc | exact absurd hc (by decide)) | contradiction | omega | exact absurd rfl hc | exact absurd (by decide) hc))))))
      all_goals ((with_reducible refine At.reachk (3) ?_ ?_ ?_ ?_); exact zsubs; exact zml; exact zente; exact ⟨⟨by decide, fun _ => rfl, fun _ => rfl, fun _ => rfl⟩, (by decide : 3 - 3 < 3 - 2)⟩)
  · obtain rfl := g1 (by decide)
    obtain rfl := g2 (by decide)
    obtain rfl := g3 (by decide)
    rw [if_neg (by decide), if_neg (by decide), if_neg (by decide)]
    (repeat' (first | refine zss ?_ | refine zs0 ?_ | ((with_reducible apply At.box (d := 3)); exact rfl; exact rfl; exact rfl; intro b3) | (refine zsp ?_ ?_ <;> (intro hc; (try simp only [zhcs, reduceCtorEq] at hc); (try (exfalso; first | (first | omega | exact absurd rfl hc | exact absurd hc (by decide)) | contradiction | omega | exact absurd rfl hc | exact absurd (by decide) hc))))))
    all_goals ((with_reducible apply At.retV (B := [])); exact rfl; (repeat' (first | exact RVs.nil | (with_reducible apply RVs.cons) | exact rv_tmp (by rfl) | exact rv_cellN (by rfl) (by repeat constructor) (by rfl) (by rfl) (by rfl) | exact rv_cell1 (by rfl) (by repeat constructor) (by rfl) (by rfl))); exact zml; exact zkp; exact ⟨rfl, rfl, rfl⟩)
end Au
end Go.Proofs.Ytecifniognbomaa
/- How cells merge, as the program and the document tell it. -/
set_option linter.unusedSimpArgs false
set_option linter.unusedVariables false
set_option linter.unusedSectionVars false
set_option maxRecDepth 20000
set_option maxHeartbeats 4000000
namespace Go.Proofs.Ytecifniognbomaa
open Go Go.J
attribute [local irreducible] At AtQ AtM AtM1 PR Ct Pu Rd Res.blk Res.own Res.ex RVs RV
namespace Cell
open Ev Wide
def In (c : Cell) : Prop := (-9223372036854775808 ≤ c.n ∧ c.n ≤ 9223372036854775807) ∧ c.F.V < 18446744073709551616 ∧ c.L.V < 18446744073709551616 ∧ c.I < 340282366920938463463374607431768211456
theorem In.fits {c : Cell} (h : In c) : Fits c := ⟨h.2.1, h.2.2.1⟩
theorem z_in : In z := by unfold In; decide
theorem Full.bd {c : Cell} (h : Full c) : c.n ≤ 35184372088833 ∧ c.I ≤ 649037107316853434412140771606528 ∧ c.R ≤ 35184372088833 ∧ c.G ≤ 35184372088833 ∧ c.X ≤ 35184372088833 := by
  have ⟨p1, p2, _⟩ := h.F
  have ⟨p3, p4, _⟩ := h.L
  have h1 := h.len
  have h2 := h.I
  have h3 := h.RG
  have h4 := h.R
  have h5 := h.G
  have h6 := h.XL
  have h7 := h.n
  exact ⟨by omega, by omega, by omega, by omega, by omega⟩
theorem Full.in {c : Cell} (h : Full c) (h1 : c.F.V < 18446744073709551616) (h2 : c.L.V < 18446744073709551616) : In c := by
  have hb := h.bd
  have hn := h.n
  exact ⟨by omega, h1, h2, by omega⟩
theorem mrg_in {a b : Cell} (ha : In a) (hb : In b) : In (mrg a b).1 := by
  rcases mrg_cases (a := a) (b := b) with ⟨e, _⟩ | ⟨e, h1, h2⟩ | ⟨e, h1, h2⟩ | ⟨e, _⟩ | ⟨e, h1, h2, h3⟩ <;> rw [e]
  · exact z_in
  · exact hb
  · exact ha
  · exact z_in
  · exact (join_full h1 h2 h3 hb.2.1).in ha.2.1 hb.2.2.1
theorem v_mk {c : Cell} {h l : Int} (hh : h = ((c.I / 18446744073709551616 : Nat) : Int)) (hl : l = ((c.I % 18446744073709551616 : Nat) : Int)) :
    Value.agg #[.int .i64 c.n, .int .i64 c.F.T, .int .u64 (c.F.V : Int), .int .i64 c.F.C, .bool c.F.S, .int .i64 c.L.T, .int .u64 (c.L.V : Int), .int .i64 c.L.C, .bool c.L.S, .int .u64 h, .int .u64 l, .int .i64 c.R, .int .i64 c.G, .int .i64 c.X] = c.v := by subst hh hl; rfl
theorem one_v (e : Ev) : Value.agg #[.int .i64 1, .int .i64 e.T, .int .u64 (e.V : Int), .int .i64 e.C, .bool e.S, .int .i64 e.T, .int .u64 (e.V : Int), .int .i64 e.C, .bool e.S, .int .u64 0, .int .u64 0, .int .i64 0, .int .i64 0, .int .i64 0] = (one e).v :=
  v_mk (c := one e) (h := 0) (l := 0) (by dsimp only [one]; omega) (by dsimp only [one]; omega)
theorem chk_ok {c : Cell} (h : ok c) : chk c = 0 := if_pos h
theorem chk_no {c : Cell} (h : ¬ ok c) : chk c = 2 := if_neg h
def addE (c : Cell) (e : Ev) : Cell × Int := if e.ok then mrg c (one e) else (z, 2)
theorem one_in {e : Ev} (h : e.V < 18446744073709551616) : In (one e) := ⟨by show (-9223372036854775808 ≤ (1 : Int) ∧ (1 : Int) ≤ 9223372036854775807); decide, h, h, by show 0 < _; decide⟩
end Cell
end Go.Proofs.Ytecifniognbomaa
/- From a contract to a law's row: what a law's call leaves of memory. -/
set_option linter.unusedSimpArgs false
set_option linter.unusedVariables false
set_option linter.unusedSectionVars false
set_option maxRecDepth 20000
namespace Go.J
open Go Go.ChangeShapes Go.WideShapes Go.ChangeAt Go.RowKit

def memOf (W : World) : Mem := fun k => W.heap[k]?

theorem HW.init (W : World) : HW W (memOf W) [] W :=
  ⟨rfl, rfl, rfl, Nat.le_refl _, fun _ _ h => h, fun _ => False, fun _ h => h, fun _ h => h.elim⟩

theorem HW.below {W w' : World} {m' : Mem} {Rs : List Res} (h : HW W m' Rs w') (hm : (memOf W).le m') : Below W.heap.size W w' :=
  ⟨h.os, h.tape, h.output, h.size, fun k hk => by
    have hk' : W.heap[k]? = some W.heap[k] := Array.getElem?_eq_getElem hk
    rw [hk']
    exact h.mem k _ (hm k _ hk')⟩

theorem law_calls {P : Program} {f : FuncId} {args : Array Value} {W : World} (h : Ct P f args (memOf W) [] (fun v _ _ => v = .bool true)) :
    Calls P f args W fun e W' => e = .returned (.bool true) ∧ Below W.heap.size W W' :=
  (h W [] W (HW.init W)).mono fun _ _ ⟨_, _, _, he, hm, hv, hw⟩ => ⟨by rw [he, hv], hw.below hm⟩

theorem law_calls_pu {P : Program} {f : FuncId} {args : Array Value} {W : World} (h : Pu P f args (.bool true)) :
    Calls P f args W fun e W' => e = .returned (.bool true) ∧ Below W.heap.size W W' :=
  law_calls ((h (memOf W)).mono fun _ _ _ _ ⟨hv, _, _⟩ => hv)

/-- the arguments read as they did -/
theorem trodAll_below {H : Type} {enc : TypeId × Value → H} {P : Program} (hl : laidOutB P = true) {W W' : World} (hb : Below W.heap.size W W') :
    ∀ (ts : List TypeId) (vs : List Value) (ds : List (DataW H)) (ps : List MemPlace), (ts.all fun t => P.readableRec t && decide (t < P.types.size)) = true →
      DataW.TrodAll enc P W 0 (fun _ => true) true ts vs ds ps → (∀ x ∈ ps, x.block < W.heap.size) → DataW.TrodAll enc P W' 0 (fun b => decide (b < W.heap.size)) true ts vs ds ps
  | [], vs, ds, ps, _, h, _ => by
    obtain ⟨rfl, rfl, rfl⟩ := trodAll_nil h
    exact trodAll_mk0
  | t :: ts, vs, ds, ps, hr, h, hlt => by
    obtain ⟨v, vs', d, ds', p, q, rfl, rfl, rfl, h0, h1⟩ := trodAll_cons h
    simp only [List.all_cons, Bool.and_eq_true, decide_eq_true_eq] at hr
    exact trodAll_cons_mk (Below.trod hl hr.1.1 hr.1.2 h0 hb (fun x hx => hlt x (by simp [hx]))) (trodAll_below hl hb ts vs' ds' q hr.2 h1 (fun x hx => hlt x (by simp [hx])))

end Go.J
/- A law's slices: opened into lists. -/
set_option linter.unusedSimpArgs false
set_option linter.unusedVariables false
set_option linter.unusedSectionVars false
set_option maxRecDepth 20000
namespace Go.J
open Go Go.ChangeShapes Go.WideShapes Go.ChangeAt Go.RowKit

theorem cell_cells {w : World} {a : Addr} {v : Value} (h : w.cell? a = some v) : a.spot = none ∧ ∃ E cs fz, w.heap[a.block]? = some (.cells cs E fz) ∧ cs[a.off]? = some v := by
  unfold World.cell? at h
  cases hb : w.heap[a.block]? with
  | none => rw [hb] at h; cases h
  | some o =>
    rw [hb] at h
    cases o <;> simp at h
    rename_i cs E fz
    exact ⟨by
      cases hs : a.spot with
      | none => rfl
      | some x => rw [hs] at h; simp at h, E, cs, fz, rfl, h.2⟩

theorem open_sl {α : Type} [Inhabited α] {f : α → List Value} {sz : Nat} (hf : Fl f sz) (φ : α → Prop) {H : Type} {enc : TypeId × Value → H} {P : Program} {W : World} {t e : TypeId} {fuel : Nat} {cs : List Value} {x : DataW H × List MemPlace}
    (ht : P.underlying t = some (.slice e)) (hc : P.cellsOf e = sz)
    (hdec : ∀ n cs' y, cs'.length = sz → DataW.trod enc P W 0 (fun _ => true) true n e cs' = some y → ∃ a, cs' = f a ∧ φ a)
    (h : DataW.trod enc P W 0 (fun _ => true) true fuel t cs = some x) : ∃ p c l, cs = [.slice p l.length c] ∧ Sl (memOf W) f sz p c l ∧ ∀ a ∈ l, φ a := by
  rcases Go.Deep.open_slice ht h with ⟨rfl, _⟩ | ⟨a, len, cap, m, n, D, Pl, rfl, _, hl, hm, hmm, _, hx⟩
  · exact ⟨none, 0, [], rfl, Sl.empty _ hf, fun a ha => by cases ha⟩
  · simp only [if_true] at hmm
    subst hmm
    obtain ⟨A, hA⟩ := Go.Deep.choose_lt (α := α) (n := m) (p := fun i y => W.cells? 0 (a.add (i * sz)) sz = some (f y) ∧ φ y) (fun i hi => by
      obtain ⟨cs', h1, h2⟩ := hx i hi
      rw [hc] at h1
      obtain ⟨_, hlen, _⟩ := World.cells?_some h1
      obtain ⟨y, rfl, hy⟩ := hdec n cs' _ hlen h2
      exact ⟨y, h1, hy⟩)
    have hll : ((List.range len).map A).length = len := by simp
    refine ⟨some a, m, (List.range len).map A, by rw [hll], ⟨hf, by rw [hll]; exact hl, hm, (fun e => by cases e), fun a' ha' hpos => ?_⟩, fun y hy => ?_⟩
    · cases ha'
      have hsz := hf.pos
      have hcell : ∀ i j, i < m → j < sz → W.cell? ((a.add (i * sz)).add j) = (f (A i))[j]? := fun i j hi hj => (World.cells?_some (hA i hi).1).2.2 j hj
      have hlen : ∀ i j, j < sz → ∃ v, (f (A i))[j]? = some v := fun i j hj => ⟨(f (A i))[j]'(by rw [hf.len]; exact hj), List.getElem?_eq_getElem _⟩
      obtain ⟨v0, hv0⟩ := hlen 0 0 hsz
      have h00 := hcell 0 0 hpos hsz
      rw [hv0] at h00
      have e0 : (a.add (0 * sz)).add 0 = a := by simp [Addr.add]
      rw [e0] at h00
      obtain ⟨hspot, E, cs, fz, hb, _⟩ := cell_cells h00
      have ea : ∀ k, a.add k = ⟨a.block, a.off + k, none⟩ := fun k => by cases a; simp only at hspot; subst hspot; exact Addr.add_eq _ _ _
      have hcell' : ∀ i j, i < m → j < sz → cs[a.off + (i * sz + j)]? = (f (A i))[j]? := fun i j hi hj => by
        have := hcell i j hi hj
        rw [ea, Addr.add_eq, World.cell_of hb] at this
        rw [← this, Nat.add_assoc]
      refine ⟨hspot, E, cs, fz, hb, ?_, fun i j hi hj => ?_⟩
      · obtain ⟨v, hv⟩ := hlen (m - 1) (sz - 1) (by omega)
        have h1 := hcell' (m - 1) (sz - 1) (by omega) (by omega)
        rw [hv] at h1
        have h2 := (Array.getElem?_eq_some_iff.1 h1).1
        have h3 : (m - 1) * sz + sz = m * sz := by
          have := Nat.succ_mul (m - 1) sz
          rw [show (m - 1).succ = m by omega] at this; omega
        omega
      · rw [hll] at hi
        rw [hcell' i j (by omega) hj]
        congr 2
        rw [List.getElem!_eq_getElem?_getD]; simp [hi]
    · obtain ⟨i, hi, rfl⟩ := List.mem_map.1 hy
      exact (hA i (by have := List.mem_range.1 hi; omega)).2

/-- a law's argument that is a slice -/
theorem open_sl_arg {α : Type} [Inhabited α] {f : α → List Value} {sz : Nat} (hf : Fl f sz) (φ : α → Prop) {H : Type} {enc : TypeId × Value → H} {P : Program} {W : World} {t e : TypeId} {v : Value} {d : DataW H} {ps : List MemPlace}
    (ht : P.underlying t = some (.slice e)) (hc : P.cellsOf e = sz)
    (hdec : ∀ n cs' y, cs'.length = sz → DataW.trod enc P W 0 (fun _ => true) true n e cs' = some y → ∃ a, cs' = f a ∧ φ a)
    (hsl : ∃ p l c, v = .slice p l c) (h : DataW.Trod enc P W 0 (fun _ => true) true t v d ps) : ∃ p c l, v = .slice p l.length c ∧ Sl (memOf W) f sz p c l ∧ ∀ a ∈ l, φ a := by
  obtain ⟨fuel, hfl⟩ := h
  obtain ⟨p0, l0, c0, rfl⟩ := hsl
  obtain ⟨p, c, l, h1, h2⟩ := open_sl hf φ ht hc hdec hfl
  refine ⟨p, c, l, ?_, h2⟩
  simpa [Value.cells] using h1

theorem dec_int {H : Type} {enc : TypeId × Value → H} {P : Program} {W : World} {e : TypeId} {k : IntKind} (he : P.underlying e = some (.int k)) : ∀ n cs' y, cs'.length = 1 → DataW.trod enc P W 0 (fun _ => true) true n e cs' = some y → ∃ a : Int, cs' = [.int k a] ∧ (Lit.int k a).wf = true := fun n cs' y _ h => by
  obtain ⟨a, h1, _, h3⟩ := DataW.trod_int he h
  exact ⟨a, h1, h3⟩
end Go.J
/- A law's arguments of any plain make: structs of whole numbers, truth values, texts, and slices, opened into their cells. -/
set_option linter.unusedSimpArgs false
set_option linter.unusedVariables false
set_option linter.unusedSectionVars false
set_option maxRecDepth 20000
namespace Go.J
open Go Go.ChangeShapes Go.WideShapes Go.ChangeAt Go.RowKit

inductive LK
  | int (k : IntKind)
  | bool
  | str
  | sl (t : TypeId)

section
variable {H : Type} {enc : TypeId × Value → H} {P : Program} {W : World}

def Fit1 (enc : TypeId × Value → H) (P : Program) (W : World) : LK → Value → Prop
  | .int k, v => ∃ a, v = .int k a ∧ (Lit.int k a).wf = true
  | .bool, v => ∃ b, v = .bool b
  | .str, v => ∃ l, v = .string (str l) ∧ l.length ≤ maxLen
  | .sl t, v => ∃ n y, DataW.trod enc P W 0 (fun _ => true) true n t [v] = some y
def Fit (enc : TypeId × Value → H) (P : Program) (W : World) : List LK → List Value → Prop
  | [], [] => True
  | k :: ks, v :: vs => Fit1 enc P W k v ∧ Fit enc P W ks vs
  | _, _ => False
theorem Fit.append : ∀ {a b : List LK} {x y : List Value}, Fit enc P W a x → Fit enc P W b y → Fit enc P W (a ++ b) (x ++ y)
  | [], _, [], _, _, h => h
  | _ :: _, _, _ :: _, _, ⟨h1, h2⟩, h => ⟨h1, Fit.append h2 h⟩
  | [], _, _ :: _, _, h, _ => h.elim
  | _ :: _, _, [], _, h, _ => h.elim

theorem Fit.cons {k : LK} {ks : List LK} {cs : List Value} (h : Fit enc P W (k :: ks) cs) : ∃ v vs, cs = v :: vs ∧ Fit1 enc P W k v ∧ Fit enc P W ks vs := by
  cases cs with
  | nil => exact h.elim
  | cons v vs => exact ⟨v, vs, rfl, h.1, h.2⟩
theorem Fit.nil {cs : List Value} (h : Fit enc P W [] cs) : cs = [] := by
  cases cs with
  | nil => rfl
  | cons v vs => exact h.elim
theorem Fit1.int {k : IntKind} {v : Value} (h : Fit1 enc P W (.int k) v) : ∃ a, v = .int k a ∧ (Lit.int k a).wf = true := h
theorem Fit1.bool {v : Value} (h : Fit1 enc P W .bool v) : ∃ b, v = .bool b := h
theorem Fit1.str {v : Value} (h : Fit1 enc P W .str v) : ∃ l, v = .string (J.str l) ∧ l.length ≤ maxLen := h

def leavesF (P : Program) (rec : TypeId → Option (List LK)) (total : Nat) : Nat → List Field → Option (List LK)
  | off, [] => match Nat.beq off total with
    | true => some []
    | false => none
  | off, f :: fs => match Nat.beq f.offset off with
    | true => match rec f.type with
      | some a => match leavesF P rec total (off + P.cellsOf f.type) fs with
        | some b => some (a ++ b)
        | none => none
      | none => none
    | false => none
def leavesB (P : Program) : Nat → TypeId → Option (List LK)
  | 0, _ => none
  | d + 1, t => match P.underlying t with
    | some (.int k) => some [.int k]
    | some .bool => some [.bool]
    | some .string => some [.str]
    | some (.slice _) => some [.sl t]
    | some (.struct fs) => leavesF P (leavesB P d) (P.cellsOf t) 0 fs.toList
    | some (.array n e) => match leavesB P d e with
      | some a => match Nat.beq (P.cellsOf t) (n * P.cellsOf e) with
        | true => some (List.replicate n a).flatten
        | false => none
      | none => none
    | _ => none

theorem trod_bool' {t : TypeId} {n : Nat} {cs : List Value} {x : DataW H × List MemPlace} (ht : P.underlying t = some .bool) (h : DataW.trod enc P W 0 (fun _ => true) true n t cs = some x) : ∃ b, cs = [.bool b] := by
  cases n with
  | zero => simp [DataW.trod] at h
  | succ n =>
    unfold DataW.trod at h
    rw [ht] at h
    split at h <;> simp_all

theorem trod_fit : ∀ (d n : Nat) (t : TypeId) (cs : List Value) (x : DataW H × List MemPlace) (ks : List LK), leavesB P d t = some ks → DataW.trod enc P W 0 (fun _ => true) true n t cs = some x → Fit enc P W ks cs
  | 0, _, _, _, _, _, h, _ => by cases h
  | d + 1, n, t, cs, x, ks, h, hx => by
    have ih := trod_fit d
    unfold leavesB at h
    cases hu : P.underlying t with
    | none => rw [hu] at h; cases h
    | some u =>
      rw [hu] at h
      cases u <;> simp only at h <;> try (cases h; done)
      case int k =>
        cases h
        obtain ⟨a, rfl, _, h3⟩ := DataW.trod_int hu hx
        exact ⟨⟨a, rfl, h3⟩, trivial⟩
      case bool =>
        cases h
        obtain ⟨b, rfl⟩ := trod_bool' hu hx
        exact ⟨⟨b, rfl⟩, trivial⟩
      case string =>
        cases h
        obtain ⟨s, rfl, _, h3⟩ := DataW.trod_string hu hx
        obtain ⟨l, rfl⟩ := str_of s
        exact ⟨⟨l, rfl, by rw [str_size] at h3; exact h3⟩, trivial⟩
      case slice e =>
        cases h
        have : ∃ v, cs = [v] := by
          rcases DataW.trod_slice hu hx with ⟨rfl, _⟩ | ⟨a, len, cap, _, _, _, _, rfl, _⟩
          · exact ⟨_, rfl⟩
          · exact ⟨_, rfl⟩
        obtain ⟨v, rfl⟩ := this
        exact ⟨⟨n, x, hx⟩, trivial⟩
      case array k e =>
        cases h1 : leavesB P d e with
        | none => rw [h1] at h; cases h
        | some a =>
          rw [h1] at h
          simp only at h
          cases hb : Nat.beq (P.cellsOf t) (k * P.cellsOf e) with
          | false => rw [hb] at h; cases h
          | true =>
            rw [hb] at h
            cases h
            have hl0 := Nat.eq_of_beq_eq_true hb
            obtain ⟨xs, m, _, _, hlen, hxl, hf⟩ := DataW.trod_array hu hx
            have key : ∀ i, i ≤ k → Fit enc P W ((List.replicate i a).flatten) (cs.drop ((k - i) * P.cellsOf e)) := by
              intro i
              induction i with
              | zero =>
                intro _
                rw [List.drop_eq_nil_of_le (by rw [hlen, hl0, Nat.sub_zero]; exact Nat.le_refl _)]
                trivial
              | succ i ih2 =>
                intro hi
                have e1 := hf (k - (i + 1)) (by omega)
                have hj : k - (i + 1) < xs.length := by omega
                rw [List.getElem?_eq_getElem hj] at e1
                have g1 := ih m e _ _ a h1 e1
                have g2 := ih2 (by omega)
                have e2 : (k - (i + 1)) * P.cellsOf e + P.cellsOf e = (k - i) * P.cellsOf e := by rw [← Nat.succ_mul]; congr 1; omega
                rw [List.replicate_succ, List.flatten_cons, show cs.drop ((k - (i + 1)) * P.cellsOf e) = (cs.drop ((k - (i + 1)) * P.cellsOf e)).take (P.cellsOf e) ++ cs.drop ((k - i) * P.cellsOf e) by
                  rw [← e2, ← List.drop_drop, List.take_append_drop]]
                exact Fit.append g1 g2
            have := key k (Nat.le_refl _)
            simpa using this
      case struct fs =>
        obtain ⟨xs, n', _, _, hlen, hxs, hf⟩ := DataW.trod_struct hu hx
        have hf' : ∀ f ∈ fs.toList, ∃ y, DataW.trod enc P W 0 (fun _ => true) true n' f.type ((cs.drop f.offset).take (P.cellsOf f.type)) = some y := fun f hm => by
          obtain ⟨i, hi, he⟩ := List.mem_iff_getElem.1 hm
          have hi' : i < fs.size := by simpa using hi
          have h1 : fs[i]? = some f := by
            rw [Array.getElem?_eq_getElem hi']
            congr 1
          exact ⟨xs[i], by rw [hf i f h1, List.getElem?_eq_getElem]⟩
        have key : ∀ (l : List Field) (off : Nat) (ks : List LK), (∀ f ∈ l, ∃ y, DataW.trod enc P W 0 (fun _ => true) true n' f.type ((cs.drop f.offset).take (P.cellsOf f.type)) = some y) →
            leavesF P (leavesB P d) (P.cellsOf t) off l = some ks → Fit enc P W ks (cs.drop off) := by
          intro l
          induction l with
          | nil =>
            intro off ks _ h
            unfold leavesF at h
            cases hb : Nat.beq off (P.cellsOf t) with
            | false => rw [hb] at h; cases h
            | true =>
              rw [hb] at h
              cases h
              have := Nat.eq_of_beq_eq_true hb
              rw [List.drop_eq_nil_of_le (by omega)]
              trivial
          | cons f l ihl =>
            intro off ks hl h
            unfold leavesF at h
            cases hb : Nat.beq f.offset off with
            | false => rw [hb] at h; cases h
            | true =>
              rw [hb] at h
              simp only at h
              have hoff := Nat.eq_of_beq_eq_true hb
              cases h1 : leavesB P d f.type with
              | none => rw [h1] at h; cases h
              | some a =>
                rw [h1] at h
                simp only at h
                cases h2 : leavesF P (leavesB P d) (P.cellsOf t) (off + P.cellsOf f.type) l with
                | none => rw [h2] at h; cases h
                | some b =>
                  rw [h2] at h
                  cases h
                  obtain ⟨y, hy⟩ := hl f (List.mem_cons_self ..)
                  rw [hoff] at hy
                  have g1 := ih n' f.type _ y a h1 hy
                  have g2 := ihl (off + P.cellsOf f.type) b (fun g hg => hl g (List.mem_cons_of_mem _ hg)) h2
                  rw [show cs.drop off = (cs.drop off).take (P.cellsOf f.type) ++ cs.drop (off + P.cellsOf f.type) by
                    rw [← List.drop_drop, List.take_append_drop]]
                  exact Fit.append g1 g2
        have := key fs.toList 0 ks hf' h
        simpa using this

/-- an element of a slice, by its leaves -/
theorem dec_flat {α : Type} {f : α → List Value} {φ : α → Prop} {e : TypeId} (ks : List LK) (hk : leavesB P 6 e = some ks) (h : ∀ cs, Fit enc P W ks cs → ∃ a, cs = f a ∧ φ a) :
    ∀ n cs' y, cs'.length = P.cellsOf e → DataW.trod enc P W 0 (fun _ => true) true n e cs' = some y → ∃ a, cs' = f a ∧ φ a := fun n cs' y _ hy =>
  h cs' (trod_fit 6 n e cs' y ks hk hy)
theorem dec_flat' {α : Type} {f : α → List Value} {φ : α → Prop} {e : TypeId} {sz : Nat} (ks : List LK) (hk : leavesB P 6 e = some ks) (h : ∀ cs, Fit enc P W ks cs → ∃ a, cs = f a ∧ φ a) :
    ∀ n cs' y, cs'.length = sz → DataW.trod enc P W 0 (fun _ => true) true n e cs' = some y → ∃ a, cs' = f a ∧ φ a := fun n cs' y _ hy =>
  h cs' (trod_fit 6 n e cs' y ks hk hy)
/-- an argument that is a struct -/
theorem open_flat_arg {α : Type} {f : α → List Value} {φ : α → Prop} {t : TypeId} {fs : Array Field} {base : Nat} {v : Value} {d : DataW H} {ps : List MemPlace} (ks : List LK) (ht : P.underlying t = some (.struct fs)) (hk : leavesB P 6 t = some ks)
    (h : ∀ cs, Fit enc P W ks cs → ∃ a, cs = f a ∧ φ a) {r : Reach} (hv : Value.okWide P W r base t v) (hx : DataW.Trod enc P W 0 (fun _ => true) true t v d ps) : ∃ a, v = .agg (f a).toArray ∧ φ a := by
  obtain ⟨cs, rfl, _⟩ := okWide_struct ht hv
  obtain ⟨fuel, hfl⟩ := hx
  obtain ⟨a, h1, h2⟩ := h _ (trod_fit 6 fuel t _ _ ks hk hfl)
  refine ⟨a, ?_, h2⟩
  have : cs.toList = f a := by simpa [Value.cells] using h1
  rw [← this]
/-- a slice that is part of something -/
theorem Fit1.sl {α : Type} [Inhabited α] {f : α → List Value} {sz : Nat} (hf : Fl f sz) (φ : α → Prop) {t e : TypeId} {v : Value} (ht : P.underlying t = some (.slice e)) (hc : P.cellsOf e = sz)
    (hdec : ∀ n cs' y, cs'.length = sz → DataW.trod enc P W 0 (fun _ => true) true n e cs' = some y → ∃ a, cs' = f a ∧ φ a) (h : Fit1 enc P W (.sl t) v) : ∃ p c l, v = .slice p l.length c ∧ Sl (memOf W) f sz p c l ∧ ∀ a ∈ l, φ a := by
  obtain ⟨n, y, hy⟩ := h
  obtain ⟨p, c, l, h1, h2⟩ := open_sl hf φ ht hc hdec hy
  exact ⟨p, c, l, by simpa using h1, h2⟩
end
end Go.J
/- A law's arguments that are events. -/
set_option linter.unusedSimpArgs false
set_option linter.unusedVariables false
set_option linter.unusedSectionVars false
set_option maxRecDepth 20000
set_option maxHeartbeats 4000000
namespace Go.Proofs.Ytecifniognbomaa
open Go Go.J
attribute [local irreducible] At AtQ AtM AtM1 PR Ct Pu Rd Res.blk Res.own Res.ex RVs RV
namespace Ev
def In (e : Ev) : Prop := -9223372036854775808 ≤ e.T ∧ e.T ≤ 9223372036854775807 ∧ e.V < 18446744073709551616 ∧ -9223372036854775808 ≤ e.C ∧ e.C ≤ 9223372036854775807
theorem dec_ev {H : Type} {enc : TypeId × Value → H} {P : Program} {W : World} : ∀ cs, Fit enc P W [.int .i64, .int .u64, .int .i64, .bool] cs → ∃ a : Ev, cs = a.cells ∧ In a := by
  intro cs h
  obtain ⟨_, _, rfl, h1, h⟩ := h.cons
  obtain ⟨_, _, rfl, h2, h⟩ := h.cons
  obtain ⟨_, _, rfl, h3, h⟩ := h.cons
  obtain ⟨_, _, rfl, h4, h⟩ := h.cons
  obtain rfl := h.nil
  obtain ⟨a, rfl, wa⟩ := h1.int
  obtain ⟨b, rfl, wb⟩ := h2.int
  obtain ⟨c, rfl, wc⟩ := h3.int
  obtain ⟨t, rfl⟩ := h4.bool
  have hb := bounds_u64 wb
  have ha := bounds_i64 wa
  have hc := bounds_i64 wc
  refine ⟨⟨a, b.toNat, c, t⟩, ?_, ha.1, ha.2, by show b.toNat < _; omega, hc.1, hc.2⟩
  show _ = [_, Value.int .u64 (b.toNat : Int), _, _]
  rw [Int.toNat_of_nonneg (by omega)]
end Ev
end Go.Proofs.Ytecifniognbomaa
/- A law's arguments that are cells. -/
set_option linter.unusedSimpArgs false
set_option linter.unusedVariables false
set_option linter.unusedSectionVars false
set_option maxRecDepth 20000
set_option maxHeartbeats 4000000
namespace Go.Proofs.Ytecifniognbomaa
open Go Go.J
attribute [local irreducible] At AtQ AtM AtM1 PR Ct Pu Rd Res.blk Res.own Res.ex RVs RV
namespace Cell
open Go.RowKit
theorem dec_cell {H : Type} {enc : TypeId × Value → H} {P : Program} {W : World} : ∀ cs, Go.J.Fit enc P W [.int .i64, .int .i64, .int .u64, .int .i64, .bool, .int .i64, .int .u64, .int .i64, .bool, .int .u64, .int .u64, .int .i64, .int .i64, .int .i64] cs → ∃ a : Cell, cs = a.cells ∧ In a := by
  intro cs h
  obtain ⟨_, _, rfl, h0, h⟩ := h.cons
  obtain ⟨_, _, rfl, h1, h⟩ := h.cons
  obtain ⟨_, _, rfl, h2, h⟩ := h.cons
  obtain ⟨_, _, rfl, h3, h⟩ := h.cons
  obtain ⟨_, _, rfl, h4, h⟩ := h.cons
  obtain ⟨_, _, rfl, h5, h⟩ := h.cons
  obtain ⟨_, _, rfl, h6, h⟩ := h.cons
  obtain ⟨_, _, rfl, h7, h⟩ := h.cons
  obtain ⟨_, _, rfl, h8, h⟩ := h.cons
  obtain ⟨_, _, rfl, h9, h⟩ := h.cons
  obtain ⟨_, _, rfl, h10, h⟩ := h.cons
  obtain ⟨_, _, rfl, h11, h⟩ := h.cons
  obtain ⟨_, _, rfl, h12, h⟩ := h.cons
  obtain ⟨_, _, rfl, h13, h⟩ := h.cons
  obtain rfl := h.nil
  obtain ⟨x0, rfl, g0⟩ := h0.int
  obtain ⟨x1, rfl, g1⟩ := h1.int
  obtain ⟨x2, rfl, g2⟩ := h2.int
  obtain ⟨x3, rfl, g3⟩ := h3.int
  obtain ⟨x4, rfl⟩ := h4.bool
  obtain ⟨x5, rfl, g5⟩ := h5.int
  obtain ⟨x6, rfl, g6⟩ := h6.int
  obtain ⟨x7, rfl, g7⟩ := h7.int
  obtain ⟨x8, rfl⟩ := h8.bool
  obtain ⟨x9, rfl, g9⟩ := h9.int
  obtain ⟨x10, rfl, g10⟩ := h10.int
  obtain ⟨x11, rfl, g11⟩ := h11.int
  obtain ⟨x12, rfl, g12⟩ := h12.int
  obtain ⟨x13, rfl, g13⟩ := h13.int
  have b0 := bounds_i64 g0
  have b2 := bounds_u64 g2
  have b6 := bounds_u64 g6
  have b9 := bounds_u64 g9
  have b10 := bounds_u64 g10
  obtain ⟨n2, rfl⟩ : ∃ n : Nat, x2 = n := ⟨x2.toNat, by omega⟩
  obtain ⟨n6, rfl⟩ : ∃ n : Nat, x6 = n := ⟨x6.toNat, by omega⟩
  obtain ⟨n9, rfl⟩ : ∃ n : Nat, x9 = n := ⟨x9.toNat, by omega⟩
  obtain ⟨n10, rfl⟩ : ∃ n : Nat, x10 = n := ⟨x10.toNat, by omega⟩
  obtain ⟨I, hI⟩ : ∃ I : Nat, n9 = I / 18446744073709551616 ∧ n10 = I % 18446744073709551616 := ⟨n9 * 18446744073709551616 + n10, by omega, by omega⟩
  obtain ⟨hI1, hI2⟩ := hI
  refine ⟨⟨x0, ⟨x1, n2, x3, x4⟩, ⟨x5, n6, x7, x8⟩, I, x11, x12, x13⟩, ?_, b0, by show n2 < _; omega, by show n6 < _; omega, by show I < _; omega⟩
  rw [hI1, hI2]
end Cell
end Go.Proofs.Ytecifniognbomaa
/- A law's arguments that are states, labels, events. -/
set_option linter.unusedSimpArgs false
set_option linter.unusedVariables false
set_option linter.unusedSectionVars false
set_option maxRecDepth 20000
set_option maxHeartbeats 4000000
namespace Go.Proofs.Ytecifniognbomaa
open Go Go.J
attribute [local irreducible] At AtQ AtM AtM1 PR Ct Pu Rd Res.blk Res.own Res.ex RVs RV
namespace St
open Go.RowKit
theorem dec_slot {H : Type} {enc : TypeId × Value → H} {P : Program} {W : World} : ∀ cs, Go.J.Fit enc P W [.int .i64, .int .i64, .int .i64, .int .u64, .int .i64, .bool, .int .i64, .int .u64, .int .i64, .bool, .int .u64, .int .u64, .int .i64, .int .i64, .int .i64] cs → ∃ a : Slot, cs = Slot.cells a ∧ Slot.In a := by
  intro cs h
  obtain ⟨_, _, rfl, h0, h⟩ := h.cons
  obtain ⟨c, rfl, hc⟩ := Cell.dec_cell _ h
  obtain ⟨x, rfl, g⟩ := h0.int
  exact ⟨⟨x, c⟩, rfl, bounds_i64 g, hc.1, hc.2.1, hc.2.2.1, hc.2.2.2⟩
theorem dec_lab {H : Type} {enc : TypeId × Value → H} {P : Program} {W : World} : ∀ cs, Go.J.Fit enc P W [.str, .str] cs → ∃ a : Lab, cs = Lb.cells a ∧ True := by
  intro cs h
  obtain ⟨_, _, rfl, h1, h⟩ := h.cons
  obtain ⟨_, _, rfl, h2, h⟩ := h.cons
  obtain rfl := h.nil
  obtain ⟨a, rfl, _⟩ := h1.str
  obtain ⟨t, rfl, _⟩ := h2.str
  exact ⟨⟨a, t⟩, rfl, trivial⟩
theorem dec_ser {H : Type} {enc : TypeId × Value → H} {W : World} : ∀ cs, Go.J.Fit enc Try.prog W [.sl 43, .int .i64, .int .i64, .int .i64, .sl 44, .sl 47, .sl 47, .sl 47, .int .i64, .int .i64, .int .i64, .int .u64, .int .i64, .bool, .int .i64, .int .u64, .int .i64, .bool, .int .u64, .int .u64, .int .i64, .int .i64, .int .i64] cs → ∃ a : Ser, cs = Ser.cells a ∧ Ser.Lay (memOf W) a := by
  intro cs h
  obtain ⟨_, _, rfl, h1, h⟩ := h.cons
  obtain ⟨_, _, rfl, h2, h⟩ := h.cons
  obtain ⟨_, _, rfl, h3, h⟩ := h.cons
  obtain ⟨_, _, rfl, h4, h⟩ := h.cons
  obtain ⟨_, _, rfl, h5, h⟩ := h.cons
  obtain ⟨_, _, rfl, h6, h⟩ := h.cons
  obtain ⟨_, _, rfl, h7, h⟩ := h.cons
  obtain ⟨_, _, rfl, h8, h⟩ := h.cons
  obtain ⟨o, rfl, ho⟩ := dec_slot _ h
  obtain ⟨x2, rfl, g2⟩ := h2.int
  obtain ⟨x3, rfl, g3⟩ := h3.int
  obtain ⟨x4, rfl, g4⟩ := h4.int
  obtain ⟨p1, c1, l1, rfl, s1, _⟩ := Fit1.sl (f := Lb.cells) inferInstance (fun _ => True) Try.underlying43 (by rfl) (dec_flat' [.str, .str] (by kernel_rfl) dec_lab) h1
  obtain ⟨p5, c5, l5, rfl, s5, f5⟩ := Fit1.sl (f := Ev.cells) inferInstance Ev.In Try.underlying44 (by rfl) (dec_flat' [.int .i64, .int .u64, .int .i64, .bool] (by kernel_rfl) Ev.dec_ev) h5
  obtain ⟨p6, c6, l6, rfl, s6, f6⟩ := Fit1.sl (f := Slot.cells) inferInstance Slot.In Try.underlying47 (by rfl) (dec_flat' [.int .i64, .int .i64, .int .i64, .int .u64, .int .i64, .bool, .int .i64, .int .u64, .int .i64, .bool, .int .u64, .int .u64, .int .i64, .int .i64, .int .i64] (by kernel_rfl) dec_slot) h6
  obtain ⟨p7, c7, l7, rfl, s7, f7⟩ := Fit1.sl (f := Slot.cells) inferInstance Slot.In Try.underlying47 (by rfl) (dec_flat' [.int .i64, .int .i64, .int .i64, .int .u64, .int .i64, .bool, .int .i64, .int .u64, .int .i64, .bool, .int .u64, .int .u64, .int .i64, .int .i64, .int .i64] (by kernel_rfl) dec_slot) h7
  obtain ⟨p8, c8, l8, rfl, s8, f8⟩ := Fit1.sl (f := Slot.cells) inferInstance Slot.In Try.underlying47 (by rfl) (dec_flat' [.int .i64, .int .i64, .int .i64, .int .u64, .int .i64, .bool, .int .i64, .int .u64, .int .i64, .bool, .int .u64, .int .u64, .int .i64, .int .i64, .int .i64] (by kernel_rfl) dec_slot) h8
  exact ⟨⟨⟨p1, c1, l1⟩, x2, x3, x4, ⟨p5, c5, l5⟩, ⟨p6, c6, l6⟩, ⟨p7, c7, l7⟩, ⟨p8, c8, l8⟩, o⟩, rfl, s1, s5, s6, s7, s8, f6, f7, f8, ho, fun e he => (f5 e he).2.2.1, bounds_i64 g2⟩
theorem dec_sta {H : Type} {enc : TypeId × Value → H} {W : World} : ∀ cs, Go.J.Fit enc Try.prog W [.int .i64, .int .i64, .int .i64, .int .i64, .int .i64, .int .i64, .int .i64, .int .i64, .int .i64, .int .i64, .int .i64, .sl 26] cs → ∃ a : Sta, cs = Sta.cells a ∧ Sta.Lay (memOf W) a := by
  intro cs h
  obtain ⟨_, _, rfl, h0, h⟩ := h.cons
  obtain ⟨_, _, rfl, h1, h⟩ := h.cons
  obtain ⟨_, _, rfl, h2, h⟩ := h.cons
  obtain ⟨_, _, rfl, h3, h⟩ := h.cons
  obtain ⟨_, _, rfl, h4, h⟩ := h.cons
  obtain ⟨_, _, rfl, h5, h⟩ := h.cons
  obtain ⟨_, _, rfl, h6, h⟩ := h.cons
  obtain ⟨_, _, rfl, h7, h⟩ := h.cons
  obtain ⟨_, _, rfl, h8, h⟩ := h.cons
  obtain ⟨_, _, rfl, h9, h⟩ := h.cons
  obtain ⟨_, _, rfl, h10, h⟩ := h.cons
  obtain ⟨_, _, rfl, h11, h⟩ := h.cons
  obtain rfl := h.nil
  obtain ⟨x0, rfl, g0⟩ := h0.int
  obtain ⟨x1, rfl, g1⟩ := h1.int
  obtain ⟨x2, rfl, g2⟩ := h2.int
  obtain ⟨x3, rfl, g3⟩ := h3.int
  obtain ⟨x4, rfl, g4⟩ := h4.int
  obtain ⟨x5, rfl, g5⟩ := h5.int
  obtain ⟨x6, rfl, g6⟩ := h6.int
  obtain ⟨x7, rfl, g7⟩ := h7.int
  obtain ⟨x8, rfl, g8⟩ := h8.int
  obtain ⟨x9, rfl, g9⟩ := h9.int
  obtain ⟨x10, rfl, g10⟩ := h10.int
  obtain ⟨p, c, l, rfl, s, f⟩ := Fit1.sl (f := Ser.cells) inferInstance (Ser.Lay (memOf W)) Try.underlying26 (by rfl) (dec_flat' [.sl 43, .int .i64, .int .i64, .int .i64, .sl 44, .sl 47, .sl 47, .sl 47, .int .i64, .int .i64, .int .i64, .int .u64, .int .i64, .bool, .int .i64, .int .u64, .int .i64, .bool, .int .u64, .int .u64, .int .i64, .int .i64, .int .i64] (by kernel_rfl) dec_ser) h11
  exact ⟨⟨⟨x0, x1, x2, x3, x4, x5, x6, x7, x8⟩, x9, x10, ⟨p, c, l⟩⟩, rfl, s, f, bounds_i64 g9, bounds_i64 g10⟩
end St
end Go.Proofs.Ytecifniognbomaa
/- What the laws of ranges ask first. -/
set_option linter.unusedSimpArgs false
set_option linter.unusedVariables false
set_option linter.unusedSectionVars false
set_option maxRecDepth 20000
set_option maxHeartbeats 4000000
namespace Go.Proofs.Ytecifniognbomaa
open Go Go.J
attribute [local irreducible] At AtQ AtM AtM1 PR Ct Pu Rd Res.blk Res.own Res.ex RVs RV
namespace Au
open Se Win St
theorem Rd.cast {P : Program} {f : FuncId} {a a' : Array Value} {m : Mem} {A : List Res} {V V' : Value} (h : Rd P f a m A V) (ha : a = a') (hV : V = V') : Rd P f a' m A V' := ha ▸ hV ▸ h
abbrev fitK : Cfg := ⟨20, 10, 20, 60, 4, 5, 6, 3, 9⟩
abbrev u75 (p : Option Addr) (c : Nat) : Sta := ⟨fitK, 75, -1, ⟨p, c, [Ser.z, Ser.z, Ser.z]⟩⟩
theorem fit_ok : fitK.ok := Conf.fit_ok
theorem u75_ok {m : Mem} {p : Option Addr} {c : Nat} (sl : Sl m Ser.cells 23 p c [Ser.z, Ser.z, Ser.z]) : (u75 p c).Ok m where
  sl := sl
  pk := fun x hx => by
    have : x = Ser.z := by simpa using hx
    rw [this]; exact zok m
  np := by show 3 ≤ 1000000; decide
  bn := ⟨(by decide : (-9223372036854775808 : Int) ≤ 75), (by decide : (75 : Int) ≤ 9223372036854775807)⟩
  bs := ⟨(by decide : (-9223372036854775808 : Int) ≤ -1), (by decide : (-1 : Int) ≤ 9223372036854775807)⟩
theorem i1 (p : Option Addr) (c : Nat) : inn (u75 p c) 1 25 75 = (40, 70, 0) := by kernel_rfl
theorem i4 (p : Option Addr) (c : Nat) : inn (u75 p c) 4 5 41 = (0, 0, 1) := by kernel_rfl
theorem o2 (p : Option Addr) (c : Nat) : out (u75 p c) 2 25 75 = (20, 80, 0) := by kernel_rfl
theorem o1 (p : Option Addr) (c : Nat) : out (u75 p c) 1 25 75 = (0, 0, 11) := by kernel_rfl
theorem f41 (p : Option Addr) (c : Nat) : fin (u75 p c) 5 41 = (2, 20, 40, 0) := by kernel_rfl
theorem f19 (p : Option Addr) (c : Nat) : fin (u75 p c) 5 19 = (0, 0, 0, 3) := by kernel_rfl
theorem auto_lives {m : Mem} : Rd Try.prog 4 #[] m [] (.bool true) := by
  unfold Rd
  refine Ct.forget (R := fun v m' B => v = .bool true ∧ B = []) ?_ (fun v m' B hm hr => ⟨hr.1, rfl, hr.2⟩)
  have k0 := Conf.fit
  have k1 := fun (m' : Mem) => new (m := m') fitK 3 fit_ok rfl (by decide)
  refine Ct.enterV (by rfl) Try.func4 rfl Try.ntmps4 rfl (fun w0 Rest => ?_)
  (repeat' (first | refine zss ?_ | refine zs0 ?_ | ((with_reducible first | apply AtM1.callp | apply AtQ.callp | apply At.callp); kernel_rfl; exact rfl; exact rfl; exact k0) | ((with_reducible first | apply At.c1 | apply At.c0); exact rfl; exact rfl; exact k1 _; exact ztk; kernel_rfl; rintro v' m' B' hm' ⟨rfl, p', c', rfl, sl1⟩; (try replace sl1 := sl1.mono hm'); (try (have hq0 : hm' = Mem.le_refl _ := rfl; clear hq0 hm'))) | ((with_reducible apply At.alloc (d := 1)); exact rfl; exact rfl; intro b1) | (refine zsp ?_ ?_ <;> (intro hc; (try simp only [zhcs, reduceCtorEq] at hc); (try (exfalso; first | (first | omega | exact absurd rfl hc) | contradiction | omega | exact absurd rfl hc | exact absurd (by decide) hc))))))
  replace sl1 : Sl _ Ser.cells 23 p' c' [Ser.z, Ser.z, Ser.z] := sl1
  have a1 := fun (m2 : Mem) h => Rd.cast (inner (m := m2) (u75 p' c') 1 25 75 (u75_ok (sl1.mono h))) rfl (by rw [i1])
  have a2 := fun (m2 : Mem) h => Rd.cast (outer (m := m2) (u75 p' c') 2 25 75 (u75_ok (sl1.mono h))) rfl (by rw [o2])
  have a3 := fun (m2 : Mem) h => Rd.cast (outer (m := m2) (u75 p' c') 1 25 75 (u75_ok (sl1.mono h))) rfl (by rw [o1])
  have a4 := fun (m2 : Mem) h => Rd.cast (finest (m := m2) (u75 p' c') 5 41 (u75_ok (sl1.mono h))) rfl (by rw [f41])
  have a5 := fun (m2 : Mem) h => Rd.cast (finest (m := m2) (u75 p' c') 5 19 (u75_ok (sl1.mono h))) rfl (by rw [f19])
  have a6 := fun (m2 : Mem) h => Rd.cast (inner (m := m2) (u75 p' c') 4 5 41 (u75_ok (sl1.mono h))) rfl (by rw [i4])
  clear k0 k1
  (repeat' (first | refine zss ?_ | refine zs0 ?_ | ((with_reducible first | apply AtM1.cr | apply AtQ.cr | apply At.cr); exact rfl; exact rfl; exact fun _ hmm => a1 _ zml; exact ztk; kernel_rfl) | ((with_reducible first | apply AtM1.cr | apply AtQ.cr | apply At.cr); exact rfl; exact rfl; exact fun _ hmm => a2 _ zml; exact ztk; kernel_rfl) | ((with_reducible first | apply AtM1.cr | apply AtQ.cr | apply At.cr); exact rfl; exact rfl; exact fun _ hmm => a3 _ zml; exact ztk; kernel_rfl) | ((with_reducible first | apply AtM1.cr | apply AtQ.cr | apply At.cr); exact rfl; exact rfl; exact fun _ hmm => a4 _ zml; exact ztk; kernel_rfl) | ((with_reducible first | apply AtM1.cr | apply AtQ.cr | apply At.cr); exact rfl; exact rfl; exact fun _ hmm => a5 _ zml; exact ztk; kernel_rfl) | ((with_reducible first | apply AtM1.cr | apply AtQ.cr | apply At.cr); exact rfl; exact rfl; exact fun _ hmm => a6 _ zml; exact ztk; kernel_rfl) | ((with_reducible apply At.alloc (d := 1)); exact rfl; exact rfl; intro b1) | (refine zsp ?_ ?_ <;> (intro hc; (try simp only [zhcs, reduceCtorEq] at hc); (try (exfalso; first | (first | omega | exact absurd rfl hc) | contradiction | omega | exact absurd rfl hc | exact absurd (by decide) hc))))))
  all_goals ((with_reducible apply At.retB1 (B := [])); exact rfl; exact rfl; exact zml; exact zkp; exact ⟨rfl, rfl⟩)
end Au
end Go.Proofs.Ytecifniognbomaa

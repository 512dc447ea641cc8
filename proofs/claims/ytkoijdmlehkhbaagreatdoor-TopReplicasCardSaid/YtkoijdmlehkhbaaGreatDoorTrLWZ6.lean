/- Part 6 of what the law's proof needs: rules of the walk, contracts of functions, plain laws. No condition. -/
import Derived.Test.YtkoijdmlehkhbaaGreatDoorTrLWZ5
import Derived.Test.YtkoijdmlehkhbaaGreatDoorRows
import Derived.Lib.FrozenHead
set_option linter.unusedSimpArgs false
set_option linter.unusedVariables false
set_option linter.unusedSectionVars false
set_option maxRecDepth 20000
set_option maxHeartbeats 4000000
namespace Go.Proofs.YtkoijdmlehkhbaaGreatDoor
open Go Go.J
attribute [local irreducible] At AtQ AtM AtM1 PR Ct Pu Rd Res.blk Res.own Res.ex RVs RV
namespace Conf
abbrev kv (r a b d x y w c g : Int) : Value := .agg #[gi r, gi a, gi b, gi d, gi x, gi y, gi w, gi c, gi g]
/-- what a right one is -/
structure Ok (r a b d x y w c g : Int) : Prop where
  hr : 1 ≤ r ∧ r ≤ 4096
  ha : 1 ≤ a ∧ a ≤ 1099511627776
  hb : 1 ≤ b ∧ b ≤ 1099511627776
  hd : 1 ≤ d ∧ d ≤ 1099511627776
  hx : 1 ≤ x ∧ x ≤ 4096
  hy : 1 ≤ y ∧ y ≤ 4096
  hw : 1 ≤ w ∧ w ≤ 4096
  hc : 1 ≤ c ∧ c ≤ 65536
  hg : 1 ≤ g ∧ g ≤ 8192
  hba : b % a = 0 ∧ b / a ≤ x
  hdb : d % b = 0 ∧ d / b ≤ y
  hp : 1 + (r + 16 - 1) / 16 + (x + 4 - 1) / 4 + (y + 4 - 1) / 4 + (w + 4 - 1) / 4 < g
theorem okC_iff (r a b d x y w c g : Int) : okC [r, a, b, d, x, y, w, c, g] ↔ Ok r a b d x y w c g := by
  constructor
  · rintro ⟨⟨⟨h1, h2, h3, h4⟩, h5, h6⟩, h7⟩
    obtain ⟨a1, x1⟩ := h4 0 (by decide)
    obtain ⟨b1, y1⟩ := h4 1 (by decide)
    obtain ⟨d1, w1⟩ := h4 2 (by decide)
    exact ⟨h1, a1, b1, d1, x1, y1, w1, h2, h3, h5 (by decide), h6 (by decide), h7⟩
  · intro h
    refine ⟨⟨⟨h.hr, h.hc, h.hg, fun i hi => ?_⟩, fun _ => h.hba, fun _ => h.hdb⟩, h.hp⟩
    rcases (show i = 0 ∨ i = 1 ∨ i = 2 by omega) with rfl | rfl | rfl
    · exact ⟨h.ha, h.hx⟩
    · exact ⟨h.hb, h.hy⟩
    · exact ⟨h.hd, h.hw⟩
instance (r a b d x y w c g : Int) : Decidable (Ok r a b d x y w c g) := decidable_of_iff _ (okC_iff r a b d x y w c g)
section
variable {r a b d x y w c g : Int}
abbrev pl (r x y w : Int) : Int := 1 + (r + 16 - 1) / 16 + (x + 4 - 1) / 4 + (y + 4 - 1) / 4 + (w + 4 - 1) / 4
theorem checkK (h : Ok r a b d x y w c g) : Pu Tryz.prog 58 #[kv r a b d x y w c g] (.int .i64 0) := by
  have := check [r, a, b, d, x, y, w, c, g] rfl
  rw [show chk [r, a, b, d, x, y, w, c, g] = 0 from if_pos ((okC_iff ..).2 h)] at this
  exact this
theorem checkN (h : ¬ Ok r a b d x y w c g) : Pu Tryz.prog 58 #[kv r a b d x y w c g] (.int .i64 2) := by
  have := check [r, a, b, d, x, y, w, c, g] rfl
  rw [show chk [r, a, b, d, x, y, w, c, g] = 2 from if_neg (fun hh => h ((okC_iff ..).1 hh))] at this
  exact this
theorem placeK (h : Ok r a b d x y w c g) : Pu Tryz.prog 113 #[kv r a b d x y w c g] (.int .i64 (pl r x y w)) :=
  place [r, a, b, d, x, y, w, c, g] rfl ((okC_iff ..).2 h).1.1
theorem placeF (h : Ok r a b d x y w c g) : Pu Tryz.prog 150 #[kv r a b d x y w c g] (.int .i64 (pl r x y w)) := Pu.intro fun m => by
  have k1 := checkK h
  have k2 := placeK h
  generalize pl r x y w = q at k2
  refine Ct.enterV (by rfl) Tryz.func150 rfl Tryz.ntmps150 rfl (fun w0 Rest => ?_)
  (repeat' (first | refine zss ?_ | refine zs0 ?_ | ((with_reducible first | apply AtM1.callp | apply AtQ.callp | apply At.callp); kernel_rfl; exact rfl; exact rfl; exact k1) | ((with_reducible first | apply AtM1.callp | apply AtQ.callp | apply At.callp); kernel_rfl; exact rfl; exact rfl; exact k2) | ((with_reducible apply At.box (d := 1)); exact rfl; exact rfl; exact rfl; intro b1) | (refine zsp ?_ ?_ <;> (intro hc; (try simp only [zhcs, reduceCtorEq] at hc); (try (exfalso; first | omega | contradiction | omega | exact absurd rfl hc | exact absurd (by decide) hc))))))
  all_goals ((with_reducible apply At.retB1 (B := [])); exact rfl; exact rfl; exact zml; exact zkp; exact ⟨rfl, rfl, rfl⟩)
abbrev ixv (g : Int) : Int := (g + 120 - 1) / 120
theorem indexF (h : Ok r a b d x y w c g) : Pu Tryz.prog 194 #[kv r a b d x y w c g] (.int .i64 (ixv g)) := Pu.intro fun m => by
  have k1 := checkK h
  have k2 := parts g 120 h.hg.1 (by have := h.hg; omega) (by decide) (by decide)
  refine Ct.enterV (by rfl) Tryz.func194 rfl Tryz.ntmps194 rfl (fun w0 Rest => ?_)
  (repeat' (first | refine zss ?_ | refine zs0 ?_ | ((with_reducible first | apply AtM1.callp | apply AtQ.callp | apply At.callp); kernel_rfl; exact rfl; exact rfl; exact k1) | ((with_reducible first | apply AtM1.callp | apply AtQ.callp | apply At.callp); kernel_rfl; exact rfl; exact rfl; exact k2) | ((with_reducible apply At.box (d := 1)); exact rfl; exact rfl; exact rfl; intro b1) | (refine zsp ?_ ?_ <;> (intro hc; (try simp only [zhcs, reduceCtorEq] at hc); (try (exfalso; first | omega | contradiction | omega | exact absurd rfl hc | exact absurd (by decide) hc))))))
  all_goals ((with_reducible apply At.retB1 (B := [])); exact rfl; exact rfl; exact zml; exact zkp; exact ⟨rfl, rfl, rfl⟩)
abbrev hmv (g : Int) : Int := 1 + ixv g + g
theorem homeF (h : Ok r a b d x y w c g) : Pu Tryz.prog 149 #[kv r a b d x y w c g] (.int .i64 (hmv g)) := Pu.intro fun m => by
  have k1 := checkK h
  have k2 := indexF h
  have hg := h.hg
  have hq : 0 ≤ ixv g ∧ ixv g ≤ 100 := by show 0 ≤ (g + 120 - 1) / 120 ∧ (g + 120 - 1) / 120 ≤ 100; omega
  generalize hi : ixv g = q at k2 hq
  refine Ct.enterV (by rfl) Tryz.func149 rfl Tryz.ntmps149 rfl (fun w0 Rest => ?_)
  (repeat' (first | refine zss ?_ | refine zs0 ?_ | ((with_reducible first | apply AtM1.callp | apply AtQ.callp | apply At.callp); kernel_rfl; exact rfl; exact rfl; exact k1) | ((with_reducible first | apply AtM1.callp | apply AtQ.callp | apply At.callp); kernel_rfl; exact rfl; exact rfl; exact k2) | ((with_reducible apply At.box (d := 1)); exact rfl; exact rfl; exact rfl; intro b1) | (refine zsp ?_ ?_ <;> (intro hc; (try simp only [zhcs, reduceCtorEq] at hc); (try (exfalso; first | omega | contradiction | omega | exact absurd rfl hc | exact absurd (by decide) hc))))))
  all_goals ((with_reducible apply At.retB1 (B := [])); exact rfl; exact rfl; exact zml; exact zkp; exact ⟨by rw [← hi], rfl, rfl⟩)
def szv (r x y w c g : Int) : Int := hmv g + 1 + c * pl r x y w
theorem sizeF (h : Ok r a b d x y w c g) : Pu Tryz.prog 101 #[kv r a b d x y w c g] (if 16777216 < szv r x y w c g then .tuple #[.int .i64 0, .int .i64 1] else .tuple #[.int .i64 (szv r x y w c g), .int .i64 0]) := Pu.intro fun m => by
  have k1 := checkK h
  have k2 := homeF h
  have k3 := placeF h
  have hg := h.hg
  have hc1 := h.hc
  have hr := h.hr
  have hx := h.hx
  have hy := h.hy
  have hw := h.hw
  have hp := h.hp
  have hq : 0 ≤ hmv g ∧ hmv g ≤ 9000 := by show 0 ≤ 1 + (g + 120 - 1) / 120 + g ∧ 1 + (g + 120 - 1) / 120 + g ≤ 9000; omega
  have hP : 0 ≤ pl r x y w ∧ pl r x y w ≤ 8192 := by
    refine ⟨?_, by have : pl r x y w < g := hp; omega⟩
    show 0 ≤ 1 + (r + 16 - 1) / 16 + (x + 4 - 1) / 4 + (y + 4 - 1) / 4 + (w + 4 - 1) / 4
    omega
  have hs : szv r x y w c g = hmv g + 1 + c * pl r x y w := rfl
  clear hp
  generalize hmv g = H at k2 hq hs
  generalize pl r x y w = P at k3 hP hs
  have hm : 0 ≤ c * P ∧ c * P ≤ 65536 * 8192 := ⟨Int.mul_nonneg (by omega) hP.1, Int.mul_le_mul hc1.2 hP.2 hP.1 (by decide)⟩
  obtain ⟨M, eM⟩ : ∃ M, c * P = M := ⟨_, rfl⟩
  rw [hs, eM]
  rw [eM] at hm
  have hmul : IntKind.wrap .i64 (c * P) = M := by rw [eM]; exact IntWalk.i64_in _ (by omega)
  by_cases hb : 16777216 < H + 1 + M
  · rw [if_pos hb]
    refine Ct.enterV (by rfl) Tryz.func101 rfl Tryz.ntmps101 rfl (fun w0 Rest => ?_)
    (repeat' (first | refine zss ?_ | ((first | (with_reducible first | apply At.val | apply AtQ.val)); (exact pr_mul (by rfl) (by rfl) hmul); exact rfl) | refine zs0 ?_ | ((with_reducible first | apply AtM1.callp | apply AtQ.callp | apply At.callp); kernel_rfl; exact rfl; exact rfl; exact k1) | ((with_reducible first | apply AtM1.callp | apply AtQ.callp | apply At.callp); kernel_rfl; exact rfl; exact rfl; exact k2) | ((with_reducible first | apply AtM1.callp | apply AtQ.callp | apply At.callp); kernel_rfl; exact rfl; exact rfl; exact k3) | ((with_reducible apply At.box (d := 1)); exact rfl; exact rfl; exact rfl; intro b1) | (refine zsp ?_ ?_ <;> (intro hc; (try simp only [zhcs, reduceCtorEq] at hc); (try (exfalso; first | omega | contradiction | omega | exact absurd rfl hc | exact absurd (by decide) hc))))))
    all_goals ((with_reducible apply At.retV (B := [])); exact rfl; (repeat' (first | exact RVs.nil | (with_reducible apply RVs.cons) | exact rv_tmp (by rfl) | exact rv_cellN (by rfl) (by repeat constructor) (by rfl) (by rfl) (by rfl) | exact rv_cell1 (by rfl) (by repeat constructor) (by rfl) (by rfl))); exact zml; exact zkp; exact ⟨rfl, rfl, rfl⟩)
  · rw [if_neg hb]
    refine Ct.enterV (by rfl) Tryz.func101 rfl Tryz.ntmps101 rfl (fun w0 Rest => ?_)
    (repeat' (first | refine zss ?_ | ((first | (with_reducible first | apply At.val | apply AtQ.val)); (exact pr_mul (by rfl) (by rfl) hmul); exact rfl) | refine zs0 ?_ | ((with_reducible first | apply AtM1.callp | apply AtQ.callp | apply At.callp); kernel_rfl; exact rfl; exact rfl; exact k1) | ((with_reducible first | apply AtM1.callp | apply AtQ.callp | apply At.callp); kernel_rfl; exact rfl; exact rfl; exact k2) | ((with_reducible first | apply AtM1.callp | apply AtQ.callp | apply At.callp); kernel_rfl; exact rfl; exact rfl; exact k3) | ((with_reducible apply At.box (d := 1)); exact rfl; exact rfl; exact rfl; intro b1) | (refine zsp ?_ ?_ <;> (intro hc; (try simp only [zhcs, reduceCtorEq] at hc); (try (exfalso; first | omega | contradiction | omega | exact absurd rfl hc | exact absurd (by decide) hc))))))
    all_goals ((with_reducible apply At.retV (B := [])); exact rfl; (repeat' (first | exact RVs.nil | (with_reducible apply RVs.cons) | exact rv_tmp (by rfl) | exact rv_cellN (by rfl) (by repeat constructor) (by rfl) (by rfl) (by rfl) | exact rv_cell1 (by rfl) (by repeat constructor) (by rfl) (by rfl))); exact zml; exact zkp; exact ⟨rfl, rfl, rfl⟩)
end
end Conf
end Go.Proofs.YtkoijdmlehkhbaaGreatDoor
namespace Go.Proofs.YtkoijdmlehkhbaaGreatDoor
open Go Go.J
attribute [local irreducible] At AtQ AtM AtM1 PR Ct Pu Rd Res.blk Res.own Res.ex RVs RV
/-- a slice: where it lies, and what it has -/
structure Lst (α : Type) where
  (p : Option Addr) (c : Nat) (l : List α)
abbrev Lst.v {α : Type} (x : Lst α) : Value := .slice x.p x.l.length x.c
abbrev Lst.nil {α : Type} : Lst α := ⟨none, 0, []⟩
/-- a configuration -/
structure Cfg where
  (r a b d x y w c g : Int)
namespace Cfg
abbrev cells (k : Cfg) : List Value := [.int .i64 k.r, .int .i64 k.a, .int .i64 k.b, .int .i64 k.d, .int .i64 k.x, .int .i64 k.y, .int .i64 k.w, .int .i64 k.c, .int .i64 k.g]
abbrev v (k : Cfg) : Value := .agg (cells k).toArray
def ok (k : Cfg) : Prop := Conf.Ok k.r k.a k.b k.d k.x k.y k.w k.c k.g
instance (k : Cfg) : Decidable k.ok := by unfold ok; infer_instance
def chk (k : Cfg) : Int := if k.ok then 0 else 2
theorem check (k : Cfg) : Pu Tryz.prog 58 #[k.v] (.int .i64 k.chk) := by
  unfold chk
  by_cases h : k.ok
  · rw [if_pos h]; exact Conf.checkK h
  · rw [if_neg h]; exact Conf.checkN h
end Cfg
namespace Se
open Win
abbrev pt (b : Nat) : Value := .pointer (some ⟨b, 0, none⟩)
abbrev t3v (a b c : Lst Slot) : Value := .agg #[a.v, b.v, c.v]
/-- a tier of so many windows, of such a width -/
def tk (l : List Slot) (n w : Int) : Prop := (l.length : Int) = n ∧ Ti.okT l w
instance (l : List Slot) (n w : Int) : Decidable (tk l n w) := by unfold tk; infer_instance
def fok (k : Cfg) (a b c : List Slot) : Prop := k.ok ∧ tk a k.x k.a ∧ tk b k.y k.b ∧ tk c k.w k.d
instance (k : Cfg) (a b c : List Slot) : Decidable (fok k a b c) := by unfold fok; infer_instance
theorem tchk {l : List Slot} {w : Int} (h : Ti.okT l w) : Ti.chk l w = 0 := if_pos h
theorem tchkN {l : List Slot} {w : Int} (h : ¬ Ti.okT l w) : Ti.chk l w = 2 := if_neg h
set_option maxRecDepth 100000 in
theorem openF {m : Mem} (k : Cfg) (a b c : Lst Slot) (ha : a.l.length ≤ 1000000) (hb : b.l.length ≤ 1000000) (hc0 : c.l.length ≤ 1000000) (ia : ∀ s ∈ a.l, Slot.In s) (ib : ∀ s ∈ b.l, Slot.In s) (ic : ∀ s ∈ c.l, Slot.In s)
    (sl0 : Sl m Slot.cells 15 a.p a.c a.l) (sl1 : Sl m Slot.cells 15 b.p b.c b.l) (sl2 : Sl m Slot.cells 15 c.p c.c c.l) :
    Ct Tryz.prog 160 #[k.v, t3v a b c] m [] (fun v m' B => m = m' ∧ ((fok k a.l b.l c.l ∧ ∃ q, v = .tuple #[pt q, .int .i64 0] ∧ B = [.blk q 248 (k.cells ++ [a.v, b.v, c.v])]) ∨ (¬ fok k a.l b.l c.l ∧ v = .tuple #[.pointer none, .int .i64 2] ∧ B = []))) := by
  have k0 := Cfg.check k
  unfold Cfg.chk at k0
  by_cases h0 : k.ok
  rotate_left
  · rw [if_neg h0] at k0
    refine Ct.enterV (by rfl) Tryz.func160 rfl Tryz.ntmps160 rfl (fun w0 Rest => ?_)
    (repeat' (first | refine zss ?_ | refine zsM ?_ | ((with_reducible first | apply AtM1.callp | apply AtQ.callp | apply At.callp); kernel_rfl; exact rfl; exact rfl; exact k0) | ((with_reducible apply At.box (d := 2)); exact rfl; exact rfl; exact rfl; intro b2) | ((with_reducible apply At.box (d := 3)); exact rfl; exact rfl; exact rfl; intro b3) | ((with_reducible apply At.box (d := 39)); exact rfl; exact rfl; exact rfl; intro b39) | (refine zsp ?_ ?_ <;> (intro hc; (try simp only [zhcs, reduceCtorEq] at hc); (try (exfalso; first | omega | contradiction | omega | exact absurd rfl hc | exact absurd (by decide) hc))))))
    all_goals ((with_reducible apply At.retV (B := [])); exact rfl; (repeat' (first | exact RVs.nil | (with_reducible apply RVs.cons) | exact rv_tmp (by rfl) | exact rv_cellN (by rfl) (by repeat constructor) (by rfl) (by rfl) (by rfl) | exact rv_cell1 (by rfl) (by repeat constructor) (by rfl) (by rfl))); exact zml; exact zkp; exact ⟨rfl, .inr ⟨fun h => h0 h.1, rfl, rfl⟩⟩)
  rw [if_pos h0] at k0
  have k1 := fun (m' : Mem) (h : m.le m') => Ti.check a.p a.c a.l k.a ia (sl0.mono h)
  have k2 := fun (m' : Mem) (h : m.le m') => Ti.check b.p b.c b.l k.b ib (sl1.mono h)
  have k3 := fun (m' : Mem) (h : m.le m') => Ti.check c.p c.c c.l k.d ic (sl2.mono h)
  refine Ct.enterV (by rfl) Tryz.func160 rfl Tryz.ntmps160 rfl (fun w0 Rest => ?_)
  (repeat' (first | refine zss ?_ | refine zsM ?_ | ((with_reducible first | apply AtM1.callp | apply AtQ.callp | apply At.callp); kernel_rfl; exact rfl; exact rfl; exact k0) | ((with_reducible apply At.box (d := 2)); exact rfl; exact rfl; exact rfl; intro b2) | ((with_reducible apply At.box (d := 3)); exact rfl; exact rfl; exact rfl; intro b3) | ((with_reducible apply At.box (d := 39)); exact rfl; exact rfl; exact rfl; intro b39) | (refine zsp ?_ ?_ <;> (intro hc; (try simp only [zhcs, reduceCtorEq] at hc); (try (exfalso; first | omega | contradiction | omega | exact absurd rfl hc | exact absurd (by decide) hc))))))
  (refine At.loopk (σ := Nat) [2, 3, 14] (fun s F0 => (15, .int .i64 (s : Int)) :: F0) (fun s => m) (fun s => .blk b3 55 [a.v, b.v, c.v] :: .blk b2 25 k.cells :: Rest) (fun s => s ≤ 3 ∧ (0 < s → tk a.l k.x k.a) ∧ (1 < s → tk b.l k.y k.b) ∧ (2 < s → tk c.l k.w k.d)) (fun s => 3 - s) 0 (by rfl) ?_ zsubs zml zente ?_)
  · exact ⟨Nat.zero_le _, fun h => absurd h (by decide), fun h => absurd h (by decide), fun h => absurd h (by decide)⟩
  rintro s ⟨hs, g0, g1, g2⟩
  rcases (show s = 0 ∨ s = 1 ∨ s = 2 ∨ s = 3 by omega) with rfl | rfl | rfl | rfl
  · clear k2 k3
    by_cases e1 : (a.l.length : Int) = k.x
    rotate_left
    · (repeat' (first | refine zss ?_ | ((first | (with_reducible first | apply At.val | apply AtQ.val)); (first | exact pr_index_agg (k := 0) (by rfl) (by rfl) (by rfl) (by rfl) (by rfl) (by rfl) (by rfl) | exact pr_indexArr (k := 0) (by rfl) (by rfl) (by rfl) (by rfl) (by decide)); exact rfl) | refine zsM ?_ | ((with_reducible apply At.box (d := 2)); exact rfl; exact rfl; exact rfl; intro b2) | ((with_reducible apply At.box (d := 3)); exact rfl; exact rfl; exact rfl; intro b3) | ((with_reducible apply At.box (d := 39)); exact rfl; exact rfl; exact rfl; intro b39) | (refine zsp ?_ ?_ <;> (intro hc; (try simp only [zhcs, reduceCtorEq] at hc); (try (exfalso; first | (first | omega | exact absurd hc e1) | contradiction | omega | exact absurd rfl hc | exact absurd (by decide) hc))))))
      all_goals ((with_reducible apply At.retV (B := [])); exact rfl; (repeat' (first | exact RVs.nil | (with_reducible apply RVs.cons) | exact rv_tmp (by rfl) | exact rv_cellN (by rfl) (by repeat constructor) (by rfl) (by rfl) (by rfl) | exact rv_cell1 (by rfl) (by repeat constructor) (by rfl) (by rfl))); exact zml; exact zkp; exact ⟨rfl, .inr ⟨fun h => e1 h.2.1.1, rfl, rfl⟩⟩)
    by_cases e2 : Ti.okT a.l k.a
    · rw [tchk e2] at k1
      (repeat' (first | refine zss ?_ | ((first | (with_reducible first | apply At.val | apply AtQ.val)); (first | exact pr_index_agg (k := 0) (by rfl) (by rfl) (by rfl) (by rfl) (by rfl) (by rfl) (by rfl) | exact pr_indexArr (k := 0) (by rfl) (by rfl) (by rfl) (by rfl) (by decide)); exact rfl) | refine zsM ?_ | ((with_reducible first | apply AtM1.cr | apply AtQ.cr | apply At.cr); exact rfl; exact rfl; exact fun _ hmm => k1 _ hmm; exact ztk; kernel_rfl) | ((with_reducible apply At.box (d := 2)); exact rfl; exact rfl; exact rfl; intro b2) | ((with_reducible apply At.box (d := 3)); exact rfl; exact rfl; exact rfl; intro b3) | ((with_reducible apply At.box (d := 39)); exact rfl; exact rfl; exact rfl; intro b39) | (refine zsp ?_ ?_ <;> (intro hc; (try simp only [zhcs, reduceCtorEq] at hc); (try (exfalso; first | (first | omega | exact absurd e1 hc) | contradiction | omega | exact absurd rfl hc | exact absurd (by decide) hc))))))
      all_goals ((with_reducible refine At.reachk (1) ?_ ?_ ?_ ?_); exact zsubs; exact zml; exact zente; exact ⟨⟨by decide, fun _ => ⟨e1, e2⟩, fun h => absurd h (by decide), fun h => absurd h (by decide)⟩, by decide⟩)
    · rw [tchkN e2] at k1
      (repeat' (first | refine zss ?_ | ((first | (with_reducible first | apply At.val | apply AtQ.val)); (first | exact pr_index_agg (k := 0) (by rfl) (by rfl) (by rfl) (by rfl) (by rfl) (by rfl) (by rfl) | exact pr_indexArr (k := 0) (by rfl) (by rfl) (by rfl) (by rfl) (by decide)); exact rfl) | refine zsM ?_ | ((with_reducible first | apply AtM1.cr | apply AtQ.cr | apply At.cr); exact rfl; exact rfl; exact fun _ hmm => k1 _ hmm; exact ztk; kernel_rfl) | ((with_reducible apply At.box (d := 2)); exact rfl; exact rfl; exact rfl; intro b2) | ((with_reducible apply At.box (d := 3)); exact rfl; exact rfl; exact rfl; intro b3) | ((with_reducible apply At.box (d := 39)); exact rfl; exact rfl; exact rfl; intro b39) | (refine zsp ?_ ?_ <;> (intro hc; (try simp only [zhcs, reduceCtorEq] at hc); (try (exfalso; first | (first | omega | exact absurd e1 hc) | contradiction | omega | exact absurd rfl hc | exact absurd (by decide) hc))))))
      all_goals ((with_reducible apply At.retV (B := [])); exact rfl; (repeat' (first | exact RVs.nil | (with_reducible apply RVs.cons) | exact rv_tmp (by rfl) | exact rv_cellN (by rfl) (by repeat constructor) (by rfl) (by rfl) (by rfl) | exact rv_cell1 (by rfl) (by repeat constructor) (by rfl) (by rfl))); exact zml; exact zkp; exact ⟨rfl, .inr ⟨fun h => e2 h.2.1.2, rfl, rfl⟩⟩)
  · clear k1 k3
    by_cases e1 : (b.l.length : Int) = k.y
    rotate_left
    · (repeat' (first | refine zss ?_ | ((first | (with_reducible first | apply At.val | apply AtQ.val)); (first | exact pr_index_agg (k := 1) (by rfl) (by rfl) (by rfl) (by rfl) (by rfl) (by rfl) (by rfl) | exact pr_indexArr (k := 1) (by rfl) (by rfl) (by rfl) (by rfl) (by decide)); exact rfl) | refine zsM ?_ | ((with_reducible apply At.box (d := 2)); exact rfl; exact rfl; exact rfl; intro b2) | ((with_reducible apply At.box (d := 3)); exact rfl; exact rfl; exact rfl; intro b3) | ((with_reducible apply At.box (d := 39)); exact rfl; exact rfl; exact rfl; intro b39) | (refine zsp ?_ ?_ <;> (intro hc; (try simp only [zhcs, reduceCtorEq] at hc); (try (exfalso; first | (first | omega | exact absurd hc e1) | contradiction | omega | exact absurd rfl hc | exact absurd (by decide) hc))))))
      all_goals ((with_reducible apply At.retV (B := [])); exact rfl; (repeat' (first | exact RVs.nil | (with_reducible apply RVs.cons) | exact rv_tmp (by rfl) | exact rv_cellN (by rfl) (by repeat constructor) (by rfl) (by rfl) (by rfl) | exact rv_cell1 (by rfl) (by repeat constructor) (by rfl) (by rfl))); exact zml; exact zkp; exact ⟨rfl, .inr ⟨fun h => e1 h.2.2.1.1, rfl, rfl⟩⟩)
    by_cases e2 : Ti.okT b.l k.b
    · rw [tchk e2] at k2
      (repeat' (first | refine zss ?_ | ((first | (with_reducible first | apply At.val | apply AtQ.val)); (first | exact pr_index_agg (k := 1) (by rfl) (by rfl) (by rfl) (by rfl) (by rfl) (by rfl) (by rfl) | exact pr_indexArr (k := 1) (by rfl) (by rfl) (by rfl) (by rfl) (by decide)); exact rfl) | refine zsM ?_ | ((with_reducible first | apply AtM1.cr | apply AtQ.cr | apply At.cr); exact rfl; exact rfl; exact fun _ hmm => k2 _ hmm; exact ztk; kernel_rfl) | ((with_reducible apply At.box (d := 2)); exact rfl; exact rfl; exact rfl; intro b2) | ((with_reducible apply At.box (d := 3)); exact rfl; exact rfl; exact rfl; intro b3) | ((with_reducible apply At.box (d := 39)); exact rfl; exact rfl; exact rfl; intro b39) | (refine zsp ?_ ?_ <;> (intro hc; (try simp only [zhcs, reduceCtorEq] at hc); (try (exfalso; first | (first | omega | exact absurd e1 hc) | contradiction | omega | exact absurd rfl hc | exact absurd (by decide) hc))))))
      all_goals ((with_reducible refine At.reachk (2) ?_ ?_ ?_ ?_); exact zsubs; exact zml; exact zente; exact ⟨⟨by decide, fun _ => g0 (by decide), fun _ => ⟨e1, e2⟩, fun h => absurd h (by decide)⟩, by decide⟩)
    · rw [tchkN e2] at k2
      (repeat' (first | refine zss ?_ | ((first | (with_reducible first | apply At.val | apply AtQ.val)); (first | exact pr_index_agg (k := 1) (by rfl) (by rfl) (by rfl) (by rfl) (by rfl) (by rfl) (by rfl) | exact pr_indexArr (k := 1) (by rfl) (by rfl) (by rfl) (by rfl) (by decide)); exact rfl) | refine zsM ?_ | ((with_reducible first | apply AtM1.cr | apply AtQ.cr | apply At.cr); exact rfl; exact rfl; exact fun _ hmm => k2 _ hmm; exact ztk; kernel_rfl) | ((with_reducible apply At.box (d := 2)); exact rfl; exact rfl; exact rfl; intro b2) | ((with_reducible apply At.box (d := 3)); exact rfl; exact rfl; exact rfl; intro b3) | ((with_reducible apply At.box (d := 39)); exact rfl; exact rfl; exact rfl; intro b39) | (refine zsp ?_ ?_ <;> (intro hc; (try simp only [zhcs, reduceCtorEq] at hc); (try (exfalso; first | (first | omega | exact absurd e1 hc) | contradiction | omega | exact absurd rfl hc | exact absurd (by decide) hc))))))
      all_goals ((with_reducible apply At.retV (B := [])); exact rfl; (repeat' (first | exact RVs.nil | (with_reducible apply RVs.cons) | exact rv_tmp (by rfl) | exact rv_cellN (by rfl) (by repeat constructor) (by rfl) (by rfl) (by rfl) | exact rv_cell1 (by rfl) (by repeat constructor) (by rfl) (by rfl))); exact zml; exact zkp; exact ⟨rfl, .inr ⟨fun h => e2 h.2.2.1.2, rfl, rfl⟩⟩)
  · clear k1 k2
    by_cases e1 : (c.l.length : Int) = k.w
    rotate_left
    · (repeat' (first | refine zss ?_ | ((first | (with_reducible first | apply At.val | apply AtQ.val)); (first | exact pr_index_agg (k := 2) (by rfl) (by rfl) (by rfl) (by rfl) (by rfl) (by rfl) (by rfl) | exact pr_indexArr (k := 2) (by rfl) (by rfl) (by rfl) (by rfl) (by decide)); exact rfl) | refine zsM ?_ | ((with_reducible apply At.box (d := 2)); exact rfl; exact rfl; exact rfl; intro b2) | ((with_reducible apply At.box (d := 3)); exact rfl; exact rfl; exact rfl; intro b3) | ((with_reducible apply At.box (d := 39)); exact rfl; exact rfl; exact rfl; intro b39) | (refine zsp ?_ ?_ <;> (intro hc; (try simp only [zhcs, reduceCtorEq] at hc); (try (exfalso; first | (first | omega | exact absurd hc e1) | contradiction | omega | exact absurd rfl hc | exact absurd (by decide) hc))))))
      all_goals ((with_reducible apply At.retV (B := [])); exact rfl; (repeat' (first | exact RVs.nil | (with_reducible apply RVs.cons) | exact rv_tmp (by rfl) | exact rv_cellN (by rfl) (by repeat constructor) (by rfl) (by rfl) (by rfl) | exact rv_cell1 (by rfl) (by repeat constructor) (by rfl) (by rfl))); exact zml; exact zkp; exact ⟨rfl, .inr ⟨fun h => e1 h.2.2.2.1, rfl, rfl⟩⟩)
    by_cases e2 : Ti.okT c.l k.d
    · rw [tchk e2] at k3
      (repeat' (first | refine zss ?_ | ((first | (with_reducible first | apply At.val | apply AtQ.val)); (first | exact pr_index_agg (k := 2) (by rfl) (by rfl) (by rfl) (by rfl) (by rfl) (by rfl) (by rfl) | exact pr_indexArr (k := 2) (by rfl) (by rfl) (by rfl) (by rfl) (by decide)); exact rfl) | refine zsM ?_ | ((with_reducible first | apply AtM1.cr | apply AtQ.cr | apply At.cr); exact rfl; exact rfl; exact fun _ hmm => k3 _ hmm; exact ztk; kernel_rfl) | ((with_reducible apply At.box (d := 2)); exact rfl; exact rfl; exact rfl; intro b2) | ((with_reducible apply At.box (d := 3)); exact rfl; exact rfl; exact rfl; intro b3) | ((with_reducible apply At.box (d := 39)); exact rfl; exact rfl; exact rfl; intro b39) | (refine zsp ?_ ?_ <;> (intro hc; (try simp only [zhcs, reduceCtorEq] at hc); (try (exfalso; first | (first | omega | exact absurd e1 hc) | contradiction | omega | exact absurd rfl hc | exact absurd (by decide) hc))))))
      all_goals ((with_reducible refine At.reachk (3) ?_ ?_ ?_ ?_); exact zsubs; exact zml; exact zente; exact ⟨⟨by decide, fun _ => g0 (by decide), fun _ => g1 (by decide), fun _ => ⟨e1, e2⟩⟩, by decide⟩)
    · rw [tchkN e2] at k3
      (repeat' (first | refine zss ?_ | ((first | (with_reducible first | apply At.val | apply AtQ.val)); (first | exact pr_index_agg (k := 2) (by rfl) (by rfl) (by rfl) (by rfl) (by rfl) (by rfl) (by rfl) | exact pr_indexArr (k := 2) (by rfl) (by rfl) (by rfl) (by rfl) (by decide)); exact rfl) | refine zsM ?_ | ((with_reducible first | apply AtM1.cr | apply AtQ.cr | apply At.cr); exact rfl; exact rfl; exact fun _ hmm => k3 _ hmm; exact ztk; kernel_rfl) | ((with_reducible apply At.box (d := 2)); exact rfl; exact rfl; exact rfl; intro b2) | ((with_reducible apply At.box (d := 3)); exact rfl; exact rfl; exact rfl; intro b3) | ((with_reducible apply At.box (d := 39)); exact rfl; exact rfl; exact rfl; intro b39) | (refine zsp ?_ ?_ <;> (intro hc; (try simp only [zhcs, reduceCtorEq] at hc); (try (exfalso; first | (first | omega | exact absurd e1 hc) | contradiction | omega | exact absurd rfl hc | exact absurd (by decide) hc))))))
      all_goals ((with_reducible apply At.retV (B := [])); exact rfl; (repeat' (first | exact RVs.nil | (with_reducible apply RVs.cons) | exact rv_tmp (by rfl) | exact rv_cellN (by rfl) (by repeat constructor) (by rfl) (by rfl) (by rfl) | exact rv_cell1 (by rfl) (by repeat constructor) (by rfl) (by rfl))); exact zml; exact zkp; exact ⟨rfl, .inr ⟨fun h => e2 h.2.2.2.2, rfl, rfl⟩⟩)
  · have hf : fok k a.l b.l c.l := ⟨h0, g0 (by decide), g1 (by decide), g2 (by decide)⟩
    clear k1 k2 k3
    (repeat' (first | refine zss ?_ | refine zsM ?_ | ((with_reducible apply At.box (d := 2)); exact rfl; exact rfl; exact rfl; intro b2) | ((with_reducible apply At.box (d := 3)); exact rfl; exact rfl; exact rfl; intro b3) | ((with_reducible apply At.box (d := 39)); exact rfl; exact rfl; exact rfl; intro b39) | (refine zsp ?_ ?_ <;> (intro hc; (try simp only [zhcs, reduceCtorEq] at hc); (try (exfalso; first | omega | contradiction | omega | exact absurd rfl hc | exact absurd (by decide) hc))))))
    all_goals ((with_reducible apply At.retV (B := [.blk b39 248 (k.cells ++ [a.v, b.v, c.v])])); exact rfl; (repeat' (first | exact RVs.nil | (with_reducible apply RVs.cons) | exact rv_tmp (by rfl) | exact rv_cellN (by rfl) (by repeat constructor) (by rfl) (by rfl) (by rfl) | exact rv_cell1 (by rfl) (by repeat constructor) (by rfl) (by rfl))); exact zml; exact zkp; exact ⟨rfl, .inl ⟨hf, b39, rfl, rfl⟩⟩)
def fchk (k : Cfg) (a b c : List Slot) : Int := if fok k a b c then 0 else 2
theorem checkF {m : Mem} (k : Cfg) (a b c : Lst Slot) (ha : a.l.length ≤ 1000000) (hb : b.l.length ≤ 1000000) (hc0 : c.l.length ≤ 1000000) (ia : ∀ s ∈ a.l, Slot.In s) (ib : ∀ s ∈ b.l, Slot.In s) (ic : ∀ s ∈ c.l, Slot.In s)
    (sl0 : Sl m Slot.cells 15 a.p a.c a.l) (sl1 : Sl m Slot.cells 15 b.p b.c b.l) (sl2 : Sl m Slot.cells 15 c.p c.c c.l) :
    Rd Tryz.prog 115 #[k.v, t3v a b c] m [] (.int .i64 (fchk k a.l b.l c.l)) := by
  unfold Rd
  have k0 := openF k a b c ha hb hc0 ia ib ic sl0 sl1 sl2
  unfold fchk
  refine Ct.enterV (by rfl) Tryz.func115 rfl Tryz.ntmps115 rfl (fun w0 Rest => ?_)
  (repeat' (first | refine zss ?_ | refine zsM ?_ | ((with_reducible first | apply At.c1 | apply At.c0); exact rfl; exact rfl; exact k0; exact ztk; kernel_rfl; rintro v' m' B' hm' ⟨rfl, hv⟩; (try replace sl0 := sl0.mono hm'); (try replace sl1 := sl1.mono hm'); (try replace sl2 := sl2.mono hm'); (try (have hq0 : hm' = Mem.le_refl _ := rfl; clear hq0 hm'))) | (rcases hv with ⟨hv, q', rfl, rfl⟩ | ⟨hv, rfl, rfl⟩) | ((with_reducible apply At.box (d := 2)); exact rfl; exact rfl; exact rfl; intro b2) | ((with_reducible apply At.box (d := 3)); exact rfl; exact rfl; exact rfl; intro b3) | (refine zsp ?_ ?_ <;> (intro hc; (try simp only [zhcs, reduceCtorEq] at hc); (try (exfalso; first | contradiction | omega | exact absurd rfl hc | exact absurd (by decide) hc))))))
  · rw [if_pos hv]
    ((with_reducible apply At.retB1 (B := [])); exact rfl; exact rfl; exact zml; exact zkp; exact ⟨rfl, rfl, rfl⟩)
  · rw [if_neg hv]
    ((with_reducible apply At.retB1 (B := [])); exact rfl; exact rfl; exact zml; exact zkp; exact ⟨rfl, rfl, rfl⟩)
end Se
end Go.Proofs.YtkoijdmlehkhbaaGreatDoor
namespace Go.Proofs.YtkoijdmlehkhbaaGreatDoor
open Go Go.J
attribute [local irreducible] At AtQ AtM AtM1 PR Ct Pu Rd Res.blk Res.own Res.ex RVs RV
/-- raw events, and where they lie -/
structure Rw where
  (lost mark : Int) (p : Option Addr) (c : Nat) (l : List Ev)
abbrev rv (lost mark : Int) (p : Option Addr) (n c : Nat) : Value := .agg #[.int .i64 lost, .int .i64 mark, .slice p n c]
namespace Rw
abbrev cells (r : Rw) : List Value := [.int .i64 r.lost, .int .i64 r.mark, .slice r.p r.l.length r.c]
abbrev v (r : Rw) : Value := rv r.lost r.mark r.p r.l.length r.c
end Rw
namespace Raw
open Ev Mrg
def ris (l : List Ev) : Prop := aok l ∧ asc l
instance (l : List Ev) : Decidable (ris l) := by unfold ris; infer_instance
def mkd (lost mark : Int) (l : List Ev) (room : Int) : Prop := if lost = 0 then mark = 0 else (l.length : Int) = room ∧ 0 ≤ mark ∧ mark < (l[0]!).T
instance (lost mark : Int) (l : List Ev) (room : Int) : Decidable (mkd lost mark l room) := by unfold mkd; infer_instance
def bnd (lost : Int) (l : List Ev) (room : Int) : Prop := 1 ≤ room ∧ room ≤ 4096 ∧ (l.length : Int) ≤ room ∧ 0 ≤ lost ∧ lost ≤ 70368744177664
instance (lost : Int) (l : List Ev) (room : Int) : Decidable (bnd lost l room) := by unfold bnd; infer_instance
def rk (lost mark : Int) (l : List Ev) (room : Int) : Prop := bnd lost l room ∧ ris l ∧ mkd lost mark l room
instance (lost mark : Int) (l : List Ev) (room : Int) : Decidable (rk lost mark l room) := by unfold rk; infer_instance
def chkR (lost mark : Int) (l : List Ev) (room : Int) : Int := if rk lost mark l room then 0 else 2
def lastV (l : List Ev) : Ev := if l.length = 0 then z else l[l.length - 1]!
def lastE (l : List Ev) : Int := if l.length = 0 then 3 else 0
theorem rising {m : Mem} (p : Option Addr) (c : Nat) (l : List Ev) (hl : l.length ≤ 1000000) (sl0 : Sl m cells 4 p c l) :
    Rd Tryz.prog 161 #[.slice p l.length c] m [] (.bool (decide (ris l))) := by
  unfold Rd
  refine Ct.enterV (by rfl) Tryz.func161 rfl Tryz.ntmps161 rfl (fun w0 Rest => ?_)
  (repeat' (first | refine zss ?_ | refine zsM ?_ | ((with_reducible apply At.alloc (d := 4)); exact rfl; exact rfl; intro b4) | (refine zsp ?_ ?_ <;> (intro hc; (try simp only [zhcs, reduceCtorEq] at hc); (try (exfalso; first | contradiction | omega | exact absurd rfl hc | exact absurd (by decide) hc))))))
  (refine At.loopk (σ := Nat) [0, 5, 6] (fun s F0 => (7, .int .i64 (s : Int)) :: F0) (fun s => m) (fun s => Rest) (fun s => s ≤ l.length ∧ (∀ i, i < s → (l[i]!).ok) ∧ (∀ i, i + 1 < s → (l[i]!).T < (l[i + 1]!).T)) (fun s => l.length - s) 0 (by rfl) ?_ zsubs zml zente ?_)
  · exact ⟨Nat.zero_le _, fun i h => absurd h (Nat.not_lt_zero i), fun i h => absurd h (by omega)⟩
  rintro s ⟨hs, ha, hb⟩
  by_cases h : s < l.length
  · have hk := Ev.check (l[s]!)
    by_cases ho : (l[s]!).ok
    · rw [show (l[s]!).chk = 0 from if_pos ho] at hk
      have hn : ∀ i, i < s + 1 → (l[i]!).ok := fun i hi => by
        by_cases e : i = s
        · subst e; exact ho
        · exact ha i (by omega)
      rcases s with _ | j
      · (repeat' (first | refine zss ?_ | refine zsM ?_ | ((with_reducible first | apply AtM1.callp | apply AtQ.callp | apply At.callp); kernel_rfl; exact rfl; exact rfl; exact hk) | ((with_reducible apply At.alloc (d := 4)); exact rfl; exact rfl; intro b4) | (refine zsp ?_ ?_ <;> (intro hc; (try simp only [zhcs, reduceCtorEq] at hc); (try (exfalso; first | omega | contradiction | omega | exact absurd rfl hc | exact absurd (by decide) hc))))))
        all_goals ((with_reducible refine At.reachk (1) ?_ ?_ ?_ ?_); exact zsubs; exact zml; exact zente; exact ⟨⟨h, hn, fun i hi => absurd hi (by omega)⟩, by omega⟩)
      · have hw : IntKind.wrap .i64 (((j + 1 : Nat) : Int) - 1) = (j : Int) := by rw [show (((j + 1 : Nat) : Int) - 1) = (j : Int) by omega]; exact IntWalk.i64_in _ (by omega)
        have hf := Ev.follow (l[j]!) (l[j + 1]!)
        rw [show fol (l[j]!) (l[j + 1]!) = decide ((l[j]!).T < (l[j + 1]!).T) by unfold fol; rw [decide_eq_true (show two (l[j]!) (l[j + 1]!) from ⟨ha j (by omega), ho⟩), Bool.true_and]] at hf
        by_cases hlt : (l[j]!).T < (l[j + 1]!).T
        · have hnn : ∀ i, i + 1 < j + 2 → (l[i]!).T < (l[i + 1]!).T := fun i hi => by
            by_cases e : i = j
            · subst e; exact hlt
            · exact hb i (by omega)
          rw [decide_eq_true hlt] at hf
          (repeat' (first | refine zss ?_ | ((first | (with_reducible first | apply At.val | apply AtQ.val)); (exact pr_sub (by rfl) (by rfl) hw); exact rfl) | refine zsM ?_ | ((with_reducible first | apply AtM1.callp | apply AtQ.callp | apply At.callp); kernel_rfl; exact rfl; exact rfl; exact hk) | ((with_reducible first | apply AtM1.callp | apply AtQ.callp | apply At.callp); kernel_rfl; exact rfl; exact rfl; exact hf) | ((with_reducible apply At.alloc (d := 4)); exact rfl; exact rfl; intro b4) | (refine zsp ?_ ?_ <;> (intro hc; (try simp only [zhcs, reduceCtorEq] at hc); (try (exfalso; first | omega | contradiction | omega | exact absurd rfl hc | exact absurd (by decide) hc))))))
          all_goals ((with_reducible refine At.reachk ((j + 2)) ?_ ?_ ?_ ?_); exact zsubs; exact zml; exact zente; exact ⟨⟨by omega, hn, hnn⟩, by omega⟩)
        · rw [decide_eq_false hlt] at hf
          rw [show decide (ris l) = false from decide_eq_false fun hh => hlt (hh.2 j (by omega))]
          (repeat' (first | refine zss ?_ | ((first | (with_reducible first | apply At.val | apply AtQ.val)); (exact pr_sub (by rfl) (by rfl) hw); exact rfl) | refine zsM ?_ | ((with_reducible first | apply AtM1.callp | apply AtQ.callp | apply At.callp); kernel_rfl; exact rfl; exact rfl; exact hk) | ((with_reducible first | apply AtM1.callp | apply AtQ.callp | apply At.callp); kernel_rfl; exact rfl; exact rfl; exact hf) | ((with_reducible apply At.alloc (d := 4)); exact rfl; exact rfl; intro b4) | (refine zsp ?_ ?_ <;> (intro hc; (try simp only [zhcs, reduceCtorEq] at hc); (try (exfalso; first | omega | contradiction | omega | exact absurd rfl hc | exact absurd (by decide) hc))))))
          all_goals ((with_reducible apply At.retB1 (B := [])); exact rfl; exact rfl; exact zml; exact zkp; exact ⟨rfl, rfl, rfl⟩)
    · rw [show (l[s]!).chk = 2 from if_neg ho] at hk
      rw [show decide (ris l) = false from decide_eq_false fun hh => ho (hh.1 s h)]
      (repeat' (first | refine zss ?_ | refine zsM ?_ | ((with_reducible first | apply AtM1.callp | apply AtQ.callp | apply At.callp); kernel_rfl; exact rfl; exact rfl; exact hk) | ((with_reducible apply At.alloc (d := 4)); exact rfl; exact rfl; intro b4) | (refine zsp ?_ ?_ <;> (intro hc; (try simp only [zhcs, reduceCtorEq] at hc); (try (exfalso; first | omega | contradiction | omega | exact absurd rfl hc | exact absurd (by decide) hc))))))
      all_goals ((with_reducible apply At.retB1 (B := [])); exact rfl; exact rfl; exact zml; exact zkp; exact ⟨rfl, rfl, rfl⟩)
  · rw [show decide (ris l) = true from decide_eq_true ⟨fun i hi => ha i (by omega), fun i hi => hb i (by omega)⟩]
    (repeat' (first | refine zss ?_ | refine zsM ?_ | ((with_reducible apply At.alloc (d := 4)); exact rfl; exact rfl; intro b4) | (refine zsp ?_ ?_ <;> (intro hc; (try simp only [zhcs, reduceCtorEq] at hc); (try (exfalso; first | omega | contradiction | omega | exact absurd rfl hc | exact absurd (by decide) hc))))))
    all_goals ((with_reducible apply At.retB1 (B := [])); exact rfl; exact rfl; exact zml; exact zkp; exact ⟨rfl, rfl, rfl⟩)
theorem marked {m : Mem} (lost mark : Int) (p : Option Addr) (c : Nat) (l : List Ev) (room : Int) (hr : 1 ≤ room) (hl : l.length ≤ 1000000) (sl0 : Sl m cells 4 p c l) :
    Rd Tryz.prog 162 #[rv lost mark p l.length c, .int .i64 room] m [] (.bool (decide (mkd lost mark l room))) := by
  unfold Rd
  by_cases h0 : lost = 0
  · rw [show decide (mkd lost mark l room) = decide (mark = 0) by unfold mkd; simp only [if_pos h0]]
    refine Ct.enterV (by rfl) Tryz.func162 rfl Tryz.ntmps162 rfl (fun w0 Rest => ?_)
    (repeat' (first | refine zss ?_ | refine zsM ?_ | ((with_reducible apply At.box (d := 2)); exact rfl; exact rfl; exact rfl; intro b2) | (refine zsp ?_ ?_ <;> (intro hc; (try simp only [zhcs, reduceCtorEq] at hc); (try (exfalso; first | (first | omega | exact absurd h0 hc) | contradiction | omega | exact absurd rfl hc | exact absurd (by decide) hc))))))
    all_goals ((with_reducible apply At.retB1 (B := [])); exact rfl; exact rfl; exact zml; exact zkp; exact ⟨rfl, rfl, rfl⟩)
  · by_cases h1 : (l.length : Int) = room
    · by_cases h2 : 0 ≤ mark
      · rw [show decide (mkd lost mark l room) = decide (mark < (l[0]!).T) by unfold mkd; simp only [if_neg h0, h1, h2, true_and]]
        refine Ct.enterV (by rfl) Tryz.func162 rfl Tryz.ntmps162 rfl (fun w0 Rest => ?_)
        (repeat' (first | refine zss ?_ | ((first | (with_reducible first | apply At.val | apply AtQ.val)); (exact pr_fieldAddr_at (k := 0 * 4) (by rfl) (by rfl)); exact rfl) | refine zsM ?_ | ((with_reducible apply At.box (d := 2)); exact rfl; exact rfl; exact rfl; intro b2) | (refine zsp ?_ ?_ <;> (intro hc; (try simp only [zhcs, reduceCtorEq] at hc); (try (exfalso; first | (first | omega | exact absurd hc h0) | contradiction | omega | exact absurd rfl hc | exact absurd (by decide) hc))))))
        all_goals ((with_reducible apply At.retB1 (B := [])); exact rfl; exact rfl; exact zml; exact zkp; exact ⟨rfl, rfl, rfl⟩)
      · rw [show decide (mkd lost mark l room) = false from decide_eq_false (by unfold mkd; rw [if_neg h0]; exact fun h => h2 h.2.1)]
        refine Ct.enterV (by rfl) Tryz.func162 rfl Tryz.ntmps162 rfl (fun w0 Rest => ?_)
        (repeat' (first | refine zss ?_ | ((first | (with_reducible first | apply At.val | apply AtQ.val)); (exact pr_fieldAddr_at (k := 0 * 4) (by rfl) (by rfl)); exact rfl) | refine zsM ?_ | ((with_reducible apply At.box (d := 2)); exact rfl; exact rfl; exact rfl; intro b2) | (refine zsp ?_ ?_ <;> (intro hc; (try simp only [zhcs, reduceCtorEq] at hc); (try (exfalso; first | (first | omega | exact absurd hc h0) | contradiction | omega | exact absurd rfl hc | exact absurd (by decide) hc))))))
        all_goals ((with_reducible apply At.retB1 (B := [])); exact rfl; exact rfl; exact zml; exact zkp; exact ⟨rfl, rfl, rfl⟩)
    · rw [show decide (mkd lost mark l room) = false from decide_eq_false (by unfold mkd; rw [if_neg h0]; exact fun h => h1 h.1)]
      refine Ct.enterV (by rfl) Tryz.func162 rfl Tryz.ntmps162 rfl (fun w0 Rest => ?_)
      (repeat' (first | refine zss ?_ | ((first | (with_reducible first | apply At.val | apply AtQ.val)); (exact pr_fieldAddr_at (k := 0 * 4) (by rfl) (by rfl)); exact rfl) | refine zsM ?_ | ((with_reducible apply At.box (d := 2)); exact rfl; exact rfl; exact rfl; intro b2) | (refine zsp ?_ ?_ <;> (intro hc; (try simp only [zhcs, reduceCtorEq] at hc); (try (exfalso; first | (first | omega | exact absurd hc h0) | contradiction | omega | exact absurd rfl hc | exact absurd (by decide) hc))))))
      all_goals ((with_reducible apply At.retB1 (B := [])); exact rfl; exact rfl; exact zml; exact zkp; exact ⟨rfl, rfl, rfl⟩)
theorem check {m : Mem} (lost mark : Int) (p : Option Addr) (c : Nat) (l : List Ev) (room : Int) (hl : l.length ≤ 1000000) (sl0 : Sl m cells 4 p c l) :
    Rd Tryz.prog 116 #[rv lost mark p l.length c, .int .i64 room] m [] (.int .i64 (chkR lost mark l room)) := by
  unfold Rd
  by_cases h0 : bnd lost l room
  · have hk : ∀ m', m.le m' → Rd Tryz.prog 161 #[.slice p l.length c] m' [] (.bool (decide (ris l))) := fun m' hm => rising p c l hl (sl0.mono hm)
    have hj : ∀ m', m.le m' → Rd Tryz.prog 162 #[rv lost mark p l.length c, .int .i64 room] m' [] (.bool (decide (mkd lost mark l room))) := fun m' hm => marked lost mark p c l room h0.1 hl (sl0.mono hm)
    have g0 := h0
    obtain ⟨g1, g2, g3, g4, g5⟩ := g0
    by_cases h1 : ris l
    · rw [decide_eq_true h1] at hk
      by_cases h2 : mkd lost mark l room
      · rw [decide_eq_true h2] at hj
        rw [show chkR lost mark l room = 0 from if_pos ⟨h0, h1, h2⟩]
        refine Ct.enterV (by rfl) Tryz.func116 rfl Tryz.ntmps116 rfl (fun w0 Rest => ?_)
        (repeat' (first | refine zss ?_ | refine zsM ?_ | ((with_reducible first | apply AtM1.cr | apply AtQ.cr | apply At.cr); exact rfl; exact rfl; exact fun _ hmm => hk _ hmm; exact ztk; kernel_rfl) | ((with_reducible first | apply AtM1.cr | apply AtQ.cr | apply At.cr); exact rfl; exact rfl; exact fun _ hmm => hj _ hmm; exact ztk; kernel_rfl) | ((with_reducible apply At.box (d := 2)); exact rfl; exact rfl; exact rfl; intro b2) | (refine zsp ?_ ?_ <;> (intro hc; (try simp only [zhcs, reduceCtorEq] at hc); (try (exfalso; first | omega | contradiction | omega | exact absurd rfl hc | exact absurd (by decide) hc))))))
        all_goals ((with_reducible apply At.retB1 (B := [])); exact rfl; exact rfl; exact zml; exact zkp; exact ⟨rfl, rfl, rfl⟩)
      · rw [decide_eq_false h2] at hj
        rw [show chkR lost mark l room = 2 from if_neg (fun h => h2 h.2.2)]
        refine Ct.enterV (by rfl) Tryz.func116 rfl Tryz.ntmps116 rfl (fun w0 Rest => ?_)
        (repeat' (first | refine zss ?_ | refine zsM ?_ | ((with_reducible first | apply AtM1.cr | apply AtQ.cr | apply At.cr); exact rfl; exact rfl; exact fun _ hmm => hk _ hmm; exact ztk; kernel_rfl) | ((with_reducible first | apply AtM1.cr | apply AtQ.cr | apply At.cr); exact rfl; exact rfl; exact fun _ hmm => hj _ hmm; exact ztk; kernel_rfl) | ((with_reducible apply At.box (d := 2)); exact rfl; exact rfl; exact rfl; intro b2) | (refine zsp ?_ ?_ <;> (intro hc; (try simp only [zhcs, reduceCtorEq] at hc); (try (exfalso; first | omega | contradiction | omega | exact absurd rfl hc | exact absurd (by decide) hc))))))
        all_goals ((with_reducible apply At.retB1 (B := [])); exact rfl; exact rfl; exact zml; exact zkp; exact ⟨rfl, rfl, rfl⟩)
    · rw [decide_eq_false h1] at hk
      rw [show chkR lost mark l room = 2 from if_neg (fun h => h1 h.2.1)]
      refine Ct.enterV (by rfl) Tryz.func116 rfl Tryz.ntmps116 rfl (fun w0 Rest => ?_)
      (repeat' (first | refine zss ?_ | refine zsM ?_ | ((with_reducible first | apply AtM1.cr | apply AtQ.cr | apply At.cr); exact rfl; exact rfl; exact fun _ hmm => hk _ hmm; exact ztk; kernel_rfl) | ((with_reducible apply At.box (d := 2)); exact rfl; exact rfl; exact rfl; intro b2) | (refine zsp ?_ ?_ <;> (intro hc; (try simp only [zhcs, reduceCtorEq] at hc); (try (exfalso; first | omega | contradiction | omega | exact absurd rfl hc | exact absurd (by decide) hc))))))
      all_goals ((with_reducible apply At.retB1 (B := [])); exact rfl; exact rfl; exact zml; exact zkp; exact ⟨rfl, rfl, rfl⟩)
  · rw [show chkR lost mark l room = 2 from if_neg (fun h => h0 h.1)]
    unfold bnd at h0
    refine Ct.enterV (by rfl) Tryz.func116 rfl Tryz.ntmps116 rfl (fun w0 Rest => ?_)
    (repeat' (first | refine zss ?_ | refine zsM ?_ | ((with_reducible apply At.box (d := 2)); exact rfl; exact rfl; exact rfl; intro b2) | (refine zsp ?_ ?_ <;> (intro hc; (try simp only [zhcs, reduceCtorEq] at hc); (try (exfalso; first | omega | contradiction | omega | exact absurd rfl hc | exact absurd (by decide) hc))))))
    all_goals ((with_reducible apply At.retB1 (B := [])); exact rfl; exact rfl; exact zml; exact zkp; exact ⟨rfl, rfl, rfl⟩)
theorem last {m : Mem} (lost mark : Int) (p : Option Addr) (c : Nat) (l : List Ev) (hl : l.length ≤ 1000000) (sl0 : Sl m cells 4 p c l) :
    Rd Tryz.prog 164 #[rv lost mark p l.length c] m [] (.tuple #[(lastV l).v, .int .i64 (lastE l)]) := by
  unfold Rd
  by_cases h : l.length = 0
  · rw [show lastV l = z from if_pos h, show lastE l = 3 from if_pos h]
    refine Ct.enterV (by rfl) Tryz.func164 rfl Tryz.ntmps164 rfl (fun w0 Rest => ?_)
    (repeat' (first | refine zss ?_ | refine zsM ?_ | ((with_reducible apply At.box (d := 1)); exact rfl; exact rfl; exact rfl; intro b1) | ((with_reducible apply At.alloc (d := 2)); exact rfl; exact rfl; intro b2) | (refine zsp ?_ ?_ <;> (intro hc; (try simp only [zhcs, reduceCtorEq] at hc); (try (exfalso; first | omega | contradiction | omega | exact absurd rfl hc | exact absurd (by decide) hc))))))
    all_goals ((with_reducible apply At.retV (B := [])); exact rfl; (repeat' (first | exact RVs.nil | (with_reducible apply RVs.cons) | exact rv_tmp (by rfl) | exact rv_cellN (by rfl) (by repeat constructor) (by rfl) (by rfl) (by rfl) | exact rv_cell1 (by rfl) (by repeat constructor) (by rfl) (by rfl))); exact zml; exact zkp; exact ⟨rfl, rfl, rfl⟩)
  · obtain ⟨j, hj⟩ : ∃ j, l.length - 1 = j := ⟨_, rfl⟩
    have hw : IntKind.wrap .i64 ((l.length : Int) - 1) = (j : Int) := by rw [show (l.length : Int) - 1 = (j : Int) by omega]; exact IntWalk.i64_in _ (by omega)
    rw [show lastV l = l[j]! by unfold lastV; rw [if_neg h, hj], show lastE l = 0 from if_neg h]
    refine Ct.enterV (by rfl) Tryz.func164 rfl Tryz.ntmps164 rfl (fun w0 Rest => ?_)
    (repeat' (first | refine zss ?_ | ((first | (with_reducible first | apply At.val | apply AtQ.val)); (exact pr_sub (by rfl) (by rfl) hw); exact rfl) | refine zsM ?_ | ((with_reducible apply At.box (d := 1)); exact rfl; exact rfl; exact rfl; intro b1) | ((with_reducible apply At.alloc (d := 2)); exact rfl; exact rfl; intro b2) | (refine zsp ?_ ?_ <;> (intro hc; (try simp only [zhcs, reduceCtorEq] at hc); (try (exfalso; first | omega | contradiction | omega | exact absurd rfl hc | exact absurd (by decide) hc))))))
    all_goals ((with_reducible apply At.retV (B := [])); exact rfl; (repeat' (first | exact RVs.nil | (with_reducible apply RVs.cons) | exact rv_tmp (by rfl) | exact rv_cellN (by rfl) (by repeat constructor) (by rfl) (by rfl) (by rfl) | exact rv_cell1 (by rfl) (by repeat constructor) (by rfl) (by rfl))); exact zml; exact zkp; exact ⟨rfl, rfl, rfl⟩)
theorem equal {m : Mem} (p : Option Addr) (c : Nat) (a : List Ev) (q : Option Addr) (d : Nat) (b : List Ev) (hl : a.length ≤ 1000000) (hlb : b.length ≤ 1000000) (sl0 : Sl m cells 4 p c a) (sl1 : Sl m cells 4 q d b) :
    Rd Tryz.prog 123 #[.slice p a.length c, .slice q b.length d] m [] (.bool (decide (a = b))) := by
  unfold Rd
  by_cases hlen : a.length = b.length
  · refine Ct.enterV (by rfl) Tryz.func123 rfl Tryz.ntmps123 rfl (fun w0 Rest => ?_)
    (repeat' (first | refine zss ?_ | refine zsM ?_ | (refine zsp ?_ ?_ <;> (intro hc; (try simp only [zhcs, reduceCtorEq] at hc); (try (exfalso; first | omega | contradiction | omega | exact absurd rfl hc | exact absurd (by decide) hc))))))
    (refine At.loopk (σ := Nat) [0, 1, 12] (fun s F0 => (13, .int .i64 (s : Int)) :: F0) (fun s => m) (fun s => Rest) (fun s => s ≤ a.length ∧ ∀ i, i < s → a[i]! = b[i]!) (fun s => a.length - s) 0 (by rfl) ?_ zsubs zml zente ?_)
    · exact ⟨Nat.zero_le _, fun i h => absurd h (Nat.not_lt_zero i)⟩
    rintro s ⟨hs, hn⟩
    by_cases h : s < a.length
    · by_cases e : a[s]! = b[s]!
      · have hnn : ∀ i, i < s + 1 → a[i]! = b[i]! := fun i hi => by
          by_cases e1 : i = s
          · subst e1; exact e
          · exact hn i (by omega)
        (repeat' (first | refine zss ?_ | ((first | (with_reducible first | apply At.val | apply AtQ.val)); (exact pr_evne (by rfl) (by rfl)); exact rfl) | refine zsM ?_ | (refine zsp ?_ ?_ <;> (intro hc; (try simp only [zhcs, reduceCtorEq] at hc); (try (exfalso; first | (first | omega | exact absurd e hc) | contradiction | omega | exact absurd rfl hc | exact absurd (by decide) hc))))))
        all_goals ((with_reducible refine At.reachk ((s + 1)) ?_ ?_ ?_ ?_); exact zsubs; exact zml; exact zente; exact ⟨⟨h, hnn⟩, by omega⟩)
      · rw [decide_eq_false (show ¬ a = b from fun h => e (by rw [h]))]
        (repeat' (first | refine zss ?_ | ((first | (with_reducible first | apply At.val | apply AtQ.val)); (exact pr_evne (by rfl) (by rfl)); exact rfl) | refine zsM ?_ | (refine zsp ?_ ?_ <;> (intro hc; (try simp only [zhcs, reduceCtorEq] at hc); (try (exfalso; first | (first | omega | exact absurd hc e) | contradiction | omega | exact absurd rfl hc | exact absurd (by decide) hc))))))
        all_goals ((with_reducible apply At.retB1 (B := [])); exact rfl; exact rfl; exact zml; exact zkp; exact ⟨rfl, rfl, rfl⟩)
    · rw [decide_eq_true (show a = b from List.ext_getElem hlen fun i h1 h2 => by have := hn i (by omega); rwa [getElem!_pos a i h1, getElem!_pos b i h2] at this)]
      (repeat' (first | refine zss ?_ | refine zsM ?_ | (refine zsp ?_ ?_ <;> (intro hc; (try simp only [zhcs, reduceCtorEq] at hc); (try (exfalso; first | omega | contradiction | omega | exact absurd rfl hc | exact absurd (by decide) hc))))))
      all_goals ((with_reducible apply At.retB1 (B := [])); exact rfl; exact rfl; exact zml; exact zkp; exact ⟨rfl, rfl, rfl⟩)
  · rw [decide_eq_false (show ¬ a = b from fun h => hlen (by rw [h]))]
    refine Ct.enterV (by rfl) Tryz.func123 rfl Tryz.ntmps123 rfl (fun w0 Rest => ?_)
    (repeat' (first | refine zss ?_ | refine zsM ?_ | (refine zsp ?_ ?_ <;> (intro hc; (try simp only [zhcs, reduceCtorEq] at hc); (try (exfalso; first | omega | contradiction | omega | exact absurd rfl hc | exact absurd (by decide) hc))))))
    all_goals ((with_reducible apply At.retB1 (B := [])); exact rfl; exact rfl; exact zml; exact zkp; exact ⟨rfl, rfl, rfl⟩)
def eqR (r o : Rw) : Bool := decide (r.lost = o.lost ∧ r.mark = o.mark ∧ r.l = o.l)
theorem eqR_1 {r o : Rw} (h : ¬ r.lost = o.lost) : eqR r o = false := decide_eq_false fun e => h e.1
theorem eqR_2 {r o : Rw} (h : ¬ r.mark = o.mark) : eqR r o = false := decide_eq_false fun e => h e.2.1
theorem eqR_3 {r o : Rw} (h1 : r.lost = o.lost) (h2 : r.mark = o.mark) : eqR r o = decide (r.l = o.l) := by unfold eqR; simp [h1, h2]
theorem same {m : Mem} (r o : Rw) (hr : r.l.length ≤ 1000000) (ho : o.l.length ≤ 1000000) (sl0 : Sl m cells 4 r.p r.c r.l) (sl1 : Sl m cells 4 o.p o.c o.l) :
    Rd Tryz.prog 65 #[r.v, o.v] m [] (.bool (eqR r o)) := by
  unfold Rd
  by_cases h1 : r.lost = o.lost
  · by_cases h2 : r.mark = o.mark
    · rw [eqR_3 h1 h2]
      refine Ct.enterV (by rfl) Tryz.func65 rfl Tryz.ntmps65 rfl (fun w0 Rest => ?_)
      (repeat' (first | refine zss ?_ | refine zsM ?_ | ((with_reducible first | apply AtM1.cr | apply AtQ.cr | apply At.cr); exact rfl; exact rfl; exact fun _ hmm => equal r.p r.c r.l o.p o.c o.l hr ho (sl0.mono hmm) (sl1.mono hmm); exact ztk; kernel_rfl) | ((with_reducible apply At.box (d := 2)); exact rfl; exact rfl; exact rfl; intro b2) | ((with_reducible apply At.box (d := 3)); exact rfl; exact rfl; exact rfl; intro b3) | (refine zsp ?_ ?_ <;> (intro hc; (try simp only [zhcs, reduceCtorEq] at hc); (try (exfalso; first | omega | contradiction | omega | exact absurd rfl hc | exact absurd (by decide) hc))))))
      all_goals ((with_reducible apply At.retB1 (B := [])); exact rfl; exact rfl; exact zml; exact zkp; exact ⟨rfl, rfl, rfl⟩)
    · rw [eqR_2 h2]
      refine Ct.enterV (by rfl) Tryz.func65 rfl Tryz.ntmps65 rfl (fun w0 Rest => ?_)
      (repeat' (first | refine zss ?_ | refine zsM ?_ | ((with_reducible apply At.box (d := 2)); exact rfl; exact rfl; exact rfl; intro b2) | ((with_reducible apply At.box (d := 3)); exact rfl; exact rfl; exact rfl; intro b3) | (refine zsp ?_ ?_ <;> (intro hc; (try simp only [zhcs, reduceCtorEq] at hc); (try (exfalso; first | omega | contradiction | omega | exact absurd rfl hc | exact absurd (by decide) hc))))))
      all_goals ((with_reducible apply At.retB1 (B := [])); exact rfl; exact rfl; exact zml; exact zkp; exact ⟨rfl, rfl, rfl⟩)
  · rw [eqR_1 h1]
    refine Ct.enterV (by rfl) Tryz.func65 rfl Tryz.ntmps65 rfl (fun w0 Rest => ?_)
    (repeat' (first | refine zss ?_ | refine zsM ?_ | ((with_reducible apply At.box (d := 2)); exact rfl; exact rfl; exact rfl; intro b2) | ((with_reducible apply At.box (d := 3)); exact rfl; exact rfl; exact rfl; intro b3) | (refine zsp ?_ ?_ <;> (intro hc; (try simp only [zhcs, reduceCtorEq] at hc); (try (exfalso; first | omega | contradiction | omega | exact absurd rfl hc | exact absurd (by decide) hc))))))
    all_goals ((with_reducible apply At.retB1 (B := [])); exact rfl; exact rfl; exact zml; exact zkp; exact ⟨rfl, rfl, rfl⟩)
end Raw
end Go.Proofs.YtkoijdmlehkhbaaGreatDoor
namespace Go.J
open Go
abbrev ltB : List UInt8 → List UInt8 → Bool := Op.bytesLess
section
variable {P : Program} {n : Nat} {F : Fr} {C : World → Prop} {x y : Operand} {p q : List UInt8} {t u : TypeId} {r : Bool}
theorem run_strcmp (op : BinOp) (hop : op = .lss ∨ op = .leq ∨ op = .gtr ∨ op = .geq) {v : Bool} (hx : ev F x = some (.string (str p))) (hy : ev F y = some (.string (str q)))
    (hv : (Op.stringOp op (str p) (str q)) = pure (.bool v)) : PR P n F C (.binOp op t x y u) (.bool v) := fun _ _ _ _ _ a w ha _ => by
  have hg : ∀ w, (eqGuard op t x y (.string (str p)) (.string (str q))).run P w = .ok () w := fun w => by rcases hop with rfl | rfl | rfl | rfl <;> rfl
  have hb : binOp op t (.string (str p)) (.string (str q)) = Op.stringOp op (str p) (str q) := by rcases hop with rfl | rfl | rfl | rfl <;> rfl
  simp only [execOp, ha.ev hx, ha.ev hy, hb, Sem.run_bind, hg, Result.andThen]
  rw [hv]
  rfl
theorem pr_strgeq (hx : ev F x = some (.string (str p))) (hy : ev F y = some (.string (str q))) (h : ltB p q = r) : PR P n F C (.binOp .geq t x y u) (.bool (!r)) :=
  run_strcmp .geq (.inr (.inr (.inr rfl))) hx hy (by subst h; simp [Op.stringOp, str])
end
end Go.J
namespace Go.Proofs.YtkoijdmlehkhbaaGreatDoor
open Go Go.J
/-- a label -/
structure Lab where
  (n v : List UInt8)
deriving DecidableEq, Inhabited
abbrev Lab.val (x : Lab) : Value := .agg #[.string (str x.n), .string (str x.v)]
namespace Lb
abbrev cells : Lab → List Value := fun x => [.string (str x.n), .string (str x.v)]
instance : Fl cells 2 := ⟨fun _ => rfl, fun _ v h => by simp at h; rcases h with rfl | rfl <;> rfl, by decide⟩
def dig (c : UInt8) : Bool := decide (48 ≤ bI c ∧ bI c ≤ 57)
def sgn (c : UInt8) : Bool := decide ((97 ≤ bI c ∧ bI c ≤ 122) ∨ (65 ≤ bI c ∧ bI c ≤ 90) ∨ (48 ≤ bI c ∧ bI c ≤ 57) ∨ bI c = 95)
def nameB (s : List UInt8) : Bool := decide (1 ≤ s.length ∧ s.length ≤ 64 ∧ dig s[0]! = false ∧ ∀ i, i < s.length → sgn s[i]! = true)
def okAt (l : List Lab) (i : Nat) : Bool := decide (nameB l[i]!.n = true ∧ l[i]!.v.length ≤ 128 ∧ (0 < i → ltB l[i - 1]!.n l[i]!.n = true))
def tot (l : List Lab) : Nat := (l.map fun x => x.n.length + x.v.length).sum
def right (l : List Lab) : Prop := 1 ≤ l.length ∧ l.length ≤ 16 ∧ (∀ i, i < l.length → okAt l i = true) ∧ tot l ≤ 256
instance (l : List Lab) : Decidable (right l) := by unfold right; infer_instance
def chk (l : List Lab) : Int := if right l then 0 else 8
def few (l : List Lab) : Prop := l.length ≤ 40 ∧ ∀ i, i < l.length → l[i]!.n.length ≤ 1000 ∧ l[i]!.v.length ≤ 1000
instance (l : List Lab) : Decidable (few l) := by unfold few; infer_instance
def val (l : List Lab) (t : List UInt8) : List UInt8 := match l.find? fun x => decide (x.n = t) with
  | some x => x.v
  | none => []
theorem or_letter : ∀ n : Nat, n < 256 → (decide (97 ≤ bits .or .u8 (n : Int) 32 ∧ bits .or .u8 (n : Int) 32 ≤ 122)) = decide ((97 ≤ (n : Int) ∧ (n : Int) ≤ 122) ∨ (65 ≤ (n : Int) ∧ (n : Int) ≤ 90)) := by decide +kernel
theorem or_let (c : UInt8) : (97 ≤ bits .or .u8 (bI c) 32 ∧ bits .or .u8 (bI c) 32 ≤ 122) ↔ ((97 ≤ bI c ∧ bI c ≤ 122) ∨ (65 ≤ bI c ∧ bI c ≤ 90)) := by
  have := or_letter c.toNat c.toNat_lt
  rwa [decide_eq_decide] at this
theorem lab_ext {a b : Lab} (h1 : a.n = b.n) (h2 : a.v = b.v) : a = b := by cases a; cases b; cases h1; cases h2; rfl
theorem and_lab (a b : Lab) : andL [decide (str a.n = str b.n), decide (str a.v = str b.v)] = decide (a = b) := by
  by_cases h : a = b
  · subst h; simp [andL_cons, andL_nil]
  · rw [decide_eq_false h]
    cases hb : andL [decide (str a.n = str b.n), decide (str a.v = str b.v)] with
    | false => rfl
    | true =>
      simp only [andL_cons, andL_nil, Bool.and_eq_true, decide_eq_true_eq] at hb
      exact absurd (lab_ext (str_inj.1 hb.1) (str_inj.1 hb.2.1)) h
theorem pr_lbne {n : Nat} {F : Fr} {C : World → Prop} {x y : Operand} {u : TypeId} {a b : Lab} (hx : ev F x = some a.val) (hy : ev F y = some b.val) : PR Tryz.prog n F C (.binOp .neq 87 x y u) (.bool (!decide (a = b))) := by
  rw [← and_lab]
  exact pr_aggne2 hx hy (by rfl) (by kernel_rfl) (by kernel_rfl) (by rfl)
theorem tot_take {l : List Lab} {i : Nat} (h : i < l.length) : tot (l.take (i + 1)) = tot (l.take i) + (l[i]!.n.length + l[i]!.v.length) := by
  rw [Ls.take_snoc h]; simp [tot]
theorem tot_take_le (l : List Lab) (i : Nat) : tot (l.take i) ≤ tot l := by
  conv => rhs; rw [← List.take_append_drop i l]
  unfold tot
  rw [List.map_append, List.sum_append]
  omega
theorem bad_at {l : List Lab} {i : Nat} (hi : i < l.length) (h : ¬ (nameB l[i]!.n = true ∧ l[i]!.v.length ≤ 128 ∧ (0 < i → ltB l[i - 1]!.n l[i]!.n = true))) : chk l = 8 := by
  unfold chk
  rw [if_neg fun k => h (of_decide_eq_true (k.2.2.1 i hi))]
theorem bad_tot {l : List Lab} {i : Nat} (h : 256 < tot (l.take i)) : chk l = 8 := by
  unfold chk
  have := tot_take_le l i
  rw [if_neg fun k => by have := k.2.2.2; omega]
theorem bad_len {l : List Lab} (h : l.length < 1 ∨ 16 < l.length) : chk l = 8 := by
  unfold chk
  rw [if_neg fun k => by have := k.1; have := k.2.1; omega]
theorem chk_ok {l : List Lab} (h : right l) : chk l = 0 := if_pos h
theorem nameB_no {s : List UInt8} (h : ¬ (1 ≤ s.length ∧ s.length ≤ 64 ∧ dig s[0]! = false ∧ ∀ i, i < s.length → sgn s[i]! = true)) : nameB s = false := decide_eq_false h
end Lb
end Go.Proofs.YtkoijdmlehkhbaaGreatDoor
namespace Go.J
open Go
section
variable {P : Program} {n : Nat} {w0 : World} {F : Fr} {m : Mem} {Rs Rs' : List Res} {Q : Exit → Act → World → Prop} {K : Act → World → Prop} {E : TypeId} {p : Option Addr} {c : Nat} {L : List Int}
theorem Pu.ct {f : FuncId} {args : Array Value} {V : Value} (h : Pu P f args V) (m : Mem) : Ct P f args m [] (fun v m' B => v = V ∧ m = m' ∧ B = []) := (h m).mono fun _ _ _ _ ⟨a, b, c⟩ => ⟨a, b.symm, c⟩
end
end Go.J
namespace Go.Proofs.YtkoijdmlehkhbaaGreatDoor
open Go Go.J
attribute [local irreducible] At AtQ AtM AtM1 PR Ct Pu Rd Res.blk Res.own Res.ex RVs RV
namespace Lb
theorem digit (c : UInt8) : Pu Tryz.prog 97 #[.int .u8 (bI c)] (.bool (dig c)) := Pu.intro fun m => by
  refine Ct.enterV (by rfl) Tryz.func97 rfl Tryz.ntmps97 rfl (fun w0 Rest => ?_)
  (repeat' (first | refine zss ?_ | refine zs0 ?_ | (refine zsp ?_ ?_ <;> (intro hc; (try simp only [zhcs, reduceCtorEq] at hc); (try (exfalso; first | contradiction | omega | exact absurd rfl hc | exact absurd (by decide) hc))))))
  all_goals ((with_reducible apply At.retB1 (B := [])); exact rfl; exact rfl; exact zml; exact zkp; exact ⟨congrArg Value.bool (by unfold dig; first | (rw [decide_eq_decide]; omega) | (symm; rw [decide_eq_false_iff_not]; omega) | (symm; rw [decide_eq_true_eq]; omega)), rfl, rfl⟩)
theorem sign (c : UInt8) : Pu Tryz.prog 100 #[.int .u8 (bI c)] (.bool (sgn c)) := Pu.intro fun m => by
  have ho := or_let c
  have hd := digit c
  cases h : dig c with
  | true =>
    have h' := of_decide_eq_true h
    rw [h] at hd
    rw [show sgn c = true by unfold sgn; rw [decide_eq_true_eq]; omega]
    refine Ct.enterV (by rfl) Tryz.func100 rfl Tryz.ntmps100 rfl (fun w0 Rest => ?_)
    (repeat' (first | refine zss ?_ | ((first | (with_reducible first | apply At.val | apply AtQ.val)); (exact pr_or (by rfl) (by rfl) rfl); exact rfl) | refine zs0 ?_ | ((with_reducible first | apply AtM1.callp | apply AtQ.callp | apply At.callp); kernel_rfl; exact rfl; exact rfl; exact hd) | (refine zsp ?_ ?_ <;> (intro hc; (try simp only [zhcs, reduceCtorEq] at hc); (try (exfalso; first | contradiction | omega | exact absurd rfl hc | exact absurd (by decide) hc))))))
    all_goals ((with_reducible apply At.retB1 (B := [])); exact rfl; exact rfl; exact zml; exact zkp; exact ⟨rfl, rfl, rfl⟩)
  | false =>
    have h' := of_decide_eq_false h
    rw [h] at hd
    have hs : sgn c = decide ((97 ≤ bits .or .u8 (bI c) 32 ∧ bits .or .u8 (bI c) 32 ≤ 122) ∨ bI c = 95) := by unfold sgn; rw [decide_eq_decide]; omega
    obtain ⟨o, eo⟩ : ∃ o, bits .or .u8 (bI c) 32 = o := ⟨_, rfl⟩
    rw [hs, eo]
    refine Ct.enterV (by rfl) Tryz.func100 rfl Tryz.ntmps100 rfl (fun w0 Rest => ?_)
    (repeat' (first | refine zss ?_ | ((first | (with_reducible first | apply At.val | apply AtQ.val)); (exact pr_or (by rfl) (by rfl) eo); exact rfl) | refine zs0 ?_ | ((with_reducible first | apply AtM1.callp | apply AtQ.callp | apply At.callp); kernel_rfl; exact rfl; exact rfl; exact hd) | (refine zsp ?_ ?_ <;> (intro hc; (try simp only [zhcs, reduceCtorEq] at hc); (try (exfalso; first | contradiction | omega | exact absurd rfl hc | exact absurd (by decide) hc))))))
    all_goals ((with_reducible apply At.retB1 (B := [])); exact rfl; exact rfl; exact zml; exact zkp; exact ⟨congrArg Value.bool (by first | (rw [decide_eq_decide]; omega) | (symm; rw [decide_eq_false_iff_not]; omega) | (symm; rw [decide_eq_true_eq]; omega)), rfl, rfl⟩)
theorem name1 (c : UInt8) : Pu Tryz.prog 99 #[.int .u8 (bI c)] (.bool (!sgn c)) := Pu.intro fun m => by
  refine Ct.enterV (by rfl) Tryz.func99 rfl Tryz.ntmps99 rfl (fun w0 Rest => ?_)
  (repeat' (first | refine zss ?_ | refine zs0 ?_ | ((with_reducible first | apply AtM1.callp | apply AtQ.callp | apply At.callp); kernel_rfl; exact rfl; exact rfl; exact sign c) | (refine zsp ?_ ?_ <;> (intro hc; (try simp only [zhcs, reduceCtorEq] at hc); (try (exfalso; first | contradiction | omega | exact absurd rfl hc | exact absurd (by decide) hc))))))
  all_goals ((with_reducible apply At.retB1 (B := [])); exact rfl; exact rfl; exact zml; exact zkp; exact ⟨rfl, rfl, rfl⟩)
theorem map_get {l : List UInt8} {s : Nat} (h : s < l.length) : (l.map bI)[s]! = bI (l[s]!) := by
  rw [getElem!_pos _ s (by rw [List.length_map]; exact h), getElem!_pos l s h, List.getElem_map]
theorem indexN {m : Mem} (p : Option Addr) (c : Nat) (l : List UInt8) (hl : l.length ≤ 1000000) (sl0 : Sl m fb 1 p c (l.map bI)) :
    Ct Tryz.prog 148 #[.slice p (l.map bI).length c, .func (.func 99) #[] #[]] m [] (fun r m' B => m = m' ∧ B = [] ∧ ∃ k : Int, r = .int .i64 k ∧ (0 ≤ k ↔ ¬ ∀ i, i < l.length → sgn (l[i]!) = true)) := by
  have hml : (l.map bI).length = l.length := by simp
  refine Ct.enterV (by rfl) Tryz.func148 rfl Tryz.ntmps148 rfl (fun w0 Rest => ?_)
  (repeat' (first | refine zss ?_ | refine zsM ?_ | (refine zsp ?_ ?_ <;> (intro hc; (try simp only [zhcs, reduceCtorEq] at hc); (try (exfalso; first | contradiction | omega | exact absurd rfl hc | exact absurd (by decide) hc))))))
  (refine At.loopk (σ := Nat) [0, 1, 7] (fun s F0 => (8, .int .i64 (s : Int)) :: F0) (fun s => m) (fun s => Rest) (fun s => s ≤ l.length ∧ ∀ i, i < s → sgn (l[i]!) = true) (fun s => l.length - s) 0 (by rfl) ?_ zsubs zml zente ?_)
  · exact ⟨Nat.zero_le _, fun i h => absurd h (Nat.not_lt_zero i)⟩
  rintro s ⟨hs, hn⟩
  by_cases h : s < l.length
  · have hg : (l.map bI)[s]! = bI (l[s]!) := map_get h
    have hlp := name1 (l[s]!)
    rw [← hg] at hlp
    cases e : sgn (l[s]!) with
    | false =>
      rw [e, Bool.not_false] at hlp
      (repeat' (first | refine zss ?_ | refine zsM ?_ | ((with_reducible apply At.callf); exact rfl; kernel_rfl; exact rfl; exact rfl; exact Pu.ct hlp _; exact ztk; rintro v' m' B' hm' ⟨rfl, rfl, rfl⟩; (try replace sl0 := sl0.mono hm')) | (refine zsp ?_ ?_ <;> (intro hc; (try simp only [zhcs, reduceCtorEq] at hc); (try (exfalso; first | omega | contradiction | omega | exact absurd rfl hc | exact absurd (by decide) hc))))))
      all_goals ((with_reducible apply At.retB1 (B := [])); exact rfl; exact rfl; exact zml; exact zkp; exact ⟨rfl, rfl, _, rfl, ⟨fun _ hh => absurd ((hh s h).symm.trans e) (by decide), fun _ => by omega⟩⟩)
    | true =>
      rw [e, Bool.not_true] at hlp
      have hnn : ∀ i, i < s + 1 → sgn (l[i]!) = true := fun i hi => by
        by_cases e1 : i = s
        · subst e1; exact e
        · exact hn i (by omega)
      (repeat' (first | refine zss ?_ | refine zsM ?_ | ((with_reducible apply At.callf); exact rfl; kernel_rfl; exact rfl; exact rfl; exact Pu.ct hlp _; exact ztk; rintro v' m' B' hm' ⟨rfl, rfl, rfl⟩; (try replace sl0 := sl0.mono hm')) | (refine zsp ?_ ?_ <;> (intro hc; (try simp only [zhcs, reduceCtorEq] at hc); (try (exfalso; first | omega | contradiction | omega | exact absurd rfl hc | exact absurd (by decide) hc))))))
      all_goals ((with_reducible refine At.reachk ((s + 1)) ?_ ?_ ?_ ?_); exact zsubs; exact zml; exact zente; exact ⟨⟨h, hnn⟩, by omega⟩)
  · (repeat' (first | refine zss ?_ | refine zsM ?_ | (refine zsp ?_ ?_ <;> (intro hc; (try simp only [zhcs, reduceCtorEq] at hc); (try (exfalso; first | omega | contradiction | omega | exact absurd rfl hc | exact absurd (by decide) hc))))))
    all_goals ((with_reducible apply At.retB1 (B := [])); exact rfl; exact rfl; exact zml; exact zkp; exact ⟨rfl, rfl, _, rfl, ⟨fun hh => absurd hh (by decide), fun hh => absurd (fun i hi => hn i (by omega)) hh⟩⟩)
theorem containsN {m : Mem} (p : Option Addr) (c : Nat) (l : List UInt8) (hl : l.length ≤ 1000000) (sl0 : Sl m fb 1 p c (l.map bI)) :
    Rd Tryz.prog 98 #[.slice p (l.map bI).length c, .func (.func 99) #[] #[]] m [] (.bool (!decide (∀ i, i < l.length → sgn (l[i]!) = true))) := by
  unfold Rd
  refine Ct.enterV (by rfl) Tryz.func98 rfl Tryz.ntmps98 rfl (fun w0 Rest => ?_)
  (repeat' (first | refine zss ?_ | refine zsM ?_ | ((with_reducible first | apply At.c1 | apply At.c0); exact rfl; exact rfl; exact indexN p c l hl sl0; exact ztk; kernel_rfl; rintro v' m' B' hm' ⟨rfl, rfl, k, rfl, hk⟩; (try replace sl0 := sl0.mono hm'); (try (have hq0 : hm' = Mem.le_refl _ := rfl; clear hq0 hm'))) | (refine zsp ?_ ?_ <;> (intro hc; (try simp only [zhcs, reduceCtorEq] at hc); (try (exfalso; first | contradiction | omega | exact absurd rfl hc | exact absurd (by decide) hc))))))
  all_goals ((with_reducible apply At.retB1 (B := [])); exact rfl; exact rfl; exact zml; exact zkp; exact ⟨congrArg Value.bool (by rw [← decide_not, decide_eq_decide]; exact hk), rfl, rfl⟩)
theorem name (s : List UInt8) : Pu Tryz.prog 50 #[.string (str s)] (.bool (nameB s)) := by
  by_cases h0 : s = []
  · subst h0
    refine Pu.intro fun m => ?_
    refine Ct.enterV (by rfl) Tryz.func50 rfl Tryz.ntmps50 rfl (fun w0 Rest => ?_)
    (repeat' (first | refine zss ?_ | refine zs0 ?_ | (refine zsp ?_ ?_ <;> (intro hc; (try simp only [zhcs, reduceCtorEq] at hc); (try (exfalso; first | contradiction | omega | exact absurd rfl hc | exact absurd (by decide) hc))))))
    all_goals ((with_reducible apply At.retB1 (B := [])); exact rfl; exact rfl; exact zml; exact zkp; exact ⟨rfl, rfl, rfl⟩)
  have hl0 : 1 ≤ s.length := by cases s with
    | nil => exact absurd rfl h0
    | cons x s => simp
  have hs0 : str s ≠ str [] := fun e => h0 (str_inj.1 e)
  by_cases h1 : s.length ≤ 64
  · have hd := digit (s[0]!)
    cases e : dig (s[0]!) with
    | true =>
      rw [e] at hd
      rw [nameB_no fun k => absurd (k.2.2.1.symm.trans e) (by decide)]
      refine Pu.intro fun m => ?_
      refine Ct.enterV (by rfl) Tryz.func50 rfl Tryz.ntmps50 rfl (fun w0 Rest => ?_)
      (repeat' (first | refine zss ?_ | refine zs0 ?_ | ((with_reducible first | apply AtM1.callp | apply AtQ.callp | apply At.callp); kernel_rfl; exact rfl; exact rfl; exact hd) | (refine zsp ?_ ?_ <;> (intro hc; (try simp only [zhcs, reduceCtorEq] at hc); (try (exfalso; first | (first | omega | exact absurd hc hs0) | contradiction | omega | exact absurd rfl hc | exact absurd (by decide) hc))))))
      all_goals ((with_reducible apply At.retB1 (B := [])); exact rfl; exact rfl; exact zml; exact zkp; exact ⟨rfl, rfl, rfl⟩)
    | false =>
      rw [e] at hd
      have hv : nameB s = decide (∀ i, i < s.length → sgn (s[i]!) = true) := by unfold nameB; rw [decide_eq_decide]; exact ⟨fun k => k.2.2.2, fun k => ⟨hl0, h1, e, k⟩⟩
      rw [hv]
      have hq : (!(!decide (∀ i, i < s.length → sgn (s[i]!) = true))) = decide (∀ i, i < s.length → sgn (s[i]!) = true) := Bool.not_not _
      refine Pu.of_le fun m => ?_
      have hle : m.le m := Mem.le_refl m
      refine Ct.enterV (by rfl) Tryz.func50 rfl Tryz.ntmps50 rfl (fun w0 Rest => ?_)
      (repeat' (first | refine zss ?_ | refine zsM ?_ | ((with_reducible first | apply AtM1.callp | apply AtQ.callp | apply At.callp); kernel_rfl; exact rfl; exact rfl; exact hd) | ((with_reducible apply At.str_bytes); (iterate 4 exact rfl); exact zom; exact rfl; intro p' c' m' hm' sl1; skip) | ((with_reducible first | apply AtM1.cr | apply AtQ.cr | apply At.cr); exact rfl; exact rfl; exact fun _ hmm => containsN _ _ s (by omega) (sl1.mono hmm); exact ztk; kernel_rfl) | (refine zsp ?_ ?_ <;> (intro hc; (try simp only [zhcs, reduceCtorEq] at hc); (try (exfalso; first | (first | omega | exact absurd hc hs0) | contradiction | omega | exact absurd rfl hc | exact absurd (by decide) hc))))))
      all_goals ((with_reducible apply At.retB1 (B := [])); exact rfl; exact rfl; exact zml; exact zkp; exact ⟨congrArg Value.bool hq, by assumption, rfl⟩)
  · rw [nameB_no fun k => by omega]
    refine Pu.intro fun m => ?_
    refine Ct.enterV (by rfl) Tryz.func50 rfl Tryz.ntmps50 rfl (fun w0 Rest => ?_)
    (repeat' (first | refine zss ?_ | refine zs0 ?_ | (refine zsp ?_ ?_ <;> (intro hc; (try simp only [zhcs, reduceCtorEq] at hc); (try (exfalso; first | (first | omega | exact absurd hc hs0) | contradiction | omega | exact absurd rfl hc | exact absurd (by decide) hc))))))
    all_goals ((with_reducible apply At.retB1 (B := [])); exact rfl; exact rfl; exact zml; exact zkp; exact ⟨rfl, rfl, rfl⟩)
end Lb
end Go.Proofs.YtkoijdmlehkhbaaGreatDoor
namespace Go.Proofs.YtkoijdmlehkhbaaGreatDoor
open Go Go.J
attribute [local irreducible] At AtQ AtM AtM1 PR Ct Pu Rd Res.blk Res.own Res.ex RVs RV
namespace Lb
/-- texts no longer than any can be -/
def Mid (l : List Lab) : Prop := ∀ i, i < l.length → l[i]!.n.length ≤ 1000000000000 ∧ l[i]!.v.length ≤ 1000000000000
theorem check {m : Mem} (p : Option Addr) (c : Nat) (l : List Lab) (hb : Mid l) (sl0 : Sl m cells 2 p c l) :
    Rd Tryz.prog 16 #[.slice p l.length c] m [] (.int .i64 (chk l)) := by
  unfold Rd
  by_cases hlen : l.length < 1 ∨ 16 < l.length
  · rw [bad_len hlen]
    refine Ct.enterV (by rfl) Tryz.func16 rfl Tryz.ntmps16 rfl (fun w0 Rest => ?_)
    (repeat' (first | refine zss ?_ | refine zsM ?_ | ((with_reducible apply At.alloc (d := 5)); exact rfl; exact rfl; intro b5) | (refine zsp ?_ ?_ <;> (intro hc; (try simp only [zhcs, reduceCtorEq] at hc); (try (exfalso; first | omega | contradiction | omega | exact absurd rfl hc | exact absurd (by decide) hc))))))
    all_goals ((with_reducible apply At.retB1 (B := [])); exact rfl; exact rfl; exact zml; exact zkp; exact ⟨rfl, rfl, rfl⟩)
  refine Ct.enterV (by rfl) Tryz.func16 rfl Tryz.ntmps16 rfl (fun w0 Rest => ?_)
  (repeat' (first | refine zss ?_ | refine zsM ?_ | ((with_reducible apply At.alloc (d := 5)); exact rfl; exact rfl; intro b5) | (refine zsp ?_ ?_ <;> (intro hc; (try simp only [zhcs, reduceCtorEq] at hc); (try (exfalso; first | omega | contradiction | omega | exact absurd rfl hc | exact absurd (by decide) hc))))))
  all_goals
    (refine At.loopk (σ := Nat) [0, 14, 15] (fun s F0 => (3, .int .i64 (256 - (tot (l.take s) : Int))) :: (16, .int .i64 (s : Int)) :: F0) (fun s => m) (fun s => Rest) (fun s => s ≤ l.length ∧ (∀ i, i < s → okAt l i = true) ∧ tot (l.take s) ≤ 256) (fun s => l.length - s) 0 (by rfl) ?_ zsubs zml zente ?_)
    · exact ⟨Nat.zero_le _, fun i h => absurd h (Nat.not_lt_zero i), by simp [tot]⟩
    rintro j ⟨hj, hn, ht⟩
    by_cases h : j < l.length
    · have hp := name (l[j]!.n)
      have hb1 := (hb j h).1
      have hb2 := (hb j h).2
      have htt := tot_take h
      cases e1 : nameB l[j]!.n with
      | false =>
        rw [e1] at hp
        rw [bad_at h fun k => absurd (k.1.symm.trans e1) (by decide)]
        (repeat' (first | refine zss ?_ | refine zsM ?_ | ((with_reducible first | apply AtM1.callp | apply AtQ.callp | apply At.callp); kernel_rfl; exact rfl; exact rfl; exact hp) | ((with_reducible apply At.alloc (d := 5)); exact rfl; exact rfl; intro b5) | (refine zsp ?_ ?_ <;> (intro hc; (try simp only [zhcs, reduceCtorEq] at hc); (try (exfalso; first | omega | contradiction | omega | exact absurd rfl hc | exact absurd (by decide) hc))))))
        all_goals ((with_reducible apply At.retB1 (B := [])); exact rfl; exact rfl; exact zml; exact zkp; exact ⟨rfl, rfl, rfl⟩)
      | true =>
        rw [e1] at hp
        by_cases e2 : l[j]!.v.length ≤ 128
        · by_cases e3 : tot (l.take (j + 1)) ≤ 256
          · cases j with
            | zero =>
              (repeat' (first | refine zss ?_ | refine zsM ?_ | ((with_reducible first | apply AtM1.callp | apply AtQ.callp | apply At.callp); kernel_rfl; exact rfl; exact rfl; exact hp) | ((with_reducible apply At.alloc (d := 5)); exact rfl; exact rfl; intro b5) | (refine zsp ?_ ?_ <;> (intro hc; (try simp only [zhcs, reduceCtorEq] at hc); (try (exfalso; first | omega | contradiction | omega | exact absurd rfl hc | exact absurd (by decide) hc))))))
              all_goals ((with_reducible refine At.reachk ((0 + 1)) ?_ ?_ ?_ ?_); exact zsubs; exact zml; exact zente; exact ⟨⟨h, fun i hi => by
                obtain rfl : i = 0 := by omega
                exact decide_eq_true ⟨e1, e2, fun k => absurd k (Nat.lt_irrefl 0)⟩, e3⟩, by omega⟩)
            | succ k =>
              have hw : IntKind.wrap .i64 (((k + 1 : Nat) : Int) - 1) = (k : Int) := by rw [show ((k + 1 : Nat) : Int) - 1 = (k : Int) by omega]; exact IntWalk.i64_in _ (by omega)
              cases e4 : ltB l[k]!.n l[k + 1]!.n with
              | true =>
                (repeat' (first | refine zss ?_ | ((first | (with_reducible first | apply At.val | apply AtQ.val)); (first | exact pr_sub (by rfl) (by rfl) hw | exact pr_strgeq (by rfl) (by rfl) e4); exact rfl) | refine zsM ?_ | ((with_reducible first | apply AtM1.callp | apply AtQ.callp | apply At.callp); kernel_rfl; exact rfl; exact rfl; exact hp) | ((with_reducible apply At.alloc (d := 5)); exact rfl; exact rfl; intro b5) | (refine zsp ?_ ?_ <;> (intro hc; (try simp only [zhcs, reduceCtorEq] at hc); (try (exfalso; first | omega | contradiction | omega | exact absurd rfl hc | exact absurd (by decide) hc))))))
                all_goals ((with_reducible refine At.reachk ((k + 1 + 1)) ?_ ?_ ?_ ?_); exact zsubs; exact zml; exact zente; exact ⟨⟨h, fun i hi => by
                  by_cases e : i = k + 1
                  · subst e; exact decide_eq_true ⟨e1, e2, fun _ => e4⟩
                  · exact hn i (by omega), e3⟩, by omega⟩)
              | false =>
                rw [bad_at h fun q => absurd ((q.2.2 (by omega)).symm.trans e4) (by decide)]
                (repeat' (first | refine zss ?_ | ((first | (with_reducible first | apply At.val | apply AtQ.val)); (first | exact pr_sub (by rfl) (by rfl) hw | exact pr_strgeq (by rfl) (by rfl) e4); exact rfl) | refine zsM ?_ | ((with_reducible first | apply AtM1.callp | apply AtQ.callp | apply At.callp); kernel_rfl; exact rfl; exact rfl; exact hp) | ((with_reducible apply At.alloc (d := 5)); exact rfl; exact rfl; intro b5) | (refine zsp ?_ ?_ <;> (intro hc; (try simp only [zhcs, reduceCtorEq] at hc); (try (exfalso; first | omega | contradiction | omega | exact absurd rfl hc | exact absurd (by decide) hc))))))
                all_goals ((with_reducible apply At.retB1 (B := [])); exact rfl; exact rfl; exact zml; exact zkp; exact ⟨rfl, rfl, rfl⟩)
          · rw [bad_tot (show 256 < tot (l.take (j + 1)) by omega)]
            (repeat' (first | refine zss ?_ | refine zsM ?_ | ((with_reducible first | apply AtM1.callp | apply AtQ.callp | apply At.callp); kernel_rfl; exact rfl; exact rfl; exact hp) | ((with_reducible apply At.alloc (d := 5)); exact rfl; exact rfl; intro b5) | (refine zsp ?_ ?_ <;> (intro hc; (try simp only [zhcs, reduceCtorEq] at hc); (try (exfalso; first | omega | contradiction | omega | exact absurd rfl hc | exact absurd (by decide) hc))))))
            all_goals ((with_reducible apply At.retB1 (B := [])); exact rfl; exact rfl; exact zml; exact zkp; exact ⟨rfl, rfl, rfl⟩)
        · rw [bad_at h fun k => e2 k.2.1]
          (repeat' (first | refine zss ?_ | refine zsM ?_ | ((with_reducible first | apply AtM1.callp | apply AtQ.callp | apply At.callp); kernel_rfl; exact rfl; exact rfl; exact hp) | ((with_reducible apply At.alloc (d := 5)); exact rfl; exact rfl; intro b5) | (refine zsp ?_ ?_ <;> (intro hc; (try simp only [zhcs, reduceCtorEq] at hc); (try (exfalso; first | omega | contradiction | omega | exact absurd rfl hc | exact absurd (by decide) hc))))))
          all_goals ((with_reducible apply At.retB1 (B := [])); exact rfl; exact rfl; exact zml; exact zkp; exact ⟨rfl, rfl, rfl⟩)
    · have hlj : l.take j = l := List.take_of_length_le (by omega)
      rw [chk_ok ⟨by omega, by omega, fun i hi => hn i (by omega), by rw [← hlj]; exact ht⟩]
      (repeat' (first | refine zss ?_ | refine zsM ?_ | ((with_reducible apply At.alloc (d := 5)); exact rfl; exact rfl; intro b5) | (refine zsp ?_ ?_ <;> (intro hc; (try simp only [zhcs, reduceCtorEq] at hc); (try (exfalso; first | omega | contradiction | omega | exact absurd rfl hc | exact absurd (by decide) hc))))))
      all_goals ((with_reducible apply At.retB1 (B := [])); exact rfl; exact rfl; exact zml; exact zkp; exact ⟨rfl, rfl, rfl⟩)
theorem few.mid {l : List Lab} (h : few l) : Mid l := fun i hi => by have := h.2 i hi; omega
end Lb
end Go.Proofs.YtkoijdmlehkhbaaGreatDoor
namespace Go.Proofs.YtkoijdmlehkhbaaGreatDoor
open Go Go.J
attribute [local irreducible] At AtQ AtM AtM1 PR Ct Pu Rd Res.blk Res.own Res.ex RVs RV
/-- a series -/
structure Ser where
  (lab : Lst Lab) (last lost mark : Int) (raw : Lst Ev) (t0 t1 t2 : Lst Slot) (op : Slot)
namespace Ser
abbrev cells : Ser → List Value := fun s => s.lab.v :: .int .i64 s.last :: .int .i64 s.lost :: .int .i64 s.mark :: s.raw.v :: s.t0.v :: s.t1.v :: s.t2.v :: Slot.cells s.op
abbrev v (s : Ser) : Value := .agg (cells s).toArray
abbrev z : Ser := ⟨Lst.nil, 0, 0, 0, Lst.nil, Lst.nil, Lst.nil, Lst.nil, Slot.z⟩
instance : Inhabited Ser := ⟨z⟩
instance : Fl cells 23 := ⟨fun _ => rfl, fun x v h => by
  simp at h
  rcases h with rfl | rfl | rfl | rfl | rfl | rfl | rfl | rfl | rfl | rfl | rfl | rfl | rfl | rfl | rfl | rfl | rfl | rfl | rfl | rfl | rfl | rfl | rfl <;> rfl, by decide⟩
/-- what it has lies where it says; its numbers are numbers -/
structure Ok (m : Mem) (s : Ser) : Prop where
  sl : Sl m Lb.cells 2 s.lab.p s.lab.c s.lab.l
  sr : Sl m Ev.cells 4 s.raw.p s.raw.c s.raw.l
  s0 : Sl m Slot.cells 15 s.t0.p s.t0.c s.t0.l
  s1 : Sl m Slot.cells 15 s.t1.p s.t1.c s.t1.l
  s2 : Sl m Slot.cells 15 s.t2.p s.t2.c s.t2.l
  ml : Lb.Mid s.lab.l
  i0 : ∀ x ∈ s.t0.l, Slot.In x
  i1 : ∀ x ∈ s.t1.l, Slot.In x
  i2 : ∀ x ∈ s.t2.l, Slot.In x
  io : Slot.In s.op
  ir : ∀ e ∈ s.raw.l, e.V < 18446744073709551616
  nl : s.lab.l.length ≤ 1000000
  nr : s.raw.l.length ≤ 1000000
  n0 : s.t0.l.length ≤ 1000000
  n1 : s.t1.l.length ≤ 1000000
  n2 : s.t2.l.length ≤ 1000000
  bl : -9223372036854775808 ≤ s.last ∧ s.last ≤ 9223372036854775807
theorem Ok.mono {m m' : Mem} {s : Ser} (h : Ok m s) (hm : m.le m') : Ok m' s := ⟨h.sl.mono hm, h.sr.mono hm, h.s0.mono hm, h.s1.mono hm, h.s2.mono hm, h.ml, h.i0, h.i1, h.i2, h.io, h.ir, h.nl, h.nr, h.n0, h.n1, h.n2, h.bl⟩
end Ser
namespace Se
theorem equalS {m : Mem} (p : Option Addr) (c : Nat) (a : List Slot) (q : Option Addr) (d : Nat) (b : List Slot) (hl : a.length ≤ 1000000) (hlb : b.length ≤ 1000000) (sl0 : Sl m Slot.cells 15 p c a) (sl1 : Sl m Slot.cells 15 q d b) :
    Rd Tryz.prog 66 #[.slice p a.length c, .slice q b.length d] m [] (.bool (decide (a = b))) := by
  unfold Rd
  by_cases hlen : a.length = b.length
  · refine Ct.enterV (by rfl) Tryz.func66 rfl Tryz.ntmps66 rfl (fun w0 Rest => ?_)
    (repeat' (first | refine zss ?_ | refine zsM ?_ | (refine zsp ?_ ?_ <;> (intro hc; (try simp only [zhcs, reduceCtorEq] at hc); (try (exfalso; first | omega | contradiction | omega | exact absurd rfl hc | exact absurd (by decide) hc))))))
    (refine At.loopk (σ := Nat) [0, 1, 12] (fun s F0 => (13, .int .i64 (s : Int)) :: F0) (fun s => m) (fun s => Rest) (fun s => s ≤ a.length ∧ ∀ i, i < s → a[i]! = b[i]!) (fun s => a.length - s) 0 (by rfl) ?_ zsubs zml zente ?_)
    · exact ⟨Nat.zero_le _, fun i h => absurd h (Nat.not_lt_zero i)⟩
    rintro s ⟨hs, hn⟩
    by_cases h : s < a.length
    · by_cases e : a[s]! = b[s]!
      · have hnn : ∀ i, i < s + 1 → a[i]! = b[i]! := fun i hi => by
          by_cases e1 : i = s
          · subst e1; exact e
          · exact hn i (by omega)
        (repeat' (first | refine zss ?_ | ((first | (with_reducible first | apply At.val | apply AtQ.val)); (exact Ti.pr_slne (by rfl) (by rfl)); exact rfl) | refine zsM ?_ | (refine zsp ?_ ?_ <;> (intro hc; (try simp only [zhcs, reduceCtorEq] at hc); (try (exfalso; first | (first | omega | exact absurd e hc) | contradiction | omega | exact absurd rfl hc | exact absurd (by decide) hc))))))
        all_goals ((with_reducible refine At.reachk ((s + 1)) ?_ ?_ ?_ ?_); exact zsubs; exact zml; exact zente; exact ⟨⟨h, hnn⟩, by omega⟩)
      · rw [decide_eq_false (show ¬ a = b from fun h => e (by rw [h]))]
        (repeat' (first | refine zss ?_ | ((first | (with_reducible first | apply At.val | apply AtQ.val)); (exact Ti.pr_slne (by rfl) (by rfl)); exact rfl) | refine zsM ?_ | (refine zsp ?_ ?_ <;> (intro hc; (try simp only [zhcs, reduceCtorEq] at hc); (try (exfalso; first | (first | omega | exact absurd hc e) | contradiction | omega | exact absurd rfl hc | exact absurd (by decide) hc))))))
        all_goals ((with_reducible apply At.retB1 (B := [])); exact rfl; exact rfl; exact zml; exact zkp; exact ⟨rfl, rfl, rfl⟩)
    · rw [decide_eq_true (show a = b from Ls.ext! hlen fun i hi => hn i (by omega))]
      (repeat' (first | refine zss ?_ | refine zsM ?_ | (refine zsp ?_ ?_ <;> (intro hc; (try simp only [zhcs, reduceCtorEq] at hc); (try (exfalso; first | omega | contradiction | omega | exact absurd rfl hc | exact absurd (by decide) hc))))))
      all_goals ((with_reducible apply At.retB1 (B := [])); exact rfl; exact rfl; exact zml; exact zkp; exact ⟨rfl, rfl, rfl⟩)
  · rw [decide_eq_false (show ¬ a = b from fun h => hlen (by rw [h]))]
    refine Ct.enterV (by rfl) Tryz.func66 rfl Tryz.ntmps66 rfl (fun w0 Rest => ?_)
    (repeat' (first | refine zss ?_ | refine zsM ?_ | (refine zsp ?_ ?_ <;> (intro hc; (try simp only [zhcs, reduceCtorEq] at hc); (try (exfalso; first | omega | contradiction | omega | exact absurd rfl hc | exact absurd (by decide) hc))))))
    all_goals ((with_reducible apply At.retB1 (B := [])); exact rfl; exact rfl; exact zml; exact zkp; exact ⟨rfl, rfl, rfl⟩)
abbrev bi (b : Nat) (i : Int) : List Res := [.blk b 2 [.int .i64 i]]
def bh1 (i : Int) (s : Slot) : Bool := decide (0 < s.c.n ∧ i ≤ s.w)
/-- a tier has a slot of a window, or one behind it -/
def bhd (l : List Slot) (i : Int) : Bool := l.any (bh1 i)
theorem bhd_no {l : List Slot} {i : Int} (h : ∀ k, k < l.length → bh1 i l[k]! = false) : bhd l i = false := by
  unfold bhd
  rw [List.any_eq_false]
  intro x hx
  obtain ⟨k, hk, e⟩ := List.mem_iff_getElem.1 hx
  have := h k hk
  rw [getElem!_pos l k hk, e] at this
  rw [this]
  decide
theorem bhd_yes {l : List Slot} {i : Int} {k : Nat} (hk : k < l.length) (h : bh1 i l[k]! = true) : bhd l i = true := by
  unfold bhd
  rw [List.any_eq_true]
  exact ⟨l[k]!, Ls.mem! hk, h⟩
theorem behind1 {m : Mem} (b : Nat) (s : Slot) (i : Int) (q : Bool) (h : bh1 i s = q) : Ct Tryz.prog 202 #[s.v, pt b] m (bi b i) (fun v m' B => v = .bool q ∧ m = m' ∧ B = bi b i) := by
  subst h
  unfold bh1
  refine Ct.enterV (by rfl) Tryz.func202 rfl Tryz.ntmps202 rfl (fun w0 Rest => ?_)
  (repeat' (first | refine zss ?_ | refine zs0 ?_ | ((with_reducible apply At.box (d := 2)); exact rfl; exact rfl; exact rfl; intro b2) | (refine zsp ?_ ?_ <;> (intro hc; (try simp only [zhcs, reduceCtorEq] at hc); (try (exfalso; first | contradiction | omega | exact absurd rfl hc | exact absurd (by decide) hc))))))
  all_goals ((with_reducible apply At.retB1 (B := bi b i)); exact rfl; exact rfl; exact zml; exact zkp; exact ⟨congrArg Value.bool (by simp [hc]), rfl, rfl⟩)
theorem indexB {m : Mem} (b : Nat) (p : Option Addr) (c : Nat) (l : List Slot) (i : Int) (hl : l.length ≤ 1000000) (sl0 : Sl m Slot.cells 15 p c l) :
    Ct Tryz.prog 224 #[.slice p l.length c, .func (.func 202) #[] #[pt b]] m (bi b i) (fun v m' B => m = m' ∧ B = bi b i ∧
      ((v = .int .i64 (-1) ∧ bhd l i = false) ∨ (∃ k : Nat, v = .int .i64 (k : Int) ∧ bhd l i = true))) := by
  refine Ct.enterV (by rfl) Tryz.func224 rfl Tryz.ntmps224 rfl (fun w0 Rest => ?_)
  (repeat' (first | refine zss ?_ | refine zsM ?_ | (refine zsp ?_ ?_ <;> (intro hc; (try simp only [zhcs, reduceCtorEq] at hc); (try (exfalso; first | contradiction | omega | exact absurd rfl hc | exact absurd (by decide) hc))))))
  (refine At.loopk (σ := Nat) [0, 1, 7] (fun s F0 => (8, .int .i64 (s : Int)) :: F0) (fun s => m) (fun s => .blk b 2 [.int .i64 i] :: Rest) (fun s => s ≤ l.length ∧ ∀ k, k < s → bh1 i l[k]! = false) (fun s => l.length - s) 0 (by rfl) ?_ zsubs zml zente ?_)
  · exact ⟨Nat.zero_le _, fun i h => absurd h (Nat.not_lt_zero i)⟩
  rintro j ⟨hs, hn⟩
  by_cases h : j < l.length
  · cases e : bh1 i l[j]!
    · have hnn : ∀ k, k < j + 1 → bh1 i l[k]! = false := fun k hk => by
        by_cases e1 : k = j
        · subst e1; exact e
        · exact hn k (by omega)
      (repeat' (first | refine zss ?_ | refine zsM ?_ | ((with_reducible apply At.callf); exact rfl; kernel_rfl; exact rfl; exact rfl; exact behind1 b (l[j]!) i false e; exact ztk; rintro v' m' B' hm' ⟨rfl, rfl, rfl⟩; (try replace sl0 := sl0.mono hm')) | (refine zsp ?_ ?_ <;> (intro hc; (try simp only [zhcs, reduceCtorEq] at hc); (try (exfalso; first | omega | contradiction | omega | exact absurd rfl hc | exact absurd (by decide) hc))))))
      all_goals ((with_reducible refine At.reachk ((j + 1)) ?_ ?_ ?_ ?_); exact zsubs; exact zml; exact zente; exact ⟨⟨h, hnn⟩, by omega⟩)
    · (repeat' (first | refine zss ?_ | refine zsM ?_ | ((with_reducible apply At.callf); exact rfl; kernel_rfl; exact rfl; exact rfl; exact behind1 b (l[j]!) i true e; exact ztk; rintro v' m' B' hm' ⟨rfl, rfl, rfl⟩; (try replace sl0 := sl0.mono hm')) | (refine zsp ?_ ?_ <;> (intro hc; (try simp only [zhcs, reduceCtorEq] at hc); (try (exfalso; first | omega | contradiction | omega | exact absurd rfl hc | exact absurd (by decide) hc))))))
      all_goals ((with_reducible apply At.retB1 (B := bi b i)); exact rfl; exact rfl; exact zml; exact zkp; exact ⟨rfl, rfl, .inr ⟨j, rfl, bhd_yes h e⟩⟩)
  · (repeat' (first | refine zss ?_ | refine zsM ?_ | (refine zsp ?_ ?_ <;> (intro hc; (try simp only [zhcs, reduceCtorEq] at hc); (try (exfalso; first | omega | contradiction | omega | exact absurd rfl hc | exact absurd (by decide) hc))))))
    all_goals ((with_reducible apply At.retB1 (B := bi b i)); exact rfl; exact rfl; exact zml; exact zkp; exact ⟨rfl, rfl, .inl ⟨rfl, bhd_no fun k hk => hn k (by omega)⟩⟩)
theorem containsB {m : Mem} (b : Nat) (p : Option Addr) (c : Nat) (l : List Slot) (i : Int) (hl : l.length ≤ 1000000) (sl0 : Sl m Slot.cells 15 p c l) :
    Ct Tryz.prog 201 #[.slice p l.length c, .func (.func 202) #[] #[pt b]] m (bi b i) (fun v m' B => v = .bool (bhd l i) ∧ m = m' ∧ B = bi b i) := by
  refine Ct.enterV (by rfl) Tryz.func201 rfl Tryz.ntmps201 rfl (fun w0 Rest => ?_)
  (repeat' (first | refine zss ?_ | refine zsM ?_ | ((with_reducible first | apply At.c1 | apply At.c0); exact rfl; exact rfl; exact indexB b p c l i hl sl0; exact ztk; kernel_rfl; rintro v' m' B' hm' ⟨rfl, rfl, hv⟩; (try replace sl0 := sl0.mono hm'); (try (have hq0 : hm' = Mem.le_refl _ := rfl; clear hq0 hm'))) | (rcases hv with ⟨rfl, hv⟩ | ⟨k, rfl, hv⟩) | (refine zsp ?_ ?_ <;> (intro hc; (try simp only [zhcs, reduceCtorEq] at hc); (try (exfalso; first | omega | contradiction | omega | exact absurd rfl hc | exact absurd (by decide) hc))))))
  all_goals ((with_reducible apply At.retB1 (B := bi b i)); exact rfl; exact rfl; exact zml; exact zkp; exact ⟨congrArg Value.bool (by rw [hv]; first | rfl | (simp <;> omega)), rfl, rfl⟩)
theorem behind {m : Mem} (p : Option Addr) (c : Nat) (l : List Slot) (i : Int) (hl : l.length ≤ 1000000) (sl0 : Sl m Slot.cells 15 p c l) :
    Rd Tryz.prog 163 #[.slice p l.length c, .int .i64 i] m [] (.bool (bhd l i)) := by
  unfold Rd
  refine Ct.enterV (by rfl) Tryz.func163 rfl Tryz.ntmps163 rfl (fun w0 Rest => ?_)
  (repeat' (first | refine zss ?_ | refine zsM ?_ | ((with_reducible first | apply At.c1 | apply At.c0); exact rfl; exact rfl; exact containsB _ p c l i hl sl0; exact ztk; kernel_rfl; rintro v' m' B' hm' ⟨rfl, rfl, rfl⟩; (try replace sl0 := sl0.mono hm'); (try (have hq0 : hm' = Mem.le_refl _ := rfl; clear hq0 hm'))) | ((with_reducible apply At.box (d := 3)); exact rfl; exact rfl; exact rfl; intro b3) | (refine zsp ?_ ?_ <;> (intro hc; (try simp only [zhcs, reduceCtorEq] at hc); (try (exfalso; first | contradiction | omega | exact absurd rfl hc | exact absurd (by decide) hc))))))
  all_goals ((with_reducible apply At.retB1 (B := [])); exact rfl; exact rfl; exact zml; exact zkp; exact ⟨rfl, rfl, rfl⟩)
end Se
end Go.Proofs.YtkoijdmlehkhbaaGreatDoor

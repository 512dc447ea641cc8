/- Part 8 of what the law's proof needs: rules of the walk, contracts of functions, plain laws. No condition. -/
import Derived.Test.YtecifniognbomaaGreatAuTZ7
/- Configurations: which are right. -/
set_option linter.unusedSimpArgs false
set_option linter.unusedVariables false
set_option linter.unusedSectionVars false
set_option maxRecDepth 20000
set_option maxHeartbeats 4000000
namespace Go.Proofs.YtecifniognbomaaGreat
open Go Go.J
attribute [local irreducible] At AtQ AtM AtM1 PR Ct Pu Rd Res.blk Res.own Res.ex RVs RV
namespace Conf
def okB (L : List Int) (s : Nat) : Prop := okA L 3 ∧ (1 < s → L[2]! % L[1]! = 0 ∧ L[2]! / L[1]! ≤ L[4]!) ∧ (2 < s → L[3]! % L[2]! = 0 ∧ L[3]! / L[2]! ≤ L[5]!)
instance (L : List Int) (s : Nat) : Decidable (okB L s) := by unfold okB; infer_instance
def okC (L : List Int) : Prop := okB L 3 ∧ plc L < L[8]!
instance (L : List Int) : Decidable (okC L) := by unfold okC; infer_instance
def chk (L : List Int) : Int := if okC L then 0 else 2
theorem okA_zero (r a b d x y w c g : Int) : okA [r, a, b, d, x, y, w, c, g] 0 ↔ (1 ≤ r ∧ r ≤ 4096) ∧ (1 ≤ c ∧ c ≤ 65536) ∧ (1 ≤ g ∧ g ≤ 8192) :=
  ⟨fun h => ⟨h.1, h.2.1, h.2.2.1⟩, fun h => ⟨h.1, h.2.1, h.2.2, fun i hi => absurd hi (Nat.not_lt_zero i)⟩⟩
theorem okB_one (L : List Int) : okB L 1 ↔ okA L 3 := ⟨fun h => h.1, fun h => ⟨h, fun h => absurd h (by decide), fun h => absurd h (by decide)⟩⟩
theorem okB_two (r a b d x y w c g : Int) : okB [r, a, b, d, x, y, w, c, g] 2 ↔ okB [r, a, b, d, x, y, w, c, g] 1 ∧ (b % a = 0 ∧ b / a ≤ x) :=
  ⟨fun h => ⟨(okB_one _).2 h.1, h.2.1 (by decide)⟩, fun h => ⟨h.1.1, fun _ => h.2, fun h => absurd h (by decide)⟩⟩
theorem okB_three (r a b d x y w c g : Int) : okB [r, a, b, d, x, y, w, c, g] 3 ↔ okB [r, a, b, d, x, y, w, c, g] 2 ∧ (d % b = 0 ∧ d / b ≤ y) :=
  ⟨fun h => ⟨⟨h.1, fun _ => h.2.1 (by decide), fun h => absurd h (by decide)⟩, h.2.2 (by decide)⟩, fun h => ⟨h.1.1, fun _ => h.1.2.1 (by decide), fun _ => h.2⟩⟩
theorem and_false' {p q r : Prop} [Decidable r] (h : r ↔ p ∧ q) (hp : ¬ p) : false = decide r := (decide_eq_false fun hr => hp (h.1 hr).1).symm
theorem and_right' {p q r : Prop} [Decidable r] [Decidable q] (h : r ↔ p ∧ q) (hp : p) : decide q = decide r := decide_eq_decide.2 ⟨fun hq => h.2 ⟨hp, hq⟩, fun hr => (h.1 hr).2⟩
theorem and_mid {p q s r : Prop} [Decidable r] (h : r ↔ p ∧ q ∧ s) (hq : ¬ q) : false = decide r := (decide_eq_false fun hr => hq (h.1 hr).2.1).symm
theorem and_last {p q s r : Prop} [Decidable r] [Decidable s] (h : r ↔ p ∧ q ∧ s) (hp : p) (hq : q) : decide s = decide r := decide_eq_decide.2 ⟨fun hs => h.2 ⟨hp, hq, hs⟩, fun hr => (h.1 hr).2.2⟩
set_option maxHeartbeats 2000000 in
theorem check (L : List Int) (hL : L.length = 9) : Pu Tryz.prog 28 #[cv L] (.int .i64 (chk L)) := Pu.intro fun m => by
  have hpl := place L hL
  obtain ⟨r, a, b, d, x, y, w, c, g, rfl⟩ := nine hL
  have z0 := okA_zero r a b d x y w c g
  have a1 : okA [r, a, b, d, x, y, w, c, g] 1 ↔ okA [r, a, b, d, x, y, w, c, g] 0 ∧ (1 ≤ a ∧ a ≤ 1099511627776) ∧ (1 ≤ x ∧ x ≤ 4096) := okA_succ _ 0
  have a2 : okA [r, a, b, d, x, y, w, c, g] 2 ↔ okA [r, a, b, d, x, y, w, c, g] 1 ∧ (1 ≤ b ∧ b ≤ 1099511627776) ∧ (1 ≤ y ∧ y ≤ 4096) := okA_succ _ 1
  have a3 : okA [r, a, b, d, x, y, w, c, g] 3 ↔ okA [r, a, b, d, x, y, w, c, g] 2 ∧ (1 ≤ d ∧ d ≤ 1099511627776) ∧ (1 ≤ w ∧ w ≤ 4096) := okA_succ _ 2
  have ob1 := okB_one [r, a, b, d, x, y, w, c, g]
  have ob2 := okB_two r a b d x y w c g
  have ob3 := okB_three r a b d x y w c g
  have hch : chk [r, a, b, d, x, y, w, c, g] = if okB [r, a, b, d, x, y, w, c, g] 3 ∧ plc [r, a, b, d, x, y, w, c, g] < g then 0 else 2 := rfl
  unfold cv at hpl ⊢
  simp only [List.map] at hpl ⊢
  generalize hL0 : [r, a, b, d, x, y, w, c, g] = L at z0 a1 a2 a3 ob1 ob2 ob3 hch hpl hL ⊢
  have v10 : IntKind.wrap .i64 (((1 : Nat) : Int) - 1) = ((0 : Nat) : Int) := rfl
  have v21 : IntKind.wrap .i64 (((2 : Nat) : Int) - 1) = ((1 : Nat) : Int) := rfl
  have hno : ∀ s, ¬ okB L s → chk L = 2 := fun s hs => by
    rw [hch]
    exact if_neg (fun h => hs ⟨h.1.1, fun _ => h.1.2.1 (by decide), fun _ => h.1.2.2 (by decide)⟩)
  have h2 : g ≤ plc L → chk L = 2 := fun h => by
    rw [hch]
    exact if_neg (fun hh => absurd hh.2 (by omega))
  have h0 : okB L 3 → ¬ g ≤ plc L → chk L = 0 := fun h1 h2 => by
    rw [hch]
    exact if_pos ⟨h1, by omega⟩
  have hbd : okA L 3 → (1 ≤ a ∧ a ≤ 1099511627776) ∧ (1 ≤ b ∧ b ≤ 1099511627776) ∧ (1 ≤ d ∧ d ≤ 1099511627776) := fun h => ⟨(a1.1 (a2.1 (a3.1 h).1).1).2.1, (a2.1 (a3.1 h).1).2.1, (a3.1 h).2.1⟩
  refine Ct.enterV (by rfl) Tryz.func28 rfl Tryz.ntmps28 rfl (fun w0 Rest => ?_)
  (repeat' (first | refine zss ?_ | refine zs0 ?_ | ((with_reducible first | apply AtM1.callp | apply AtQ.callp | apply At.callp); kernel_rfl; exact rfl; exact rfl; exact in_ _ _ _) | ((with_reducible apply At.box (d := 1)); exact rfl; exact rfl; exact rfl; intro b1) | (refine zsp ?_ ?_ <;> (intro hc; (try simp only [zhcs, reduceCtorEq] at hc); (try (exfalso; first | omega | contradiction | omega | exact absurd rfl hc | exact absurd (by decide) hc))))))
  all_goals (refine At.note (t := 3) (v' := .bool (decide (okA L 0))) (by rfl) (congrArg Value.bool (by first | exact and_false' z0 (by assumption) | exact and_mid z0 (by assumption) | exact and_last z0 (by assumption) (by assumption))) ?_)
  all_goals (refine At.loopk (σ := Nat) [1] (fun s F0 => (19, .int .i64 (s : Int)) :: (3, .bool (decide (okA L s))) :: F0) (fun s => m) (fun s => .blk b1 25 [gi r, gi a, gi b, gi d, gi x, gi y, gi w, gi c, gi g] :: Rest) (fun s => s ≤ 3) (fun s => 3 - s) 0 (by rfl) ?_ zsubs zml zente ?_)
  all_goals try exact Nat.zero_le _
  all_goals (intro s hs; rcases (show s = 0 ∨ s = 1 ∨ s = 2 ∨ s = 3 by omega) with rfl | rfl | rfl | rfl)
  all_goals (repeat' (first | refine zss ?_ | ((first | (with_reducible first | apply At.val | apply AtQ.val)); (exact pr_indexArr (by rfl) (by rfl) (by rfl) (by rfl) (by decide)); exact rfl) | refine zs0 ?_ | ((with_reducible first | apply AtM1.callp | apply AtQ.callp | apply At.callp); kernel_rfl; exact rfl; exact rfl; exact in64 _ _ _) | ((with_reducible first | apply AtM1.callp | apply AtQ.callp | apply At.callp); kernel_rfl; exact rfl; exact rfl; exact in_ _ _ _) | ((with_reducible apply At.box (d := 1)); exact rfl; exact rfl; exact rfl; intro b1) | (refine zsp ?_ ?_ <;> (intro hc; (try simp only [zhcs, reduceCtorEq] at hc); (try (exfalso; first | omega | contradiction | omega | exact absurd rfl hc | exact absurd (by decide) hc))))))
  all_goals try first
    | (refine At.note (t := 3) (v' := .bool (decide (okA L 1))) (by rfl) (congrArg Value.bool (by first | exact and_false' a1 (by assumption) | exact and_mid a1 (by assumption) | exact and_last a1 (by assumption) (by assumption))) ?_; ((with_reducible refine At.reachk (1) ?_ ?_ ?_ ?_); exact zsubs; exact zml; exact zente; exact ⟨by decide, by decide⟩))
    | (refine At.note (t := 3) (v' := .bool (decide (okA L 2))) (by rfl) (congrArg Value.bool (by first | exact and_false' a2 (by assumption) | exact and_mid a2 (by assumption) | exact and_last a2 (by assumption) (by assumption))) ?_; ((with_reducible refine At.reachk (2) ?_ ?_ ?_ ?_); exact zsubs; exact zml; exact zente; exact ⟨by decide, by decide⟩))
    | (refine At.note (t := 3) (v' := .bool (decide (okA L 3))) (by rfl) (congrArg Value.bool (by first | exact and_false' a3 (by assumption) | exact and_mid a3 (by assumption) | exact and_last a3 (by assumption) (by assumption))) ?_; ((with_reducible refine At.reachk (3) ?_ ?_ ?_ ?_); exact zsubs; exact zml; exact zente; exact ⟨by decide, by decide⟩))
  all_goals (refine At.note (t := 3) (v' := .bool (decide (okB L 1))) (by rfl) (congrArg Value.bool (decide_eq_decide.2 ob1.symm)) ?_)
  all_goals (refine At.loopk (σ := Nat) [1] (fun s F0 => (5, .int .i64 (s : Int)) :: (3, .bool (decide (okB L s))) :: F0) (fun s => m) (fun s => .blk b1 25 [gi r, gi a, gi b, gi d, gi x, gi y, gi w, gi c, gi g] :: Rest) (fun s => 1 ≤ s ∧ s ≤ 3) (fun s => 3 - s) 1 (by rfl) ?_ zsubs zml zente ?_)
  all_goals try exact ⟨by decide, by decide⟩
  all_goals (rintro s ⟨hs, hs2⟩; by_cases hB : okB L s)
  all_goals (try have hx := hbd hB.1)
  all_goals (try have hv := hno s hB)
  all_goals (rcases (show s = 1 ∨ s = 2 ∨ s = 3 by omega) with rfl | rfl | rfl)
  all_goals (repeat' (first | refine zss ?_ | ((first | (with_reducible first | apply At.val | apply AtQ.val)); (first | exact pr_sub (by rfl) (by rfl) v10 | exact pr_sub (by rfl) (by rfl) v21 | exact pr_indexArr (by rfl) (by rfl) (by rfl) (by rfl) (by decide)); exact rfl) | refine zs0 ?_ | ((with_reducible first | apply AtM1.callp | apply AtQ.callp | apply At.callp); kernel_rfl; exact rfl; exact rfl; exact hpl hB.1) | ((with_reducible apply At.box (d := 1)); exact rfl; exact rfl; exact rfl; intro b1) | (refine zsp ?_ ?_ <;> (intro hc; (try simp only [zhcs, reduceCtorEq] at hc); (try (exfalso; first | omega | contradiction | omega | exact absurd rfl hc | exact absurd (by decide) hc))))))
  all_goals first
    | (refine At.note (t := 3) (v' := .bool (decide (okB L 2))) (by rfl) (congrArg Value.bool (by first | exact and_false' ob2 (by assumption) | exact and_mid ob2 (by assumption) | exact and_last ob2 (by assumption) (by assumption))) ?_; ((with_reducible refine At.reachk (2) ?_ ?_ ?_ ?_); exact zsubs; exact zml; exact zente; exact ⟨⟨by decide, by decide⟩, by decide⟩))
    | (refine At.note (t := 3) (v' := .bool (decide (okB L 3))) (by rfl) (congrArg Value.bool (by first | exact and_false' ob3 (by assumption) | exact and_mid ob3 (by assumption) | exact and_last ob3 (by assumption) (by assumption))) ?_; ((with_reducible refine At.reachk (3) ?_ ?_ ?_ ?_); exact zsubs; exact zml; exact zente; exact ⟨⟨by decide, by decide⟩, by decide⟩))
    | ((with_reducible apply At.retB1 (B := [])); exact rfl; exact rfl; exact zml; exact zkp; exact ⟨congrArg (Value.int .i64) (Eq.symm (by first | assumption | exact h2 (by assumption) | exact h0 hB (by assumption))), rfl, rfl⟩)
end Conf
end Go.Proofs.YtecifniognbomaaGreat
/- Right configurations: places, the index, home, the size. -/
set_option linter.unusedSimpArgs false
set_option linter.unusedVariables false
set_option linter.unusedSectionVars false
set_option maxRecDepth 20000
set_option maxHeartbeats 4000000
namespace Go.Proofs.YtecifniognbomaaGreat
open Go Go.J
attribute [local irreducible] At AtQ AtM AtM1 PR Ct Pu Rd Res.blk Res.own Res.ex RVs RV
namespace Conf
abbrev kv (r a b d x y w c g : Int) : Value := .agg #[gi r, gi a, gi b, gi d, gi x, gi y, gi w, gi c, gi g]
/-- what a right one is -/
structure Ok (r a b d x y w c g : Int) : Prop where
  hr : 1 ≤ r ∧ r ≤ 4096
  ha : 1 ≤ a ∧ a ≤ 1099511627776
  hb : 1 ≤ b ∧ b ≤ 1099511627776
  hd : 1 ≤ d ∧ d ≤ 1099511627776
  hx : 1 ≤ x ∧ x ≤ 4096
  hy : 1 ≤ y ∧ y ≤ 4096
  hw : 1 ≤ w ∧ w ≤ 4096
  hc : 1 ≤ c ∧ c ≤ 65536
  hg : 1 ≤ g ∧ g ≤ 8192
  hba : b % a = 0 ∧ b / a ≤ x
  hdb : d % b = 0 ∧ d / b ≤ y
  hp : 1 + (r + 16 - 1) / 16 + (x + 4 - 1) / 4 + (y + 4 - 1) / 4 + (w + 4 - 1) / 4 < g
theorem okC_iff (r a b d x y w c g : Int) : okC [r, a, b, d, x, y, w, c, g] ↔ Ok r a b d x y w c g := by
  constructor
  · rintro ⟨⟨⟨h1, h2, h3, h4⟩, h5, h6⟩, h7⟩
    obtain ⟨a1, x1⟩ := h4 0 (by decide)
    obtain ⟨b1, y1⟩ := h4 1 (by decide)
    obtain ⟨d1, w1⟩ := h4 2 (by decide)
    exact ⟨h1, a1, b1, d1, x1, y1, w1, h2, h3, h5 (by decide), h6 (by decide), h7⟩
  · intro h
    refine ⟨⟨⟨h.hr, h.hc, h.hg, fun i hi => ?_⟩, fun _ => h.hba, fun _ => h.hdb⟩, h.hp⟩
    rcases (show i = 0 ∨ i = 1 ∨ i = 2 by omega) with rfl | rfl | rfl
    · exact ⟨h.ha, h.hx⟩
    · exact ⟨h.hb, h.hy⟩
    · exact ⟨h.hd, h.hw⟩
instance (r a b d x y w c g : Int) : Decidable (Ok r a b d x y w c g) := decidable_of_iff _ (okC_iff r a b d x y w c g)
section
variable {r a b d x y w c g : Int}
abbrev pl (r x y w : Int) : Int := 1 + (r + 16 - 1) / 16 + (x + 4 - 1) / 4 + (y + 4 - 1) / 4 + (w + 4 - 1) / 4
theorem checkK (h : Ok r a b d x y w c g) : Pu Tryz.prog 28 #[kv r a b d x y w c g] (.int .i64 0) := by
  have := check [r, a, b, d, x, y, w, c, g] rfl
  rw [show chk [r, a, b, d, x, y, w, c, g] = 0 from if_pos ((okC_iff ..).2 h)] at this
  exact this
theorem checkN (h : ¬ Ok r a b d x y w c g) : Pu Tryz.prog 28 #[kv r a b d x y w c g] (.int .i64 2) := by
  have := check [r, a, b, d, x, y, w, c, g] rfl
  rw [show chk [r, a, b, d, x, y, w, c, g] = 2 from if_neg (fun hh => h ((okC_iff ..).1 hh))] at this
  exact this
theorem placeK (h : Ok r a b d x y w c g) : Pu Tryz.prog 48 #[kv r a b d x y w c g] (.int .i64 (pl r x y w)) :=
  place [r, a, b, d, x, y, w, c, g] rfl ((okC_iff ..).2 h).1.1
theorem placeF (h : Ok r a b d x y w c g) : Pu Tryz.prog 30 #[kv r a b d x y w c g] (.int .i64 (pl r x y w)) := Pu.intro fun m => by
  have k1 := checkK h
  have k2 := placeK h
  generalize pl r x y w = q at k2
  refine Ct.enterV (by rfl) Tryz.func30 rfl Tryz.ntmps30 rfl (fun w0 Rest => ?_)
  (repeat' (first | refine zss ?_ | refine zs0 ?_ | ((with_reducible first | apply AtM1.callp | apply AtQ.callp | apply At.callp); kernel_rfl; exact rfl; exact rfl; exact k1) | ((with_reducible first | apply AtM1.callp | apply AtQ.callp | apply At.callp); kernel_rfl; exact rfl; exact rfl; exact k2) | ((with_reducible apply At.box (d := 1)); exact rfl; exact rfl; exact rfl; intro b1) | (refine zsp ?_ ?_ <;> (intro hc; (try simp only [zhcs, reduceCtorEq] at hc); (try (exfalso; first | omega | contradiction | omega | exact absurd rfl hc | exact absurd (by decide) hc))))))
  all_goals ((with_reducible apply At.retB1 (B := [])); exact rfl; exact rfl; exact zml; exact zkp; exact ⟨rfl, rfl, rfl⟩)
abbrev ixv (g : Int) : Int := (g + 120 - 1) / 120
theorem indexF (h : Ok r a b d x y w c g) : Pu Tryz.prog 49 #[kv r a b d x y w c g] (.int .i64 (ixv g)) := Pu.intro fun m => by
  have k1 := checkK h
  have k2 := parts g 120 h.hg.1 (by have := h.hg; omega) (by decide) (by decide)
  refine Ct.enterV (by rfl) Tryz.func49 rfl Tryz.ntmps49 rfl (fun w0 Rest => ?_)
  (repeat' (first | refine zss ?_ | refine zs0 ?_ | ((with_reducible first | apply AtM1.callp | apply AtQ.callp | apply At.callp); kernel_rfl; exact rfl; exact rfl; exact k1) | ((with_reducible first | apply AtM1.callp | apply AtQ.callp | apply At.callp); kernel_rfl; exact rfl; exact rfl; exact k2) | ((with_reducible apply At.box (d := 1)); exact rfl; exact rfl; exact rfl; intro b1) | (refine zsp ?_ ?_ <;> (intro hc; (try simp only [zhcs, reduceCtorEq] at hc); (try (exfalso; first | omega | contradiction | omega | exact absurd rfl hc | exact absurd (by decide) hc))))))
  all_goals ((with_reducible apply At.retB1 (B := [])); exact rfl; exact rfl; exact zml; exact zkp; exact ⟨rfl, rfl, rfl⟩)
abbrev hmv (g : Int) : Int := 1 + ixv g + g
theorem homeF (h : Ok r a b d x y w c g) : Pu Tryz.prog 29 #[kv r a b d x y w c g] (.int .i64 (hmv g)) := Pu.intro fun m => by
  have k1 := checkK h
  have k2 := indexF h
  have hg := h.hg
  have hq : 0 ≤ ixv g ∧ ixv g ≤ 100 := by show 0 ≤ (g + 120 - 1) / 120 ∧ (g + 120 - 1) / 120 ≤ 100; omega
  generalize hi : ixv g = q at k2 hq
  refine Ct.enterV (by rfl) Tryz.func29 rfl Tryz.ntmps29 rfl (fun w0 Rest => ?_)
  (repeat' (first | refine zss ?_ | refine zs0 ?_ | ((with_reducible first | apply AtM1.callp | apply AtQ.callp | apply At.callp); kernel_rfl; exact rfl; exact rfl; exact k1) | ((with_reducible first | apply AtM1.callp | apply AtQ.callp | apply At.callp); kernel_rfl; exact rfl; exact rfl; exact k2) | ((with_reducible apply At.box (d := 1)); exact rfl; exact rfl; exact rfl; intro b1) | (refine zsp ?_ ?_ <;> (intro hc; (try simp only [zhcs, reduceCtorEq] at hc); (try (exfalso; first | omega | contradiction | omega | exact absurd rfl hc | exact absurd (by decide) hc))))))
  all_goals ((with_reducible apply At.retB1 (B := [])); exact rfl; exact rfl; exact zml; exact zkp; exact ⟨by rw [← hi], rfl, rfl⟩)
def szv (r x y w c g : Int) : Int := hmv g + 1 + c * pl r x y w
theorem sizeF (h : Ok r a b d x y w c g) : Pu Tryz.prog 22 #[kv r a b d x y w c g] (if 16777216 < szv r x y w c g then .tuple #[.int .i64 0, .int .i64 1] else .tuple #[.int .i64 (szv r x y w c g), .int .i64 0]) := Pu.intro fun m => by
  have k1 := checkK h
  have k2 := homeF h
  have k3 := placeF h
  have hg := h.hg
  have hc1 := h.hc
  have hr := h.hr
  have hx := h.hx
  have hy := h.hy
  have hw := h.hw
  have hp := h.hp
  have hq : 0 ≤ hmv g ∧ hmv g ≤ 9000 := by show 0 ≤ 1 + (g + 120 - 1) / 120 + g ∧ 1 + (g + 120 - 1) / 120 + g ≤ 9000; omega
  have hP : 0 ≤ pl r x y w ∧ pl r x y w ≤ 8192 := by
    refine ⟨?_, by have : pl r x y w < g := hp; omega⟩
    show 0 ≤ 1 + (r + 16 - 1) / 16 + (x + 4 - 1) / 4 + (y + 4 - 1) / 4 + (w + 4 - 1) / 4
    omega
  have hs : szv r x y w c g = hmv g + 1 + c * pl r x y w := rfl
  clear hp
  generalize hmv g = H at k2 hq hs
  generalize pl r x y w = P at k3 hP hs
  have hm : 0 ≤ c * P ∧ c * P ≤ 65536 * 8192 := ⟨Int.mul_nonneg (by omega) hP.1, Int.mul_le_mul hc1.2 hP.2 hP.1 (by decide)⟩
  obtain ⟨M, eM⟩ : ∃ M, c * P = M := ⟨_, rfl⟩
  rw [hs, eM]
  rw [eM] at hm
  have hmul : IntKind.wrap .i64 (c * P) = M := by rw [eM]; exact IntWalk.i64_in _ (by omega)
  by_cases hb : 16777216 < H + 1 + M
  · rw [if_pos hb]
    refine Ct.enterV (by rfl) Tryz.func22 rfl Tryz.ntmps22 rfl (fun w0 Rest => ?_)
    (repeat' (first | refine zss ?_ | ((first | (with_reducible first | apply At.val | apply AtQ.val)); (exact pr_mul (by rfl) (by rfl) hmul); exact rfl) | refine zs0 ?_ | ((with_reducible first | apply AtM1.callp | apply AtQ.callp | apply At.callp); kernel_rfl; exact rfl; exact rfl; exact k1) | ((with_reducible first | apply AtM1.callp | apply AtQ.callp | apply At.callp); kernel_rfl; exact rfl; exact rfl; exact k2) | ((with_reducible first | apply AtM1.callp | apply AtQ.callp | apply At.callp); kernel_rfl; exact rfl; exact rfl; exact k3) | ((with_reducible apply At.box (d := 1)); exact rfl; exact rfl; exact rfl; intro b1) | (refine zsp ?_ ?_ <;> (intro hc; (try simp only [zhcs, reduceCtorEq] at hc); (try (exfalso; first | omega | contradiction | omega | exact absurd rfl hc | exact absurd (by decide) hc))))))
    all_goals ((with_reducible apply At.retV (B := [])); exact rfl; (repeat' (first | exact RVs.nil | (with_reducible apply RVs.cons) | exact rv_tmp (by rfl) | exact rv_cellN (by rfl) (by repeat constructor) (by rfl) (by rfl) (by rfl) | exact rv_cell1 (by rfl) (by repeat constructor) (by rfl) (by rfl))); exact zml; exact zkp; exact ⟨rfl, rfl, rfl⟩)
  · rw [if_neg hb]
    refine Ct.enterV (by rfl) Tryz.func22 rfl Tryz.ntmps22 rfl (fun w0 Rest => ?_)
    (repeat' (first | refine zss ?_ | ((first | (with_reducible first | apply At.val | apply AtQ.val)); (exact pr_mul (by rfl) (by rfl) hmul); exact rfl) | refine zs0 ?_ | ((with_reducible first | apply AtM1.callp | apply AtQ.callp | apply At.callp); kernel_rfl; exact rfl; exact rfl; exact k1) | ((with_reducible first | apply AtM1.callp | apply AtQ.callp | apply At.callp); kernel_rfl; exact rfl; exact rfl; exact k2) | ((with_reducible first | apply AtM1.callp | apply AtQ.callp | apply At.callp); kernel_rfl; exact rfl; exact rfl; exact k3) | ((with_reducible apply At.box (d := 1)); exact rfl; exact rfl; exact rfl; intro b1) | (refine zsp ?_ ?_ <;> (intro hc; (try simp only [zhcs, reduceCtorEq] at hc); (try (exfalso; first | omega | contradiction | omega | exact absurd rfl hc | exact absurd (by decide) hc))))))
    all_goals ((with_reducible apply At.retV (B := [])); exact rfl; (repeat' (first | exact RVs.nil | (with_reducible apply RVs.cons) | exact rv_tmp (by rfl) | exact rv_cellN (by rfl) (by repeat constructor) (by rfl) (by rfl) (by rfl) | exact rv_cell1 (by rfl) (by repeat constructor) (by rfl) (by rfl))); exact zml; exact zkp; exact ⟨rfl, rfl, rfl⟩)
theorem fit : Pu Tryz.prog 14 #[] (kv 20 10 20 60 4 5 6 3 9) := Pu.intro fun m => by
  refine Ct.enterV (by rfl) Tryz.func14 rfl Tryz.ntmps14 rfl (fun w0 Rest => ?_)
  (repeat' (first | refine zss ?_ | ((first | (with_reducible first | apply At.val | apply AtQ.val)); (exact pr_buildArr (by rfl) (by rfl)); exact rfl) | refine zs0 ?_ | ((with_reducible apply At.alloc (d := 0)); exact rfl; exact rfl; intro b0) | (refine zsp ?_ ?_ <;> (intro hc; (try simp only [zhcs, reduceCtorEq] at hc); (try (exfalso; first | contradiction | omega | exact absurd rfl hc | exact absurd (by decide) hc))))))
  all_goals ((with_reducible apply At.retV (B := [])); exact rfl; (repeat' (first | exact RVs.nil | (with_reducible apply RVs.cons) | exact rv_tmp (by rfl) | exact rv_cellN (by rfl) (by repeat constructor) (by rfl) (by rfl) (by rfl) | exact rv_cell1 (by rfl) (by repeat constructor) (by rfl) (by rfl))); exact zml; exact zkp; exact ⟨rfl, rfl, rfl⟩)
theorem fit_ok : Ok 20 10 20 60 4 5 6 3 9 := by decide
end
end Conf
end Go.Proofs.YtecifniognbomaaGreat
/- Series: what one is; the tiers' slots searched and held against one another. -/
set_option linter.unusedSimpArgs false
set_option linter.unusedVariables false
set_option linter.unusedSectionVars false
set_option maxRecDepth 20000
set_option maxHeartbeats 4000000
namespace Go.Proofs.YtecifniognbomaaGreat
open Go Go.J
attribute [local irreducible] At AtQ AtM AtM1 PR Ct Pu Rd Res.blk Res.own Res.ex RVs RV
/-- a slice: where it lies, and what it has -/
structure Lst (α : Type) where
  (p : Option Addr) (c : Nat) (l : List α)
abbrev Lst.v {α : Type} (x : Lst α) : Value := .slice x.p x.l.length x.c
abbrev Lst.nil {α : Type} : Lst α := ⟨none, 0, []⟩
/-- a configuration -/
structure Cfg where
  (r a b d x y w c g : Int)
namespace Cfg
abbrev cells (k : Cfg) : List Value := [.int .i64 k.r, .int .i64 k.a, .int .i64 k.b, .int .i64 k.d, .int .i64 k.x, .int .i64 k.y, .int .i64 k.w, .int .i64 k.c, .int .i64 k.g]
abbrev v (k : Cfg) : Value := .agg (cells k).toArray
def ok (k : Cfg) : Prop := Conf.Ok k.r k.a k.b k.d k.x k.y k.w k.c k.g
instance (k : Cfg) : Decidable k.ok := by unfold ok; infer_instance
def chk (k : Cfg) : Int := if k.ok then 0 else 2
theorem check (k : Cfg) : Pu Tryz.prog 28 #[k.v] (.int .i64 k.chk) := by
  unfold chk
  by_cases h : k.ok
  · rw [if_pos h]; exact Conf.checkK h
  · rw [if_neg h]; exact Conf.checkN h
end Cfg
/-- a series -/
structure Ser where
  (lab : Lst Lab) (last lost mark : Int) (raw : Lst Ev) (t0 t1 t2 : Lst Slot) (op : Slot)
namespace Ser
abbrev cells : Ser → List Value := fun s => s.lab.v :: .int .i64 s.last :: .int .i64 s.lost :: .int .i64 s.mark :: s.raw.v :: s.t0.v :: s.t1.v :: s.t2.v :: Slot.cells s.op
abbrev v (s : Ser) : Value := .agg (cells s).toArray
abbrev z : Ser := ⟨Lst.nil, 0, 0, 0, Lst.nil, Lst.nil, Lst.nil, Lst.nil, Slot.z⟩
instance : Inhabited Ser := ⟨z⟩
instance : Fl cells 23 := ⟨fun _ => rfl, fun x v h => by
  simp at h
  rcases h with rfl | rfl | rfl | rfl | rfl | rfl | rfl | rfl | rfl | rfl | rfl | rfl | rfl | rfl | rfl | rfl | rfl | rfl | rfl | rfl | rfl | rfl | rfl <;> rfl, by decide⟩
/-- what it has lies where it says; its numbers are numbers -/
structure Ok (m : Mem) (s : Ser) : Prop where
  sl : Sl m Lb.cells 2 s.lab.p s.lab.c s.lab.l
  sr : Sl m Ev.cells 4 s.raw.p s.raw.c s.raw.l
  s0 : Sl m Slot.cells 15 s.t0.p s.t0.c s.t0.l
  s1 : Sl m Slot.cells 15 s.t1.p s.t1.c s.t1.l
  s2 : Sl m Slot.cells 15 s.t2.p s.t2.c s.t2.l
  ml : Lb.Mid s.lab.l
  i0 : ∀ x ∈ s.t0.l, Slot.In x
  i1 : ∀ x ∈ s.t1.l, Slot.In x
  i2 : ∀ x ∈ s.t2.l, Slot.In x
  io : Slot.In s.op
  ir : ∀ e ∈ s.raw.l, e.V < 18446744073709551616
  nl : s.lab.l.length ≤ 1000000
  nr : s.raw.l.length ≤ 1000000
  n0 : s.t0.l.length ≤ 1000000
  n1 : s.t1.l.length ≤ 1000000
  n2 : s.t2.l.length ≤ 1000000
  bl : -9223372036854775808 ≤ s.last ∧ s.last ≤ 9223372036854775807
theorem Ok.mono {m m' : Mem} {s : Ser} (h : Ok m s) (hm : m.le m') : Ok m' s := ⟨h.sl.mono hm, h.sr.mono hm, h.s0.mono hm, h.s1.mono hm, h.s2.mono hm, h.ml, h.i0, h.i1, h.i2, h.io, h.ir, h.nl, h.nr, h.n0, h.n1, h.n2, h.bl⟩
end Ser
namespace Se
theorem equalS {m : Mem} (p : Option Addr) (c : Nat) (a : List Slot) (q : Option Addr) (d : Nat) (b : List Slot) (hl : a.length ≤ 1000000) (hlb : b.length ≤ 1000000) (sl0 : Sl m Slot.cells 15 p c a) (sl1 : Sl m Slot.cells 15 q d b) :
    Rd Tryz.prog 83 #[.slice p a.length c, .slice q b.length d] m [] (.bool (decide (a = b))) := by
  unfold Rd
  by_cases hlen : a.length = b.length
  · refine Ct.enterV (by rfl) Tryz.func83 rfl Tryz.ntmps83 rfl (fun w0 Rest => ?_)
    (repeat' (first | refine zss ?_ | refine zsM ?_ | (refine zsp ?_ ?_ <;> (intro hc; (try simp only [zhcs, reduceCtorEq] at hc); (try (exfalso; first | omega | contradiction | omega | exact absurd rfl hc | exact absurd (by decide) hc))))))
    (refine At.loopk (σ := Nat) [0, 1, 12] (fun s F0 => (13, .int .i64 (s : Int)) :: F0) (fun s => m) (fun s => Rest) (fun s => s ≤ a.length ∧ ∀ i, i < s → a[i]! = b[i]!) (fun s => a.length - s) 0 (by rfl) ?_ zsubs zml zente ?_)
    · exact ⟨Nat.zero_le _, fun i h => absurd h (Nat.not_lt_zero i)⟩
    rintro s ⟨hs, hn⟩
    by_cases h : s < a.length
    · by_cases e : a[s]! = b[s]!
      · have hnn : ∀ i, i < s + 1 → a[i]! = b[i]! := fun i hi => by
          by_cases e1 : i = s
          · subst e1; exact e
          · exact hn i (by omega)
        (repeat' (first | refine zss ?_ | ((first | (with_reducible first | apply At.val | apply AtQ.val)); (exact Ti.pr_slne (by rfl) (by rfl)); exact rfl) | refine zsM ?_ | (refine zsp ?_ ?_ <;> (intro hc; (try simp only [zhcs, reduceCtorEq] at hc); (try (exfalso; first | (first | omega | exact absurd e hc) | contradiction | omega | exact absurd rfl hc | exact absurd (by decide) hc))))))
        all_goals ((with_reducible refine At.reachk ((s + 1)) ?_ ?_ ?_ ?_); exact zsubs; exact zml; exact zente; exact ⟨⟨h, hnn⟩, by omega⟩)
      · rw [decide_eq_false (show ¬ a = b from fun h => e (by rw [h]))]
        (repeat' (first | refine zss ?_ | ((first | (with_reducible first | apply At.val | apply AtQ.val)); (exact Ti.pr_slne (by rfl) (by rfl)); exact rfl) | refine zsM ?_ | (refine zsp ?_ ?_ <;> (intro hc; (try simp only [zhcs, reduceCtorEq] at hc); (try (exfalso; first | (first | omega | exact absurd hc e) | contradiction | omega | exact absurd rfl hc | exact absurd (by decide) hc))))))
        all_goals ((with_reducible apply At.retB1 (B := [])); exact rfl; exact rfl; exact zml; exact zkp; exact ⟨rfl, rfl, rfl⟩)
    · rw [decide_eq_true (show a = b from Ls.ext! hlen fun i hi => hn i (by omega))]
      (repeat' (first | refine zss ?_ | refine zsM ?_ | (refine zsp ?_ ?_ <;> (intro hc; (try simp only [zhcs, reduceCtorEq] at hc); (try (exfalso; first | omega | contradiction | omega | exact absurd rfl hc | exact absurd (by decide) hc))))))
      all_goals ((with_reducible apply At.retB1 (B := [])); exact rfl; exact rfl; exact zml; exact zkp; exact ⟨rfl, rfl, rfl⟩)
  · rw [decide_eq_false (show ¬ a = b from fun h => hlen (by rw [h]))]
    refine Ct.enterV (by rfl) Tryz.func83 rfl Tryz.ntmps83 rfl (fun w0 Rest => ?_)
    (repeat' (first | refine zss ?_ | refine zsM ?_ | (refine zsp ?_ ?_ <;> (intro hc; (try simp only [zhcs, reduceCtorEq] at hc); (try (exfalso; first | omega | contradiction | omega | exact absurd rfl hc | exact absurd (by decide) hc))))))
    all_goals ((with_reducible apply At.retB1 (B := [])); exact rfl; exact rfl; exact zml; exact zkp; exact ⟨rfl, rfl, rfl⟩)
abbrev pt (b : Nat) : Value := .pointer (some ⟨b, 0, none⟩)
abbrev bi (b : Nat) (i : Int) : List Res := [.blk b 2 [.int .i64 i]]
def bh1 (i : Int) (s : Slot) : Bool := decide (0 < s.c.n ∧ i ≤ s.w)
/-- a tier has a slot of a window, or one behind it -/
def bhd (l : List Slot) (i : Int) : Bool := l.any (bh1 i)
theorem bhd_no {l : List Slot} {i : Int} (h : ∀ k, k < l.length → bh1 i l[k]! = false) : bhd l i = false := by
  unfold bhd
  rw [List.any_eq_false]
  intro x hx
  obtain ⟨k, hk, e⟩ := List.mem_iff_getElem.1 hx
  have := h k hk
  rw [getElem!_pos l k hk, e] at this
  rw [this]
  decide
theorem bhd_yes {l : List Slot} {i : Int} {k : Nat} (hk : k < l.length) (h : bh1 i l[k]! = true) : bhd l i = true := by
  unfold bhd
  rw [List.any_eq_true]
  exact ⟨l[k]!, Ls.mem! hk, h⟩
theorem behind1 {m : Mem} (b : Nat) (s : Slot) (i : Int) (q : Bool) (h : bh1 i s = q) : Ct Tryz.prog 116 #[s.v, pt b] m (bi b i) (fun v m' B => v = .bool q ∧ m = m' ∧ B = bi b i) := by
  subst h
  unfold bh1
  refine Ct.enterV (by rfl) Tryz.func116 rfl Tryz.ntmps116 rfl (fun w0 Rest => ?_)
  (repeat' (first | refine zss ?_ | refine zs0 ?_ | ((with_reducible apply At.box (d := 2)); exact rfl; exact rfl; exact rfl; intro b2) | (refine zsp ?_ ?_ <;> (intro hc; (try simp only [zhcs, reduceCtorEq] at hc); (try (exfalso; first | contradiction | omega | exact absurd rfl hc | exact absurd (by decide) hc))))))
  all_goals ((with_reducible apply At.retB1 (B := bi b i)); exact rfl; exact rfl; exact zml; exact zkp; exact ⟨congrArg Value.bool (by simp [hc]), rfl, rfl⟩)
theorem indexB {m : Mem} (b : Nat) (p : Option Addr) (c : Nat) (l : List Slot) (i : Int) (hl : l.length ≤ 1000000) (sl0 : Sl m Slot.cells 15 p c l) :
    Ct Tryz.prog 123 #[.slice p l.length c, .func (.func 116) #[] #[pt b]] m (bi b i) (fun v m' B => m = m' ∧ B = bi b i ∧
      ((v = .int .i64 (-1) ∧ bhd l i = false) ∨ (∃ k : Nat, v = .int .i64 (k : Int) ∧ bhd l i = true))) := by
  refine Ct.enterV (by rfl) Tryz.func123 rfl Tryz.ntmps123 rfl (fun w0 Rest => ?_)
  (repeat' (first | refine zss ?_ | refine zsM ?_ | (refine zsp ?_ ?_ <;> (intro hc; (try simp only [zhcs, reduceCtorEq] at hc); (try (exfalso; first | contradiction | omega | exact absurd rfl hc | exact absurd (by decide) hc))))))
  (refine At.loopk (σ := Nat) [0, 1, 7] (fun s F0 => (8, .int .i64 (s : Int)) :: F0) (fun s => m) (fun s => .blk b 2 [.int .i64 i] :: Rest) (fun s => s ≤ l.length ∧ ∀ k, k < s → bh1 i l[k]! = false) (fun s => l.length - s) 0 (by rfl) ?_ zsubs zml zente ?_)
  · exact ⟨Nat.zero_le _, fun i h => absurd h (Nat.not_lt_zero i)⟩
  rintro j ⟨hs, hn⟩
  by_cases h : j < l.length
  · cases e : bh1 i l[j]!
    · have hnn : ∀ k, k < j + 1 → bh1 i l[k]! = false := fun k hk => by
        by_cases e1 : k = j
        · subst e1; exact e
        · exact hn k (by omega)
      (repeat' (first | refine zss ?_ | refine zsM ?_ | ((with_reducible apply At.callf); exact rfl; kernel_rfl; exact rfl; exact rfl; exact behind1 b (l[j]!) i false e; exact ztk; rintro v' m' B' hm' ⟨rfl, rfl, rfl⟩; (try replace sl0 := sl0.mono hm')) | (refine zsp ?_ ?_ <;> (intro hc; (try simp only [zhcs, reduceCtorEq] at hc); (try (exfalso; first | omega | contradiction | omega | exact absurd rfl hc | exact absurd (by decide) hc))))))
      all_goals ((with_reducible refine At.reachk ((j + 1)) ?_ ?_ ?_ ?_); exact zsubs; exact zml; exact zente; exact ⟨⟨h, hnn⟩, by omega⟩)
    · (repeat' (first | refine zss ?_ | refine zsM ?_ | ((with_reducible apply At.callf); exact rfl; kernel_rfl; exact rfl; exact rfl; exact behind1 b (l[j]!) i true e; exact ztk; rintro v' m' B' hm' ⟨rfl, rfl, rfl⟩; (try replace sl0 := sl0.mono hm')) | (refine zsp ?_ ?_ <;> (intro hc; (try simp only [zhcs, reduceCtorEq] at hc); (try (exfalso; first | omega | contradiction | omega | exact absurd rfl hc | exact absurd (by decide) hc))))))
      all_goals ((with_reducible apply At.retB1 (B := bi b i)); exact rfl; exact rfl; exact zml; exact zkp; exact ⟨rfl, rfl, .inr ⟨j, rfl, bhd_yes h e⟩⟩)
  · (repeat' (first | refine zss ?_ | refine zsM ?_ | (refine zsp ?_ ?_ <;> (intro hc; (try simp only [zhcs, reduceCtorEq] at hc); (try (exfalso; first | omega | contradiction | omega | exact absurd rfl hc | exact absurd (by decide) hc))))))
    all_goals ((with_reducible apply At.retB1 (B := bi b i)); exact rfl; exact rfl; exact zml; exact zkp; exact ⟨rfl, rfl, .inl ⟨rfl, bhd_no fun k hk => hn k (by omega)⟩⟩)
theorem containsB {m : Mem} (b : Nat) (p : Option Addr) (c : Nat) (l : List Slot) (i : Int) (hl : l.length ≤ 1000000) (sl0 : Sl m Slot.cells 15 p c l) :
    Ct Tryz.prog 115 #[.slice p l.length c, .func (.func 116) #[] #[pt b]] m (bi b i) (fun v m' B => v = .bool (bhd l i) ∧ m = m' ∧ B = bi b i) := by
  refine Ct.enterV (by rfl) Tryz.func115 rfl Tryz.ntmps115 rfl (fun w0 Rest => ?_)
  (repeat' (first | refine zss ?_ | refine zsM ?_ | ((with_reducible first | apply At.c1 | apply At.c0); exact rfl; exact rfl; exact indexB b p c l i hl sl0; exact ztk; kernel_rfl; rintro v' m' B' hm' ⟨rfl, rfl, hv⟩; (try replace sl0 := sl0.mono hm'); (try (have hq0 : hm' = Mem.le_refl _ := rfl; clear hq0 hm'))) | (rcases hv with ⟨rfl, hv⟩ | ⟨k, rfl, hv⟩) | (refine zsp ?_ ?_ <;> (intro hc; (try simp only [zhcs, reduceCtorEq] at hc); (try (exfalso; first | omega | contradiction | omega | exact absurd rfl hc | exact absurd (by decide) hc))))))
  all_goals ((with_reducible apply At.retB1 (B := bi b i)); exact rfl; exact rfl; exact zml; exact zkp; exact ⟨congrArg Value.bool (by rw [hv]; first | rfl | (simp <;> omega)), rfl, rfl⟩)
theorem behind {m : Mem} (p : Option Addr) (c : Nat) (l : List Slot) (i : Int) (hl : l.length ≤ 1000000) (sl0 : Sl m Slot.cells 15 p c l) :
    Rd Tryz.prog 102 #[.slice p l.length c, .int .i64 i] m [] (.bool (bhd l i)) := by
  unfold Rd
  refine Ct.enterV (by rfl) Tryz.func102 rfl Tryz.ntmps102 rfl (fun w0 Rest => ?_)
  (repeat' (first | refine zss ?_ | refine zsM ?_ | ((with_reducible first | apply At.c1 | apply At.c0); exact rfl; exact rfl; exact containsB _ p c l i hl sl0; exact ztk; kernel_rfl; rintro v' m' B' hm' ⟨rfl, rfl, rfl⟩; (try replace sl0 := sl0.mono hm'); (try (have hq0 : hm' = Mem.le_refl _ := rfl; clear hq0 hm'))) | ((with_reducible apply At.box (d := 3)); exact rfl; exact rfl; exact rfl; intro b3) | (refine zsp ?_ ?_ <;> (intro hc; (try simp only [zhcs, reduceCtorEq] at hc); (try (exfalso; first | contradiction | omega | exact absurd rfl hc | exact absurd (by decide) hc))))))
  all_goals ((with_reducible apply At.retB1 (B := [])); exact rfl; exact rfl; exact zml; exact zkp; exact ⟨rfl, rfl, rfl⟩)
end Se
end Go.Proofs.YtecifniognbomaaGreat
/- The package fold opens tiers that are right; a series that is dead. -/
set_option linter.unusedSimpArgs false
set_option linter.unusedVariables false
set_option linter.unusedSectionVars false
set_option maxRecDepth 20000
set_option maxHeartbeats 4000000
namespace Go.Proofs.YtecifniognbomaaGreat
open Go Go.J
attribute [local irreducible] At AtQ AtM AtM1 PR Ct Pu Rd Res.blk Res.own Res.ex RVs RV
namespace Se
open Win
abbrev t3v (a b c : Lst Slot) : Value := .agg #[a.v, b.v, c.v]
/-- a tier of so many windows, of such a width -/
def tk (l : List Slot) (n w : Int) : Prop := (l.length : Int) = n ∧ Ti.okT l w
instance (l : List Slot) (n w : Int) : Decidable (tk l n w) := by unfold tk; infer_instance
def fok (k : Cfg) (a b c : List Slot) : Prop := k.ok ∧ tk a k.x k.a ∧ tk b k.y k.b ∧ tk c k.w k.d
instance (k : Cfg) (a b c : List Slot) : Decidable (fok k a b c) := by unfold fok; infer_instance
theorem tchk {l : List Slot} {w : Int} (h : Ti.okT l w) : Ti.chk l w = 0 := if_pos h
theorem tchkN {l : List Slot} {w : Int} (h : ¬ Ti.okT l w) : Ti.chk l w = 2 := if_neg h
set_option maxRecDepth 100000 in
theorem openF {m : Mem} (k : Cfg) (a b c : Lst Slot) (ha : a.l.length ≤ 1000000) (hb : b.l.length ≤ 1000000) (hc0 : c.l.length ≤ 1000000) (ia : ∀ s ∈ a.l, Slot.In s) (ib : ∀ s ∈ b.l, Slot.In s) (ic : ∀ s ∈ c.l, Slot.In s)
    (sl0 : Sl m Slot.cells 15 a.p a.c a.l) (sl1 : Sl m Slot.cells 15 b.p b.c b.l) (sl2 : Sl m Slot.cells 15 c.p c.c c.l) :
    Ct Tryz.prog 98 #[k.v, t3v a b c] m [] (fun v m' B => m = m' ∧ ((fok k a.l b.l c.l ∧ ∃ q, v = .tuple #[pt q, .int .i64 0] ∧ B = [.blk q 133 (k.cells ++ [a.v, b.v, c.v])]) ∨ (¬ fok k a.l b.l c.l ∧ v = .tuple #[.pointer none, .int .i64 2] ∧ B = []))) := by
  have k0 := Cfg.check k
  unfold Cfg.chk at k0
  by_cases h0 : k.ok
  rotate_left
  · rw [if_neg h0] at k0
    refine Ct.enterV (by rfl) Tryz.func98 rfl Tryz.ntmps98 rfl (fun w0 Rest => ?_)
    (repeat' (first | refine zss ?_ | refine zsM ?_ | ((with_reducible first | apply AtM1.callp | apply AtQ.callp | apply At.callp); kernel_rfl; exact rfl; exact rfl; exact k0) | ((with_reducible apply At.box (d := 2)); exact rfl; exact rfl; exact rfl; intro b2) | ((with_reducible apply At.box (d := 3)); exact rfl; exact rfl; exact rfl; intro b3) | ((with_reducible apply At.box (d := 39)); exact rfl; exact rfl; exact rfl; intro b39) | (refine zsp ?_ ?_ <;> (intro hc; (try simp only [zhcs, reduceCtorEq] at hc); (try (exfalso; first | omega | contradiction | omega | exact absurd rfl hc | exact absurd (by decide) hc))))))
    all_goals ((with_reducible apply At.retV (B := [])); exact rfl; (repeat' (first | exact RVs.nil | (with_reducible apply RVs.cons) | exact rv_tmp (by rfl) | exact rv_cellN (by rfl) (by repeat constructor) (by rfl) (by rfl) (by rfl) | exact rv_cell1 (by rfl) (by repeat constructor) (by rfl) (by rfl))); exact zml; exact zkp; exact ⟨rfl, .inr ⟨fun h => h0 h.1, rfl, rfl⟩⟩)
  rw [if_pos h0] at k0
  have k1 := fun (m' : Mem) (h : m.le m') => Ti.check a.p a.c a.l k.a ia (sl0.mono h)
  have k2 := fun (m' : Mem) (h : m.le m') => Ti.check b.p b.c b.l k.b ib (sl1.mono h)
  have k3 := fun (m' : Mem) (h : m.le m') => Ti.check c.p c.c c.l k.d ic (sl2.mono h)
  refine Ct.enterV (by rfl) Tryz.func98 rfl Tryz.ntmps98 rfl (fun w0 Rest => ?_)
  (repeat' (first | refine zss ?_ | refine zsM ?_ | ((with_reducible first | apply AtM1.callp | apply AtQ.callp | apply At.callp); kernel_rfl; exact rfl; exact rfl; exact k0) | ((with_reducible apply At.box (d := 2)); exact rfl; exact rfl; exact rfl; intro b2) | ((with_reducible apply At.box (d := 3)); exact rfl; exact rfl; exact rfl; intro b3) | ((with_reducible apply At.box (d := 39)); exact rfl; exact rfl; exact rfl; intro b39) | (refine zsp ?_ ?_ <;> (intro hc; (try simp only [zhcs, reduceCtorEq] at hc); (try (exfalso; first | omega | contradiction | omega | exact absurd rfl hc | exact absurd (by decide) hc))))))
  (refine At.loopk (σ := Nat) [2, 3, 14] (fun s F0 => (15, .int .i64 (s : Int)) :: F0) (fun s => m) (fun s => .blk b3 42 [a.v, b.v, c.v] :: .blk b2 25 k.cells :: Rest) (fun s => s ≤ 3 ∧ (0 < s → tk a.l k.x k.a) ∧ (1 < s → tk b.l k.y k.b) ∧ (2 < s → tk c.l k.w k.d)) (fun s => 3 - s) 0 (by rfl) ?_ zsubs zml zente ?_)
  · exact ⟨Nat.zero_le _, fun h => absurd h (by decide), fun h => absurd h (by decide), fun h => absurd h (by decide)⟩
  rintro s ⟨hs, g0, g1, g2⟩
  rcases (show s = 0 ∨ s = 1 ∨ s = 2 ∨ s = 3 by omega) with rfl | rfl | rfl | rfl
  · clear k2 k3
    by_cases e1 : (a.l.length : Int) = k.x
    rotate_left
    · (repeat' (first | refine zss ?_ | ((first | (with_reducible first | apply At.val | apply AtQ.val)); (first | exact pr_index_agg (k := 0) (by rfl) (by rfl) (by rfl) (by rfl) (by rfl) (by rfl) (by rfl) | exact pr_indexArr (k := 0) (by rfl) (by rfl) (by rfl) (by rfl) (by decide)); exact rfl) | refine zsM ?_ | ((with_reducible apply At.box (d := 2)); exact rfl; exact rfl; exact rfl; intro b2) | ((with_reducible apply At.box (d := 3)); exact rfl; exact rfl; exact rfl; intro b3) | ((with_reducible apply At.box (d := 39)); exact rfl; exact rfl; exact rfl; intro b39) | (refine zsp ?_ ?_ <;> (intro hc; (try simp only [zhcs, reduceCtorEq] at hc); (try (exfalso; first | (first | omega | exact absurd hc e1) | contradiction | omega | exact absurd rfl hc | exact absurd (by decide) hc))))))
      all_goals ((with_reducible apply At.retV (B := [])); exact rfl; (repeat' (first | exact RVs.nil | (with_reducible apply RVs.cons) | exact rv_tmp (by rfl) | exact rv_cellN (by rfl) (by repeat constructor) (by rfl) (by rfl) (by rfl) | exact rv_cell1 (by rfl) (by repeat constructor) (by rfl) (by rfl))); exact zml; exact zkp; exact ⟨rfl, .inr ⟨fun h => e1 h.2.1.1, rfl, rfl⟩⟩)
    by_cases e2 : Ti.okT a.l k.a
    · rw [tchk e2] at k1
      (repeat' (first | refine zss ?_ | ((first | (with_reducible first | apply At.val | apply AtQ.val)); (first | exact pr_index_agg (k := 0) (by rfl) (by rfl) (by rfl) (by rfl) (by rfl) (by rfl) (by rfl) | exact pr_indexArr (k := 0) (by rfl) (by rfl) (by rfl) (by rfl) (by decide)); exact rfl) | refine zsM ?_ | ((with_reducible first | apply AtM1.cr | apply AtQ.cr | apply At.cr); exact rfl; exact rfl; exact fun _ hmm => k1 _ hmm; exact ztk; kernel_rfl) | ((with_reducible apply At.box (d := 2)); exact rfl; exact rfl; exact rfl; intro b2) | ((with_reducible apply At.box (d := 3)); exact rfl; exact rfl; exact rfl; intro b3) | ((with_reducible apply At.box (d := 39)); exact rfl; exact rfl; exact rfl; intro b39) | (refine zsp ?_ ?_ <;> (intro hc; (try simp only [zhcs, reduceCtorEq] at hc); (try (exfalso; first | (first | omega | exact absurd e1 hc) | contradiction | omega | exact absurd rfl hc | exact absurd (by decide) hc))))))
      all_goals ((with_reducible refine At.reachk (1) ?_ ?_ ?_ ?_); exact zsubs; exact zml; exact zente; exact ⟨⟨by decide, fun _ => ⟨e1, e2⟩, fun h => absurd h (by decide), fun h => absurd h (by decide)⟩, by decide⟩)
    · rw [tchkN e2] at k1
      (repeat' (first | refine zss ?_ | ((first | (with_reducible first | apply At.val | apply AtQ.val)); (first | exact pr_index_agg (k := 0) (by rfl) (by rfl) (by rfl) (by rfl) (by rfl) (by rfl) (by rfl) | exact pr_indexArr (k := 0) (by rfl) (by rfl) (by rfl) (by rfl) (by decide)); exact rfl) | refine zsM ?_ | ((with_reducible first | apply AtM1.cr | apply AtQ.cr | apply At.cr); exact rfl; exact rfl; exact fun _ hmm => k1 _ hmm; exact ztk; kernel_rfl) | ((with_reducible apply At.box (d := 2)); exact rfl; exact rfl; exact rfl; intro b2) | ((with_reducible apply At.box (d := 3)); exact rfl; exact rfl; exact rfl; intro b3) | ((with_reducible apply At.box (d := 39)); exact rfl; exact rfl; exact rfl; intro b39) | (refine zsp ?_ ?_ <;> (intro hc; (try simp only [zhcs, reduceCtorEq] at hc); (try (exfalso; first | (first | omega | exact absurd e1 hc) | contradiction | omega | exact absurd rfl hc | exact absurd (by decide) hc))))))
      all_goals ((with_reducible apply At.retV (B := [])); exact rfl; (repeat' (first | exact RVs.nil | (with_reducible apply RVs.cons) | exact rv_tmp (by rfl) | exact rv_cellN (by rfl) (by repeat constructor) (by rfl) (by rfl) (by rfl) | exact rv_cell1 (by rfl) (by repeat constructor) (by rfl) (by rfl))); exact zml; exact zkp; exact ⟨rfl, .inr ⟨fun h => e2 h.2.1.2, rfl, rfl⟩⟩)
  · clear k1 k3
    by_cases e1 : (b.l.length : Int) = k.y
    rotate_left
    · (repeat' (first | refine zss ?_ | ((first | (with_reducible first | apply At.val | apply AtQ.val)); (first | exact pr_index_agg (k := 1) (by rfl) (by rfl) (by rfl) (by rfl) (by rfl) (by rfl) (by rfl) | exact pr_indexArr (k := 1) (by rfl) (by rfl) (by rfl) (by rfl) (by decide)); exact rfl) | refine zsM ?_ | ((with_reducible apply At.box (d := 2)); exact rfl; exact rfl; exact rfl; intro b2) | ((with_reducible apply At.box (d := 3)); exact rfl; exact rfl; exact rfl; intro b3) | ((with_reducible apply At.box (d := 39)); exact rfl; exact rfl; exact rfl; intro b39) | (refine zsp ?_ ?_ <;> (intro hc; (try simp only [zhcs, reduceCtorEq] at hc); (try (exfalso; first | (first | omega | exact absurd hc e1) | contradiction | omega | exact absurd rfl hc | exact absurd (by decide) hc))))))
      all_goals ((with_reducible apply At.retV (B := [])); exact rfl; (repeat' (first | exact RVs.nil | (with_reducible apply RVs.cons) | exact rv_tmp (by rfl) | exact rv_cellN (by rfl) (by repeat constructor) (by rfl) (by rfl) (by rfl) | exact rv_cell1 (by rfl) (by repeat constructor) (by rfl) (by rfl))); exact zml; exact zkp; exact ⟨rfl, .inr ⟨fun h => e1 h.2.2.1.1, rfl, rfl⟩⟩)
    by_cases e2 : Ti.okT b.l k.b
    · rw [tchk e2] at k2
      (repeat' (first | refine zss ?_ | ((first | (with_reducible first | apply At.val | apply AtQ.val)); (first | exact pr_index_agg (k := 1) (by rfl) (by rfl) (by rfl) (by rfl) (by rfl) (by rfl) (by rfl) | exact pr_indexArr (k := 1) (by rfl) (by rfl) (by rfl) (by rfl) (by decide)); exact rfl) | refine zsM ?_ | ((with_reducible first | apply AtM1.cr | apply AtQ.cr | apply At.cr); exact rfl; exact rfl; exact fun _ hmm => k2 _ hmm; exact ztk; kernel_rfl) | ((with_reducible apply At.box (d := 2)); exact rfl; exact rfl; exact rfl; intro b2) | ((with_reducible apply At.box (d := 3)); exact rfl; exact rfl; exact rfl; intro b3) | ((with_reducible apply At.box (d := 39)); exact rfl; exact rfl; exact rfl; intro b39) | (refine zsp ?_ ?_ <;> (intro hc; (try simp only [zhcs, reduceCtorEq] at hc); (try (exfalso; first | (first | omega | exact absurd e1 hc) | contradiction | omega | exact absurd rfl hc | exact absurd (by decide) hc))))))
      all_goals ((with_reducible refine At.reachk (2) ?_ ?_ ?_ ?_); exact zsubs; exact zml; exact zente; exact ⟨⟨by decide, fun _ => g0 (by decide), fun _ => ⟨e1, e2⟩, fun h => absurd h (by decide)⟩, by decide⟩)
    · rw [tchkN e2] at k2
      (repeat' (first | refine zss ?_ | ((first | (with_reducible first | apply At.val | apply AtQ.val)); (first | exact pr_index_agg (k := 1) (by rfl) (by rfl) (by rfl) (by rfl) (by rfl) (by rfl) (by rfl) | exact pr_indexArr (k := 1) (by rfl) (by rfl) (by rfl) (by rfl) (by decide)); exact rfl) | refine zsM ?_ | ((with_reducible first | apply AtM1.cr | apply AtQ.cr | apply At.cr); exact rfl; exact rfl; exact fun _ hmm => k2 _ hmm; exact ztk; kernel_rfl) | ((with_reducible apply At.box (d := 2)); exact rfl; exact rfl; exact rfl; intro b2) | ((with_reducible apply At.box (d := 3)); exact rfl; exact rfl; exact rfl; intro b3) | ((with_reducible apply At.box (d := 39)); exact rfl; exact rfl; exact rfl; intro b39) | (refine zsp ?_ ?_ <;> (intro hc; (try simp only [zhcs, reduceCtorEq] at hc); (try (exfalso; first | (first | omega | exact absurd e1 hc) | contradiction | omega | exact absurd rfl hc | exact absurd (by decide) hc))))))
      all_goals ((with_reducible apply At.retV (B := [])); exact rfl; (repeat' (first | exact RVs.nil | (with_reducible apply RVs.cons) | exact rv_tmp (by rfl) | exact rv_cellN (by rfl) (by repeat constructor) (by rfl) (by rfl) (by rfl) | exact rv_cell1 (by rfl) (by repeat constructor) (by rfl) (by rfl))); exact zml; exact zkp; exact ⟨rfl, .inr ⟨fun h => e2 h.2.2.1.2, rfl, rfl⟩⟩)
  · clear k1 k2
    by_cases e1 : (c.l.length : Int) = k.w
    rotate_left
    · (repeat' (first | refine zss ?_ | ((first | (with_reducible first | apply At.val | apply AtQ.val)); (first | exact pr_index_agg (k := 2) (by rfl) (by rfl) (by rfl) (by rfl) (by rfl) (by rfl) (by rfl) | exact pr_indexArr (k := 2) (by rfl) (by rfl) (by rfl) (by rfl) (by decide)); exact rfl) | refine zsM ?_ | ((with_reducible apply At.box (d := 2)); exact rfl; exact rfl; exact rfl; intro b2) | ((with_reducible apply At.box (d := 3)); exact rfl; exact rfl; exact rfl; intro b3) | ((with_reducible apply At.box (d := 39)); exact rfl; exact rfl; exact rfl; intro b39) | (refine zsp ?_ ?_ <;> (intro hc; (try simp only [zhcs, reduceCtorEq] at hc); (try (exfalso; first | (first | omega | exact absurd hc e1) | contradiction | omega | exact absurd rfl hc | exact absurd (by decide) hc))))))
      all_goals ((with_reducible apply At.retV (B := [])); exact rfl; (repeat' (first | exact RVs.nil | (with_reducible apply RVs.cons) | exact rv_tmp (by rfl) | exact rv_cellN (by rfl) (by repeat constructor) (by rfl) (by rfl) (by rfl) | exact rv_cell1 (by rfl) (by repeat constructor) (by rfl) (by rfl))); exact zml; exact zkp; exact ⟨rfl, .inr ⟨fun h => e1 h.2.2.2.1, rfl, rfl⟩⟩)
    by_cases e2 : Ti.okT c.l k.d
    · rw [tchk e2] at k3
      (repeat' (first | refine zss ?_ | ((first | (with_reducible first | apply At.val | apply AtQ.val)); (first | exact pr_index_agg (k := 2) (by rfl) (by rfl) (by rfl) (by rfl) (by rfl) (by rfl) (by rfl) | exact pr_indexArr (k := 2) (by rfl) (by rfl) (by rfl) (by rfl) (by decide)); exact rfl) | refine zsM ?_ | ((with_reducible first | apply AtM1.cr | apply AtQ.cr | apply At.cr); exact rfl; exact rfl; exact fun _ hmm => k3 _ hmm; exact ztk; kernel_rfl) | ((with_reducible apply At.box (d := 2)); exact rfl; exact rfl; exact rfl; intro b2) | ((with_reducible apply At.box (d := 3)); exact rfl; exact rfl; exact rfl; intro b3) | ((with_reducible apply At.box (d := 39)); exact rfl; exact rfl; exact rfl; intro b39) | (refine zsp ?_ ?_ <;> (intro hc; (try simp only [zhcs, reduceCtorEq] at hc); (try (exfalso; first | (first | omega | exact absurd e1 hc) | contradiction | omega | exact absurd rfl hc | exact absurd (by decide) hc))))))
      all_goals ((with_reducible refine At.reachk (3) ?_ ?_ ?_ ?_); exact zsubs; exact zml; exact zente; exact ⟨⟨by decide, fun _ => g0 (by decide), fun _ => g1 (by decide), fun _ => ⟨e1, e2⟩⟩, by decide⟩)
    · rw [tchkN e2] at k3
      (repeat' (first | refine zss ?_ | ((first | (with_reducible first | apply At.val | apply AtQ.val)); (first | exact pr_index_agg (k := 2) (by rfl) (by rfl) (by rfl) (by rfl) (by rfl) (by rfl) (by rfl) | exact pr_indexArr (k := 2) (by rfl) (by rfl) (by rfl) (by rfl) (by decide)); exact rfl) | refine zsM ?_ | ((with_reducible first | apply AtM1.cr | apply AtQ.cr | apply At.cr); exact rfl; exact rfl; exact fun _ hmm => k3 _ hmm; exact ztk; kernel_rfl) | ((with_reducible apply At.box (d := 2)); exact rfl; exact rfl; exact rfl; intro b2) | ((with_reducible apply At.box (d := 3)); exact rfl; exact rfl; exact rfl; intro b3) | ((with_reducible apply At.box (d := 39)); exact rfl; exact rfl; exact rfl; intro b39) | (refine zsp ?_ ?_ <;> (intro hc; (try simp only [zhcs, reduceCtorEq] at hc); (try (exfalso; first | (first | omega | exact absurd e1 hc) | contradiction | omega | exact absurd rfl hc | exact absurd (by decide) hc))))))
      all_goals ((with_reducible apply At.retV (B := [])); exact rfl; (repeat' (first | exact RVs.nil | (with_reducible apply RVs.cons) | exact rv_tmp (by rfl) | exact rv_cellN (by rfl) (by repeat constructor) (by rfl) (by rfl) (by rfl) | exact rv_cell1 (by rfl) (by repeat constructor) (by rfl) (by rfl))); exact zml; exact zkp; exact ⟨rfl, .inr ⟨fun h => e2 h.2.2.2.2, rfl, rfl⟩⟩)
  · have hf : fok k a.l b.l c.l := ⟨h0, g0 (by decide), g1 (by decide), g2 (by decide)⟩
    clear k1 k2 k3
    (repeat' (first | refine zss ?_ | refine zsM ?_ | ((with_reducible apply At.box (d := 2)); exact rfl; exact rfl; exact rfl; intro b2) | ((with_reducible apply At.box (d := 3)); exact rfl; exact rfl; exact rfl; intro b3) | ((with_reducible apply At.box (d := 39)); exact rfl; exact rfl; exact rfl; intro b39) | (refine zsp ?_ ?_ <;> (intro hc; (try simp only [zhcs, reduceCtorEq] at hc); (try (exfalso; first | omega | contradiction | omega | exact absurd rfl hc | exact absurd (by decide) hc))))))
    all_goals ((with_reducible apply At.retV (B := [.blk b39 133 (k.cells ++ [a.v, b.v, c.v])])); exact rfl; (repeat' (first | exact RVs.nil | (with_reducible apply RVs.cons) | exact rv_tmp (by rfl) | exact rv_cellN (by rfl) (by repeat constructor) (by rfl) (by rfl) (by rfl) | exact rv_cell1 (by rfl) (by repeat constructor) (by rfl) (by rfl))); exact zml; exact zkp; exact ⟨rfl, .inl ⟨hf, b39, rfl, rfl⟩⟩)
def fchk (k : Cfg) (a b c : List Slot) : Int := if fok k a b c then 0 else 2
theorem checkF {m : Mem} (k : Cfg) (a b c : Lst Slot) (ha : a.l.length ≤ 1000000) (hb : b.l.length ≤ 1000000) (hc0 : c.l.length ≤ 1000000) (ia : ∀ s ∈ a.l, Slot.In s) (ib : ∀ s ∈ b.l, Slot.In s) (ic : ∀ s ∈ c.l, Slot.In s)
    (sl0 : Sl m Slot.cells 15 a.p a.c a.l) (sl1 : Sl m Slot.cells 15 b.p b.c b.l) (sl2 : Sl m Slot.cells 15 c.p c.c c.l) :
    Rd Tryz.prog 84 #[k.v, t3v a b c] m [] (.int .i64 (fchk k a.l b.l c.l)) := by
  unfold Rd
  have k0 := openF k a b c ha hb hc0 ia ib ic sl0 sl1 sl2
  unfold fchk
  refine Ct.enterV (by rfl) Tryz.func84 rfl Tryz.ntmps84 rfl (fun w0 Rest => ?_)
  (repeat' (first | refine zss ?_ | refine zsM ?_ | ((with_reducible first | apply At.c1 | apply At.c0); exact rfl; exact rfl; exact k0; exact ztk; kernel_rfl; rintro v' m' B' hm' ⟨rfl, hv⟩; (try replace sl0 := sl0.mono hm'); (try replace sl1 := sl1.mono hm'); (try replace sl2 := sl2.mono hm'); (try (have hq0 : hm' = Mem.le_refl _ := rfl; clear hq0 hm'))) | (rcases hv with ⟨hv, q', rfl, rfl⟩ | ⟨hv, rfl, rfl⟩) | ((with_reducible apply At.box (d := 2)); exact rfl; exact rfl; exact rfl; intro b2) | ((with_reducible apply At.box (d := 3)); exact rfl; exact rfl; exact rfl; intro b3) | (refine zsp ?_ ?_ <;> (intro hc; (try simp only [zhcs, reduceCtorEq] at hc); (try (exfalso; first | contradiction | omega | exact absurd rfl hc | exact absurd (by decide) hc))))))
  · rw [if_pos hv]
    ((with_reducible apply At.retB1 (B := [])); exact rfl; exact rfl; exact zml; exact zkp; exact ⟨rfl, rfl, rfl⟩)
  · rw [if_neg hv]
    ((with_reducible apply At.retB1 (B := [])); exact rfl; exact rfl; exact zml; exact zkp; exact ⟨rfl, rfl, rfl⟩)
/-- all of it is gone -/
def dead (k : Cfg) (last now : Int) : Bool := decide k.ok && goneV last now k.a k.x && goneV last now k.b k.y && goneV last now k.d k.w
structure DS where
  (j : Nat) (q : Bool)
/-- what is told so far -/
def ex3 (b q1 q2 q3 : Bool) : Nat → Bool
  | 0 => b
  | 1 => b && q1
  | 2 => b && q1 && q2
  | _ => b && q1 && q2 && q3
theorem deadF (k : Cfg) (last now : Int) : Pu Tryz.prog 89 #[k.v, .int .i64 last, .int .i64 now] (.bool (dead k last now)) := Pu.intro fun m => by
  have k0 := Cfg.check k
  unfold Cfg.chk at k0
  unfold dead
  by_cases h0 : k.ok
  rotate_left
  · rw [if_neg h0] at k0
    rw [decide_eq_false h0, Bool.false_and, Bool.false_and, Bool.false_and]
    refine Ct.enterV (by rfl) Tryz.func89 rfl Tryz.ntmps89 rfl (fun w0 Rest => ?_)
    (repeat' (first | refine zss ?_ | refine zs0 ?_ | ((with_reducible first | apply AtM1.callp | apply AtQ.callp | apply At.callp); kernel_rfl; exact rfl; exact rfl; exact k0) | ((with_reducible apply At.box (d := 3)); exact rfl; exact rfl; exact rfl; intro b3) | (refine zsp ?_ ?_ <;> (intro hc; (try simp only [zhcs, reduceCtorEq] at hc); (try (exfalso; first | omega | contradiction | omega | exact absurd rfl hc | exact absurd (by decide) hc))))))
    (refine At.loopk (σ := Nat) [1, 2, 3] (fun s F0 => (8, .int .i64 0) :: (7, .bool false) :: F0) (fun s => m) (fun s => .blk b3 25 k.cells :: Rest) (fun s => True) (fun s => 0) 0 (by rfl) ?_ zsubs zml zente ?_)
    · trivial
    intro _ _
    (repeat' (first | refine zss ?_ | refine zs0 ?_ | ((with_reducible apply At.box (d := 3)); exact rfl; exact rfl; exact rfl; intro b3) | (refine zsp ?_ ?_ <;> (intro hc; (try simp only [zhcs, reduceCtorEq] at hc); (try (exfalso; first | omega | contradiction | omega | exact absurd rfl hc | exact absurd (by decide) hc))))))
    all_goals ((with_reducible apply At.retB1 (B := [])); exact rfl; exact rfl; exact zml; exact zkp; exact ⟨rfl, rfl, rfl⟩)
  rw [if_pos h0] at k0
  rw [decide_eq_true h0, Bool.true_and]
  have k1 := win_gone last now k.a k.x
  have k2 := win_gone last now k.b k.y
  have k3 := win_gone last now k.d k.w
  generalize goneV last now k.a k.x = q1 at k1 ⊢
  generalize goneV last now k.b k.y = q2 at k2 ⊢
  generalize goneV last now k.d k.w = q3 at k3 ⊢
  clear h0
  refine Ct.enterV (by rfl) Tryz.func89 rfl Tryz.ntmps89 rfl (fun w0 Rest => ?_)
  (repeat' (first | refine zss ?_ | refine zs0 ?_ | ((with_reducible first | apply AtM1.callp | apply AtQ.callp | apply At.callp); kernel_rfl; exact rfl; exact rfl; exact k0) | ((with_reducible apply At.box (d := 3)); exact rfl; exact rfl; exact rfl; intro b3) | (refine zsp ?_ ?_ <;> (intro hc; (try simp only [zhcs, reduceCtorEq] at hc); (try (exfalso; first | omega | contradiction | omega | exact absurd rfl hc | exact absurd (by decide) hc))))))
  (refine At.loopk (σ := DS) [1, 2, 3] (fun s F0 => (8, .int .i64 (s.j : Int)) :: (7, .bool s.q) :: F0) (fun s => m) (fun s => .blk b3 25 k.cells :: Rest) (fun s => s.j ≤ 3 ∧ s.q = ex3 true q1 q2 q3 s.j) (fun s => 3 - s.j) ⟨0, true⟩ (by rfl) ?_ zsubs zml zente ?_)
  · exact ⟨Nat.zero_le _, rfl⟩
  rintro ⟨j, q⟩ ⟨hs, e⟩
  dsimp only at hs e ⊢
  rcases (show j = 0 ∨ j = 1 ∨ j = 2 ∨ j = 3 by omega) with rfl | rfl | rfl | rfl
  · obtain rfl : q = true := e
    (repeat' (first | refine zss ?_ | ((first | (with_reducible first | apply At.val | apply AtQ.val)); (exact pr_indexArr (k := 0) (by rfl) (by rfl) (by rfl) (by rfl) (by decide)); exact rfl) | refine zs0 ?_ | ((with_reducible first | apply AtM1.callp | apply AtQ.callp | apply At.callp); kernel_rfl; exact rfl; exact rfl; exact k1) | ((with_reducible apply At.box (d := 3)); exact rfl; exact rfl; exact rfl; intro b3) | (refine zsp ?_ ?_ <;> (intro hc; (try simp only [zhcs, reduceCtorEq] at hc); (try (exfalso; first | (first | omega | exact absurd rfl hc) | contradiction | omega | exact absurd rfl hc | exact absurd (by decide) hc))))))
    all_goals ((with_reducible refine At.reachk (⟨1, q1⟩) ?_ ?_ ?_ ?_); exact zsubs; exact zml; exact zente; exact ⟨⟨(by decide : 1 ≤ 3), rfl⟩, (by decide : 2 < 3)⟩)
  · obtain rfl : q = q1 := e
    cases q
    · (repeat' (first | refine zss ?_ | refine zs0 ?_ | ((with_reducible apply At.box (d := 3)); exact rfl; exact rfl; exact rfl; intro b3) | (refine zsp ?_ ?_ <;> (intro hc; (try simp only [zhcs, reduceCtorEq] at hc); (try (exfalso; first | (first | omega | exact absurd rfl hc) | contradiction | omega | exact absurd rfl hc | exact absurd (by decide) hc))))))
      all_goals ((with_reducible apply At.retB1 (B := [])); exact rfl; exact rfl; exact zml; exact zkp; exact ⟨rfl, rfl, rfl⟩)
    · (repeat' (first | refine zss ?_ | ((first | (with_reducible first | apply At.val | apply AtQ.val)); (exact pr_indexArr (k := 1) (by rfl) (by rfl) (by rfl) (by rfl) (by decide)); exact rfl) | refine zs0 ?_ | ((with_reducible first | apply AtM1.callp | apply AtQ.callp | apply At.callp); kernel_rfl; exact rfl; exact rfl; exact k2) | ((with_reducible apply At.box (d := 3)); exact rfl; exact rfl; exact rfl; intro b3) | (refine zsp ?_ ?_ <;> (intro hc; (try simp only [zhcs, reduceCtorEq] at hc); (try (exfalso; first | (first | omega | exact absurd rfl hc) | contradiction | omega | exact absurd rfl hc | exact absurd (by decide) hc))))))
      all_goals ((with_reducible refine At.reachk (⟨2, q2⟩) ?_ ?_ ?_ ?_); exact zsubs; exact zml; exact zente; exact ⟨⟨(by decide : 2 ≤ 3), rfl⟩, (by decide : 1 < 2)⟩)
  · replace e : q = (q1 && q2) := e
    rw [← e]
    cases q
    · (repeat' (first | refine zss ?_ | refine zs0 ?_ | ((with_reducible apply At.box (d := 3)); exact rfl; exact rfl; exact rfl; intro b3) | (refine zsp ?_ ?_ <;> (intro hc; (try simp only [zhcs, reduceCtorEq] at hc); (try (exfalso; first | (first | omega | exact absurd rfl hc) | contradiction | omega | exact absurd rfl hc | exact absurd (by decide) hc))))))
      all_goals ((with_reducible apply At.retB1 (B := [])); exact rfl; exact rfl; exact zml; exact zkp; exact ⟨rfl, rfl, rfl⟩)
    · (repeat' (first | refine zss ?_ | ((first | (with_reducible first | apply At.val | apply AtQ.val)); (exact pr_indexArr (k := 2) (by rfl) (by rfl) (by rfl) (by rfl) (by decide)); exact rfl) | refine zs0 ?_ | ((with_reducible first | apply AtM1.callp | apply AtQ.callp | apply At.callp); kernel_rfl; exact rfl; exact rfl; exact k3) | ((with_reducible apply At.box (d := 3)); exact rfl; exact rfl; exact rfl; intro b3) | (refine zsp ?_ ?_ <;> (intro hc; (try simp only [zhcs, reduceCtorEq] at hc); (try (exfalso; first | (first | omega | exact absurd rfl hc) | contradiction | omega | exact absurd rfl hc | exact absurd (by decide) hc))))))
      all_goals ((with_reducible refine At.reachk (⟨3, q3⟩) ?_ ?_ ?_ ?_); exact zsubs; exact zml; exact zente; exact ⟨⟨(by decide : 3 ≤ 3), by show q3 = (q1 && q2 && q3); rw [← e]; rfl⟩, (by decide : 0 < 1)⟩)
  · replace e : q = (q1 && q2 && q3) := e
    rw [← e]
    cases q
    · (repeat' (first | refine zss ?_ | refine zs0 ?_ | ((with_reducible apply At.box (d := 3)); exact rfl; exact rfl; exact rfl; intro b3) | (refine zsp ?_ ?_ <;> (intro hc; (try simp only [zhcs, reduceCtorEq] at hc); (try (exfalso; first | (first | omega | exact absurd rfl hc) | contradiction | omega | exact absurd rfl hc | exact absurd (by decide) hc))))))
      all_goals ((with_reducible apply At.retB1 (B := [])); exact rfl; exact rfl; exact zml; exact zkp; exact ⟨rfl, rfl, rfl⟩)
    · (repeat' (first | refine zss ?_ | refine zs0 ?_ | ((with_reducible apply At.box (d := 3)); exact rfl; exact rfl; exact rfl; intro b3) | (refine zsp ?_ ?_ <;> (intro hc; (try simp only [zhcs, reduceCtorEq] at hc); (try (exfalso; first | (first | omega | exact absurd rfl hc) | contradiction | omega | exact absurd rfl hc | exact absurd (by decide) hc))))))
      all_goals ((with_reducible apply At.retB1 (B := [])); exact rfl; exact rfl; exact zml; exact zkp; exact ⟨rfl, rfl, rfl⟩)
end Se
end Go.Proofs.YtecifniognbomaaGreat
/- The package series opens a series that is right. -/
set_option linter.unusedSimpArgs false
set_option linter.unusedVariables false
set_option linter.unusedSectionVars false
set_option maxRecDepth 20000
set_option maxHeartbeats 4000000
namespace Go.Proofs.YtecifniognbomaaGreat
open Go Go.J
attribute [local irreducible] At AtQ AtM AtM1 PR Ct Pu Rd Res.blk Res.own Res.ex RVs RV
namespace Se
open Win
/-- nothing was put yet -/
def frs (x : Ser) : Bool := ex3 (decide (x.raw.l.length = 0 ∧ x.op = Slot.z)) (!bhd x.t0.l 0) (!bhd x.t1.l 0) (!bhd x.t2.l 0) 3
abbrev kb (b : Nat) (k : Cfg) (x : Ser) : List Res := [.blk b 117 (k.cells ++ x.cells)]
set_option maxRecDepth 100000 in
theorem fresh {m : Mem} (b : Nat) (k : Cfg) (x : Ser) (ho : x.Ok m) : Ct Tryz.prog 87 #[pt b] m (kb b k x) (fun v m' B => v = .bool (frs x) ∧ m = m' ∧ B = kb b k x) := by
  obtain ⟨sl0, sl1, sl2, sl3, sl4, -, -, -, -, -, -, -, hr, h0, h1, h2, -⟩ := ho
  have k0 := fun (m' : Mem) (h : m.le m') => behind x.t0.p x.t0.c x.t0.l 0 h0 (sl2.mono h)
  have k1 := fun (m' : Mem) (h : m.le m') => behind x.t1.p x.t1.c x.t1.l 0 h1 (sl3.mono h)
  have k2 := fun (m' : Mem) (h : m.le m') => behind x.t2.p x.t2.c x.t2.l 0 h2 (sl4.mono h)
  unfold frs
  generalize bhd x.t0.l 0 = q0 at k0 ⊢
  generalize bhd x.t1.l 0 = q1 at k1 ⊢
  generalize bhd x.t2.l 0 = q2 at k2 ⊢
  refine Ct.enterV (by rfl) Tryz.func87 rfl Tryz.ntmps87 rfl (fun w0 Rest => ?_)
  (repeat' (first | (refine At.cutp (id := 1) (x.raw.l.length = 0 ∧ x.op = Slot.z) 3 [0] (by rfl) ?_ ?_) | refine zss ?_ | ((first | (with_reducible first | apply At.val | apply AtQ.val)); (exact Ti.pr_sleq (b := Slot.z) (by rfl) (by rfl)); exact rfl) | refine zsM ?_ | ((with_reducible apply At.endp); exact rfl; exact zsubs; exact zml; exact zente; (first | (simp_all; done) | (simp_all <;> omega))) | (refine zsp ?_ ?_ <;> (intro hc; (try simp only [zhcs, reduceCtorEq] at hc); (try (exfalso; first | omega | contradiction | omega | exact absurd rfl hc | exact absurd (by decide) hc))))))
  generalize decide (x.raw.l.length = 0 ∧ x.op = Slot.z) = b0
  (refine At.loopk (σ := DS) [27] (fun s F0 => (28, .int .i64 (s.j : Int)) :: (3, .bool s.q) :: F0) (fun s => m) (fun s => .blk b 117 (k.cells ++ x.cells) :: Rest) (fun s => s.j ≤ 3 ∧ s.q = ex3 b0 (!q0) (!q1) (!q2) s.j) (fun s => 3 - s.j) ⟨0, b0⟩ (by rfl) ?_ zsubs zml zente ?_)
  · exact ⟨Nat.zero_le _, rfl⟩
  rintro ⟨j, q⟩ ⟨hs, e⟩
  dsimp only at hs e ⊢
  rcases (show j = 0 ∨ j = 1 ∨ j = 2 ∨ j = 3 by omega) with rfl | rfl | rfl | rfl
  · replace e : q = b0 := e
    cases q
    · (repeat' (first | refine zss ?_ | ((first | (with_reducible first | apply At.val | apply AtQ.val)); (exact pr_index_agg (k := 0) (by rfl) (by rfl) (by rfl) (by rfl) (by rfl) (by rfl) (by rfl)); exact rfl) | refine zsM ?_ | (refine zsp ?_ ?_ <;> (intro hc; (try simp only [zhcs, reduceCtorEq] at hc); (try (exfalso; first | (first | omega | exact absurd rfl hc) | contradiction | omega | exact absurd rfl hc | exact absurd (by decide) hc))))))
      all_goals ((with_reducible refine At.reachk (⟨1, false⟩) ?_ ?_ ?_ ?_); exact zsubs; exact zml; exact zente; exact ⟨⟨(by decide : 1 ≤ 3), by show false = (b0 && !q0); rw [← e]; rfl⟩, (by decide : 3 - 1 < 3 - 0)⟩)
    · (repeat' (first | refine zss ?_ | ((first | (with_reducible first | apply At.val | apply AtQ.val)); (exact pr_index_agg (k := 0) (by rfl) (by rfl) (by rfl) (by rfl) (by rfl) (by rfl) (by rfl)); exact rfl) | refine zsM ?_ | ((with_reducible first | apply AtM1.cr | apply AtQ.cr | apply At.cr); exact rfl; exact rfl; exact fun _ hmm => k0 _ hmm; exact ztk; kernel_rfl) | (refine zsp ?_ ?_ <;> (intro hc; (try simp only [zhcs, reduceCtorEq] at hc); (try (exfalso; first | (first | omega | exact absurd rfl hc) | contradiction | omega | exact absurd rfl hc | exact absurd (by decide) hc))))))
      all_goals ((with_reducible refine At.reachk (⟨1, !q0⟩) ?_ ?_ ?_ ?_); exact zsubs; exact zml; exact zente; exact ⟨⟨(by decide : 1 ≤ 3), by show (!q0) = (b0 && !q0); rw [← e]; rfl⟩, (by decide : 3 - 1 < 3 - 0)⟩)
  · replace e : q = (b0 && !q0) := e
    cases q
    · (repeat' (first | refine zss ?_ | ((first | (with_reducible first | apply At.val | apply AtQ.val)); (exact pr_index_agg (k := 1) (by rfl) (by rfl) (by rfl) (by rfl) (by rfl) (by rfl) (by rfl)); exact rfl) | refine zsM ?_ | (refine zsp ?_ ?_ <;> (intro hc; (try simp only [zhcs, reduceCtorEq] at hc); (try (exfalso; first | (first | omega | exact absurd rfl hc) | contradiction | omega | exact absurd rfl hc | exact absurd (by decide) hc))))))
      all_goals ((with_reducible refine At.reachk (⟨2, false⟩) ?_ ?_ ?_ ?_); exact zsubs; exact zml; exact zente; exact ⟨⟨(by decide : 2 ≤ 3), by show false = (b0 && !q0 && !q1); rw [← e]; rfl⟩, (by decide : 3 - 2 < 3 - 1)⟩)
    · (repeat' (first | refine zss ?_ | ((first | (with_reducible first | apply At.val | apply AtQ.val)); (exact pr_index_agg (k := 1) (by rfl) (by rfl) (by rfl) (by rfl) (by rfl) (by rfl) (by rfl)); exact rfl) | refine zsM ?_ | ((with_reducible first | apply AtM1.cr | apply AtQ.cr | apply At.cr); exact rfl; exact rfl; exact fun _ hmm => k1 _ hmm; exact ztk; kernel_rfl) | (refine zsp ?_ ?_ <;> (intro hc; (try simp only [zhcs, reduceCtorEq] at hc); (try (exfalso; first | (first | omega | exact absurd rfl hc) | contradiction | omega | exact absurd rfl hc | exact absurd (by decide) hc))))))
      all_goals ((with_reducible refine At.reachk (⟨2, !q1⟩) ?_ ?_ ?_ ?_); exact zsubs; exact zml; exact zente; exact ⟨⟨(by decide : 2 ≤ 3), by show (!q1) = (b0 && !q0 && !q1); rw [← e]; rfl⟩, (by decide : 3 - 2 < 3 - 1)⟩)
  · replace e : q = (b0 && !q0 && !q1) := e
    cases q
    · (repeat' (first | refine zss ?_ | ((first | (with_reducible first | apply At.val | apply AtQ.val)); (exact pr_index_agg (k := 2) (by rfl) (by rfl) (by rfl) (by rfl) (by rfl) (by rfl) (by rfl)); exact rfl) | refine zsM ?_ | (refine zsp ?_ ?_ <;> (intro hc; (try simp only [zhcs, reduceCtorEq] at hc); (try (exfalso; first | (first | omega | exact absurd rfl hc) | contradiction | omega | exact absurd rfl hc | exact absurd (by decide) hc))))))
      all_goals ((with_reducible refine At.reachk (⟨3, false⟩) ?_ ?_ ?_ ?_); exact zsubs; exact zml; exact zente; exact ⟨⟨(by decide : 3 ≤ 3), by show false = (b0 && !q0 && !q1 && !q2); rw [← e]; rfl⟩, (by decide : 3 - 3 < 3 - 2)⟩)
    · (repeat' (first | refine zss ?_ | ((first | (with_reducible first | apply At.val | apply AtQ.val)); (exact pr_index_agg (k := 2) (by rfl) (by rfl) (by rfl) (by rfl) (by rfl) (by rfl) (by rfl)); exact rfl) | refine zsM ?_ | ((with_reducible first | apply AtM1.cr | apply AtQ.cr | apply At.cr); exact rfl; exact rfl; exact fun _ hmm => k2 _ hmm; exact ztk; kernel_rfl) | (refine zsp ?_ ?_ <;> (intro hc; (try simp only [zhcs, reduceCtorEq] at hc); (try (exfalso; first | (first | omega | exact absurd rfl hc) | contradiction | omega | exact absurd rfl hc | exact absurd (by decide) hc))))))
      all_goals ((with_reducible refine At.reachk (⟨3, !q2⟩) ?_ ?_ ?_ ?_); exact zsubs; exact zml; exact zente; exact ⟨⟨(by decide : 3 ≤ 3), by show (!q2) = (b0 && !q0 && !q1 && !q2); rw [← e]; rfl⟩, (by decide : 3 - 3 < 3 - 2)⟩)
  · replace e : q = (b0 && !q0 && !q1 && !q2) := e
    subst e
    (repeat' (first | refine zss ?_ | refine zsM ?_ | (refine zsp ?_ ?_ <;> (intro hc; (try simp only [zhcs, reduceCtorEq] at hc); (try (exfalso; first | (first | omega | exact absurd rfl hc) | contradiction | omega | exact absurd rfl hc | exact absurd (by decide) hc))))))
    all_goals ((with_reducible apply At.retB1 (B := kb b k x)); exact rfl; exact rfl; exact zml; exact zkp; exact ⟨rfl, rfl, rfl⟩)
/-- all ends with the last event -/
def edB (x : Ser) (k : Cfg) : Prop := Raw.lastE x.raw.l = 0 ∧ (Raw.lastV x.raw.l).T = x.last ∧ x.op.c.L.T = x.last ∧ Ti.fits x.op.c k.a x.op.w
instance (x : Ser) (k : Cfg) : Decidable (edB x k) := by unfold edB; infer_instance
def eds (x : Ser) (k : Cfg) : Bool := ex3 (decide (edB x k)) (!bhd x.t0.l (x.last / k.a)) (!bhd x.t1.l (x.last / k.b)) (!bhd x.t2.l (x.last / k.d)) 3
theorem last_pos {lost mark room : Int} {l : List Ev} (h : Raw.rk lost mark l room) (he : Raw.lastE l = 0) : 0 ≤ (Raw.lastV l).T ∧ (Raw.lastV l).T < 35184372088832 := by
  unfold Raw.lastE at he
  unfold Raw.lastV
  by_cases hz : l.length = 0
  · rw [if_pos hz] at he; exact absurd he (by decide)
  · rw [if_neg hz]
    have := h.2.1.1 (l.length - 1) (by omega)
    exact ⟨this.1, this.2.1⟩
set_option maxRecDepth 100000 in
theorem ends {m : Mem} (b : Nat) (k : Cfg) (x : Ser) (ho : x.Ok m) (hk : k.ok) (hr : Raw.rk x.lost x.mark x.raw.l k.r) : Ct Tryz.prog 88 #[pt b] m (kb b k x) (fun v m' B => v = .bool (eds x k) ∧ m = m' ∧ B = kb b k x) := by
  have hlp := last_pos hr
  obtain ⟨sl0, sl1, sl2, sl3, sl4, -, -, -, -, io, -, -, nr, h0, h1, h2, -⟩ := ho
  have hw0 := hk.ha
  have hw1 := hk.hb
  have hw2 := hk.hd
  clear hr hk
  have kl := fun (m' : Mem) (h : m.le m') => Raw.last x.lost x.mark x.raw.p x.raw.c x.raw.l nr (sl1.mono h)
  have kf := Ti.fitsT x.op.c k.a x.op.w io.2.1
  have k0 := fun (m' : Mem) (h : m.le m') => behind x.t0.p x.t0.c x.t0.l (x.last / k.a) h0 (sl2.mono h)
  have k1 := fun (m' : Mem) (h : m.le m') => behind x.t1.p x.t1.c x.t1.l (x.last / k.b) h1 (sl3.mono h)
  have k2 := fun (m' : Mem) (h : m.le m') => behind x.t2.p x.t2.c x.t2.l (x.last / k.d) h2 (sl4.mono h)
  unfold eds
  generalize bhd x.t0.l (x.last / k.a) = q0 at k0 ⊢
  generalize bhd x.t1.l (x.last / k.b) = q1 at k1 ⊢
  generalize bhd x.t2.l (x.last / k.d) = q2 at k2 ⊢
  have hb : edB x k → 0 ≤ x.last ∧ x.last < 35184372088832 := fun h => by rw [← h.2.1]; exact hlp h.1
  clear hlp io nr
  rw [show decide (edB x k) = decide (Raw.lastE x.raw.l = 0 ∧ (Raw.lastV x.raw.l).T = x.last ∧ x.op.c.L.T = x.last ∧ Ti.fits x.op.c k.a x.op.w) from decide_eq_decide.2 Iff.rfl]
  unfold edB at hb
  generalize Raw.lastE x.raw.l = le at kl hb ⊢
  generalize Raw.lastV x.raw.l = lv at kl hb ⊢
  refine Ct.enterV (by rfl) Tryz.func88 rfl Tryz.ntmps88 rfl (fun w0 Rest => ?_)
  (repeat' (first | (refine At.cutp (id := 2) (le = 0 ∧ lv.T = x.last ∧ x.op.c.L.T = x.last ∧ Ti.fits x.op.c k.a x.op.w) 5 [0] (by rfl) ?_ ?_) | refine zss ?_ | ((first | (with_reducible first | apply At.val | apply AtQ.val)); (exact pr_indexArr (k := 0) (by rfl) (by rfl) (by rfl) (by rfl) (by decide)); exact rfl) | refine zsM ?_ | ((with_reducible first | apply AtM1.cr | apply AtQ.cr | apply At.cr); exact rfl; exact rfl; exact fun _ hmm => kl _ hmm; exact ztk; kernel_rfl) | ((with_reducible first | apply AtM1.callp | apply AtQ.callp | apply At.callp); kernel_rfl; exact rfl; exact rfl; exact kf) | ((with_reducible apply At.endp); exact rfl; exact zsubs; exact zml; exact zente; (first | (simp_all; done) | (simp_all <;> omega))) | ((with_reducible apply At.alloc (d := 3)); exact rfl; exact rfl; intro b3) | (refine zsp ?_ ?_ <;> (intro hc; (try simp only [zhcs, reduceCtorEq] at hc); (try (exfalso; first | (first | omega | exact absurd rfl hc) | contradiction | omega | exact absurd rfl hc | exact absurd (by decide) hc))))))
  replace hb : decide (le = 0 ∧ lv.T = x.last ∧ x.op.c.L.T = x.last ∧ Ti.fits x.op.c k.a x.op.w) = true → 0 ≤ x.last ∧ x.last < 35184372088832 := fun h => hb (of_decide_eq_true h)
  generalize decide (le = 0 ∧ lv.T = x.last ∧ x.op.c.L.T = x.last ∧ Ti.fits x.op.c k.a x.op.w) = b0 at hb ⊢
  clear kl kf
  (refine At.loopk (σ := DS) [0, 70] (fun s F0 => (71, .int .i64 (s.j : Int)) :: (5, .bool s.q) :: F0) (fun s => m) (fun s => .blk b 117 (k.cells ++ x.cells) :: Rest) (fun s => s.j ≤ 3 ∧ s.q = ex3 b0 (!q0) (!q1) (!q2) s.j) (fun s => 3 - s.j) ⟨0, b0⟩ (by rfl) ?_ zsubs zml zente ?_)
  · exact ⟨Nat.zero_le _, rfl⟩
  rintro ⟨j, q⟩ ⟨hs, e⟩
  dsimp only at hs e ⊢
  rcases (show j = 0 ∨ j = 1 ∨ j = 2 ∨ j = 3 by omega) with rfl | rfl | rfl | rfl
  · replace e : q = b0 := e
    cases q
    · clear hb
      (repeat' (first | refine zss ?_ | ((first | (with_reducible first | apply At.val | apply AtQ.val)); (exact pr_index_agg (k := 0) (by rfl) (by rfl) (by rfl) (by rfl) (by rfl) (by rfl) (by rfl)); exact rfl) | refine zsM ?_ | ((with_reducible apply At.alloc (d := 3)); exact rfl; exact rfl; intro b3) | (refine zsp ?_ ?_ <;> (intro hc; (try simp only [zhcs, reduceCtorEq] at hc); (try (exfalso; first | (first | omega | exact absurd rfl hc) | contradiction | omega | exact absurd rfl hc | exact absurd (by decide) hc))))))
      all_goals ((with_reducible refine At.reachk (⟨1, false⟩) ?_ ?_ ?_ ?_); exact zsubs; exact zml; exact zente; exact ⟨⟨(by decide : 1 ≤ 3), by show false = (b0 && !q0); rw [← e]; rfl⟩, (by decide : 3 - 1 < 3 - 0)⟩)
    · have hp := hb (by cases b0 with | false => exact absurd e (by first | decide | (simp only [Bool.false_and]; decide)) | true => rfl)
      (repeat' (first | refine zss ?_ | ((first | (with_reducible first | apply At.val | apply AtQ.val)); (first | exact pr_index_agg (k := 0) (by rfl) (by rfl) (by rfl) (by rfl) (by rfl) (by rfl) (by rfl) | exact pr_indexArr (k := 0) (by rfl) (by rfl) (by rfl) (by rfl) (by decide)); exact rfl) | refine zsM ?_ | ((with_reducible first | apply AtM1.cr | apply AtQ.cr | apply At.cr); exact rfl; exact rfl; exact fun _ hmm => k0 _ hmm; exact ztk; kernel_rfl) | ((with_reducible apply At.alloc (d := 3)); exact rfl; exact rfl; intro b3) | (refine zsp ?_ ?_ <;> (intro hc; (try simp only [zhcs, reduceCtorEq] at hc); (try (exfalso; first | (first | omega | exact absurd rfl hc) | contradiction | omega | exact absurd rfl hc | exact absurd (by decide) hc))))))
      all_goals ((with_reducible refine At.reachk (⟨1, !q0⟩) ?_ ?_ ?_ ?_); exact zsubs; exact zml; exact zente; exact ⟨⟨(by decide : 1 ≤ 3), by show (!q0) = (b0 && !q0); rw [← e]; rfl⟩, (by decide : 3 - 1 < 3 - 0)⟩)
  · replace e : q = (b0 && !q0) := e
    cases q
    · clear hb
      (repeat' (first | refine zss ?_ | ((first | (with_reducible first | apply At.val | apply AtQ.val)); (exact pr_index_agg (k := 1) (by rfl) (by rfl) (by rfl) (by rfl) (by rfl) (by rfl) (by rfl)); exact rfl) | refine zsM ?_ | ((with_reducible apply At.alloc (d := 3)); exact rfl; exact rfl; intro b3) | (refine zsp ?_ ?_ <;> (intro hc; (try simp only [zhcs, reduceCtorEq] at hc); (try (exfalso; first | (first | omega | exact absurd rfl hc) | contradiction | omega | exact absurd rfl hc | exact absurd (by decide) hc))))))
      all_goals ((with_reducible refine At.reachk (⟨2, false⟩) ?_ ?_ ?_ ?_); exact zsubs; exact zml; exact zente; exact ⟨⟨(by decide : 2 ≤ 3), by show false = (b0 && !q0 && !q1); rw [← e]; rfl⟩, (by decide : 3 - 2 < 3 - 1)⟩)
    · have hp := hb (by cases b0 with | false => exact absurd e (by first | decide | (simp only [Bool.false_and]; decide)) | true => rfl)
      (repeat' (first | refine zss ?_ | ((first | (with_reducible first | apply At.val | apply AtQ.val)); (first | exact pr_index_agg (k := 1) (by rfl) (by rfl) (by rfl) (by rfl) (by rfl) (by rfl) (by rfl) | exact pr_indexArr (k := 1) (by rfl) (by rfl) (by rfl) (by rfl) (by decide)); exact rfl) | refine zsM ?_ | ((with_reducible first | apply AtM1.cr | apply AtQ.cr | apply At.cr); exact rfl; exact rfl; exact fun _ hmm => k1 _ hmm; exact ztk; kernel_rfl) | ((with_reducible apply At.alloc (d := 3)); exact rfl; exact rfl; intro b3) | (refine zsp ?_ ?_ <;> (intro hc; (try simp only [zhcs, reduceCtorEq] at hc); (try (exfalso; first | (first | omega | exact absurd rfl hc) | contradiction | omega | exact absurd rfl hc | exact absurd (by decide) hc))))))
      all_goals ((with_reducible refine At.reachk (⟨2, !q1⟩) ?_ ?_ ?_ ?_); exact zsubs; exact zml; exact zente; exact ⟨⟨(by decide : 2 ≤ 3), by show (!q1) = (b0 && !q0 && !q1); rw [← e]; rfl⟩, (by decide : 3 - 2 < 3 - 1)⟩)
  · replace e : q = (b0 && !q0 && !q1) := e
    cases q
    · clear hb
      (repeat' (first | refine zss ?_ | ((first | (with_reducible first | apply At.val | apply AtQ.val)); (exact pr_index_agg (k := 2) (by rfl) (by rfl) (by rfl) (by rfl) (by rfl) (by rfl) (by rfl)); exact rfl) | refine zsM ?_ | ((with_reducible apply At.alloc (d := 3)); exact rfl; exact rfl; intro b3) | (refine zsp ?_ ?_ <;> (intro hc; (try simp only [zhcs, reduceCtorEq] at hc); (try (exfalso; first | (first | omega | exact absurd rfl hc) | contradiction | omega | exact absurd rfl hc | exact absurd (by decide) hc))))))
      all_goals ((with_reducible refine At.reachk (⟨3, false⟩) ?_ ?_ ?_ ?_); exact zsubs; exact zml; exact zente; exact ⟨⟨(by decide : 3 ≤ 3), by show false = (b0 && !q0 && !q1 && !q2); rw [← e]; rfl⟩, (by decide : 3 - 3 < 3 - 2)⟩)
    · have hp := hb (by cases b0 with | false => exact absurd e (by first | decide | (simp only [Bool.false_and]; decide)) | true => rfl)
      (repeat' (first | refine zss ?_ | ((first | (with_reducible first | apply At.val | apply AtQ.val)); (first | exact pr_index_agg (k := 2) (by rfl) (by rfl) (by rfl) (by rfl) (by rfl) (by rfl) (by rfl) | exact pr_indexArr (k := 2) (by rfl) (by rfl) (by rfl) (by rfl) (by decide)); exact rfl) | refine zsM ?_ | ((with_reducible first | apply AtM1.cr | apply AtQ.cr | apply At.cr); exact rfl; exact rfl; exact fun _ hmm => k2 _ hmm; exact ztk; kernel_rfl) | ((with_reducible apply At.alloc (d := 3)); exact rfl; exact rfl; intro b3) | (refine zsp ?_ ?_ <;> (intro hc; (try simp only [zhcs, reduceCtorEq] at hc); (try (exfalso; first | (first | omega | exact absurd rfl hc) | contradiction | omega | exact absurd rfl hc | exact absurd (by decide) hc))))))
      all_goals ((with_reducible refine At.reachk (⟨3, !q2⟩) ?_ ?_ ?_ ?_); exact zsubs; exact zml; exact zente; exact ⟨⟨(by decide : 3 ≤ 3), by show (!q2) = (b0 && !q0 && !q1 && !q2); rw [← e]; rfl⟩, (by decide : 3 - 3 < 3 - 2)⟩)
  · replace e : q = (b0 && !q0 && !q1 && !q2) := e
    subst e
    clear hb
    (repeat' (first | refine zss ?_ | refine zsM ?_ | ((with_reducible apply At.alloc (d := 3)); exact rfl; exact rfl; intro b3) | (refine zsp ?_ ?_ <;> (intro hc; (try simp only [zhcs, reduceCtorEq] at hc); (try (exfalso; first | (first | omega | exact absurd rfl hc) | contradiction | omega | exact absurd rfl hc | exact absurd (by decide) hc))))))
    all_goals ((with_reducible apply At.retB1 (B := kb b k x)); exact rfl; exact rfl; exact zml; exact zkp; exact ⟨rfl, rfl, rfl⟩)
/-- a series is right -/
def sok (k : Cfg) (x : Ser) : Prop := fok k x.t0.l x.t1.l x.t2.l ∧ Lb.right x.lab.l ∧ Raw.rk x.lost x.mark x.raw.l k.r ∧ (if x.last = -1 then frs x = true else eds x k = true)
instance (k : Cfg) (x : Ser) : Decidable (sok k x) := by unfold sok; infer_instance
def schk (k : Cfg) (x : Ser) : Int := if sok k x then 0 else 2
set_option maxRecDepth 100000 in
theorem openS {m : Mem} (k : Cfg) (x : Ser) (ho : x.Ok m) : Ct Tryz.prog 68 #[k.v, x.v] m [] (fun v m' B => m = m' ∧ ((sok k x ∧ ∃ q, v = .tuple #[pt q, .int .i64 0] ∧ B = kb q k x) ∨ (¬ sok k x ∧ v = .tuple #[.pointer none, .int .i64 2] ∧ B = []))) := by
  have k0 := fun (m' : Mem) (h : m.le m') => checkF k x.t0 x.t1 x.t2 ho.n0 ho.n1 ho.n2 ho.i0 ho.i1 ho.i2 (ho.s0.mono h) (ho.s1.mono h) (ho.s2.mono h)
  have k1 := fun (m' : Mem) (h : m.le m') => Lb.check x.lab.p x.lab.c x.lab.l ho.ml (ho.sl.mono h)
  have k2 := fun (m' : Mem) (h : m.le m') => Raw.check x.lost x.mark x.raw.p x.raw.c x.raw.l k.r ho.nr (ho.sr.mono h)
  unfold fchk at k0
  unfold Lb.chk at k1
  unfold Raw.chkR at k2
  by_cases h0 : fok k x.t0.l x.t1.l x.t2.l
  rotate_left
  · rw [if_neg h0] at k0
    refine Ct.enterV (by rfl) Tryz.func68 rfl Tryz.ntmps68 rfl (fun w0 Rest => ?_)
    (repeat' (first | refine zss ?_ | refine zsM ?_ | ((with_reducible first | apply AtM1.cr | apply AtQ.cr | apply At.cr); exact rfl; exact rfl; exact fun _ hmm => k0 _ hmm; exact ztk; kernel_rfl) | ((with_reducible apply At.box (d := 2)); exact rfl; exact rfl; exact rfl; intro b2) | ((with_reducible apply At.box (d := 3)); exact rfl; exact rfl; exact rfl; intro b3) | ((with_reducible apply At.box (d := 29)); exact rfl; exact rfl; exact rfl; intro b29) | (refine zsp ?_ ?_ <;> (intro hc; (try simp only [zhcs, reduceCtorEq] at hc); (try (exfalso; first | omega | contradiction | omega | exact absurd rfl hc | exact absurd (by decide) hc))))))
    all_goals ((with_reducible apply At.retV (B := [])); exact rfl; (repeat' (first | exact RVs.nil | (with_reducible apply RVs.cons) | exact rv_tmp (by rfl) | exact rv_cellN (by rfl) (by repeat constructor) (by rfl) (by rfl) (by rfl) | exact rv_cell1 (by rfl) (by repeat constructor) (by rfl) (by rfl))); exact zml; exact zkp; exact ⟨rfl, .inr ⟨fun h => h0 h.1, rfl, rfl⟩⟩)
  rw [if_pos h0] at k0
  by_cases h1 : Lb.right x.lab.l
  rotate_left
  · rw [if_neg h1] at k1
    refine Ct.enterV (by rfl) Tryz.func68 rfl Tryz.ntmps68 rfl (fun w0 Rest => ?_)
    (repeat' (first | refine zss ?_ | refine zsM ?_ | ((with_reducible first | apply AtM1.cr | apply AtQ.cr | apply At.cr); exact rfl; exact rfl; exact fun _ hmm => k0 _ hmm; exact ztk; kernel_rfl) | ((with_reducible first | apply AtM1.cr | apply AtQ.cr | apply At.cr); exact rfl; exact rfl; exact fun _ hmm => k1 _ hmm; exact ztk; kernel_rfl) | ((with_reducible apply At.box (d := 2)); exact rfl; exact rfl; exact rfl; intro b2) | ((with_reducible apply At.box (d := 3)); exact rfl; exact rfl; exact rfl; intro b3) | ((with_reducible apply At.box (d := 29)); exact rfl; exact rfl; exact rfl; intro b29) | (refine zsp ?_ ?_ <;> (intro hc; (try simp only [zhcs, reduceCtorEq] at hc); (try (exfalso; first | omega | contradiction | omega | exact absurd rfl hc | exact absurd (by decide) hc))))))
    all_goals ((with_reducible apply At.retV (B := [])); exact rfl; (repeat' (first | exact RVs.nil | (with_reducible apply RVs.cons) | exact rv_tmp (by rfl) | exact rv_cellN (by rfl) (by repeat constructor) (by rfl) (by rfl) (by rfl) | exact rv_cell1 (by rfl) (by repeat constructor) (by rfl) (by rfl))); exact zml; exact zkp; exact ⟨rfl, .inr ⟨fun h => h1 h.2.1, rfl, rfl⟩⟩)
  rw [if_pos h1] at k1
  by_cases h2 : Raw.rk x.lost x.mark x.raw.l k.r
  rotate_left
  · rw [if_neg h2] at k2
    refine Ct.enterV (by rfl) Tryz.func68 rfl Tryz.ntmps68 rfl (fun w0 Rest => ?_)
    (repeat' (first | refine zss ?_ | refine zsM ?_ | ((with_reducible first | apply AtM1.cr | apply AtQ.cr | apply At.cr); exact rfl; exact rfl; exact fun _ hmm => k0 _ hmm; exact ztk; kernel_rfl) | ((with_reducible first | apply AtM1.cr | apply AtQ.cr | apply At.cr); exact rfl; exact rfl; exact fun _ hmm => k1 _ hmm; exact ztk; kernel_rfl) | ((with_reducible first | apply AtM1.cr | apply AtQ.cr | apply At.cr); exact rfl; exact rfl; exact fun _ hmm => k2 _ hmm; exact ztk; kernel_rfl) | ((with_reducible apply At.box (d := 2)); exact rfl; exact rfl; exact rfl; intro b2) | ((with_reducible apply At.box (d := 3)); exact rfl; exact rfl; exact rfl; intro b3) | ((with_reducible apply At.box (d := 29)); exact rfl; exact rfl; exact rfl; intro b29) | (refine zsp ?_ ?_ <;> (intro hc; (try simp only [zhcs, reduceCtorEq] at hc); (try (exfalso; first | omega | contradiction | omega | exact absurd rfl hc | exact absurd (by decide) hc))))))
    all_goals ((with_reducible apply At.retV (B := [])); exact rfl; (repeat' (first | exact RVs.nil | (with_reducible apply RVs.cons) | exact rv_tmp (by rfl) | exact rv_cellN (by rfl) (by repeat constructor) (by rfl) (by rfl) (by rfl) | exact rv_cell1 (by rfl) (by repeat constructor) (by rfl) (by rfl))); exact zml; exact zkp; exact ⟨rfl, .inr ⟨fun h => h2 h.2.2.1, rfl, rfl⟩⟩)
  rw [if_pos h2] at k2
  have hs : sok k x ↔ (if x.last = -1 then frs x = true else eds x k = true) := ⟨fun h => h.2.2.2, fun h => ⟨h0, h1, h2, h⟩⟩
  by_cases hl : x.last = -1
  · rw [if_pos hl] at hs
    have k3 := fun q => fresh q k x ho
    generalize frs x = f at k3 hs
    cases f
    · refine Ct.enterV (by rfl) Tryz.func68 rfl Tryz.ntmps68 rfl (fun w0 Rest => ?_)
      (repeat' (first | refine zss ?_ | refine zsM ?_ | ((with_reducible first | apply AtM1.cr | apply AtQ.cr | apply At.cr); exact rfl; exact rfl; exact fun _ hmm => k0 _ hmm; exact ztk; kernel_rfl) | ((with_reducible first | apply AtM1.cr | apply AtQ.cr | apply At.cr); exact rfl; exact rfl; exact fun _ hmm => k1 _ hmm; exact ztk; kernel_rfl) | ((with_reducible first | apply AtM1.cr | apply AtQ.cr | apply At.cr); exact rfl; exact rfl; exact fun _ hmm => k2 _ hmm; exact ztk; kernel_rfl) | ((with_reducible first | apply At.c1 | apply At.c0); exact rfl; exact rfl; exact k3 _; exact ztk; kernel_rfl; rintro v' m' B' hm' ⟨rfl, rfl, rfl⟩; skip; (try (have hq0 : hm' = Mem.le_refl _ := rfl; clear hq0 hm'))) | ((with_reducible apply At.box (d := 2)); exact rfl; exact rfl; exact rfl; intro b2) | ((with_reducible apply At.box (d := 3)); exact rfl; exact rfl; exact rfl; intro b3) | ((with_reducible apply At.box (d := 29)); exact rfl; exact rfl; exact rfl; intro b29) | (refine zsp ?_ ?_ <;> (intro hc; (try simp only [zhcs, reduceCtorEq] at hc); (try (exfalso; first | (first | omega | exact absurd hl hc) | contradiction | omega | exact absurd rfl hc | exact absurd (by decide) hc))))))
      all_goals ((with_reducible apply At.retV (B := [])); exact rfl; (repeat' (first | exact RVs.nil | (with_reducible apply RVs.cons) | exact rv_tmp (by rfl) | exact rv_cellN (by rfl) (by repeat constructor) (by rfl) (by rfl) (by rfl) | exact rv_cell1 (by rfl) (by repeat constructor) (by rfl) (by rfl))); exact zml; exact zkp; exact ⟨rfl, .inr ⟨fun h => absurd (hs.1 h) (by decide), rfl, rfl⟩⟩)
    · refine Ct.enterV (by rfl) Tryz.func68 rfl Tryz.ntmps68 rfl (fun w0 Rest => ?_)
      (repeat' (first | refine zss ?_ | refine zsM ?_ | ((with_reducible first | apply AtM1.cr | apply AtQ.cr | apply At.cr); exact rfl; exact rfl; exact fun _ hmm => k0 _ hmm; exact ztk; kernel_rfl) | ((with_reducible first | apply AtM1.cr | apply AtQ.cr | apply At.cr); exact rfl; exact rfl; exact fun _ hmm => k1 _ hmm; exact ztk; kernel_rfl) | ((with_reducible first | apply AtM1.cr | apply AtQ.cr | apply At.cr); exact rfl; exact rfl; exact fun _ hmm => k2 _ hmm; exact ztk; kernel_rfl) | ((with_reducible first | apply At.c1 | apply At.c0); exact rfl; exact rfl; exact k3 _; exact ztk; kernel_rfl; rintro v' m' B' hm' ⟨rfl, rfl, rfl⟩; skip; (try (have hq0 : hm' = Mem.le_refl _ := rfl; clear hq0 hm'))) | ((with_reducible apply At.box (d := 2)); exact rfl; exact rfl; exact rfl; intro b2) | ((with_reducible apply At.box (d := 3)); exact rfl; exact rfl; exact rfl; intro b3) | ((with_reducible apply At.box (d := 29)); exact rfl; exact rfl; exact rfl; intro b29) | (refine zsp ?_ ?_ <;> (intro hc; (try simp only [zhcs, reduceCtorEq] at hc); (try (exfalso; first | (first | omega | exact absurd hl hc) | contradiction | omega | exact absurd rfl hc | exact absurd (by decide) hc))))))
      all_goals ((with_reducible apply At.retV (B := kb b29 k x)); exact rfl; (repeat' (first | exact RVs.nil | (with_reducible apply RVs.cons) | exact rv_tmp (by rfl) | exact rv_cellN (by rfl) (by repeat constructor) (by rfl) (by rfl) (by rfl) | exact rv_cell1 (by rfl) (by repeat constructor) (by rfl) (by rfl))); exact zml; exact zkp; exact ⟨rfl, .inl ⟨hs.2 rfl, b29, rfl, rfl⟩⟩)
  · rw [if_neg hl] at hs
    have k3 := fun q => ends q k x ho h0.1 h2
    generalize eds x k = f at k3 hs
    cases f
    · refine Ct.enterV (by rfl) Tryz.func68 rfl Tryz.ntmps68 rfl (fun w0 Rest => ?_)
      (repeat' (first | refine zss ?_ | refine zsM ?_ | ((with_reducible first | apply AtM1.cr | apply AtQ.cr | apply At.cr); exact rfl; exact rfl; exact fun _ hmm => k0 _ hmm; exact ztk; kernel_rfl) | ((with_reducible first | apply AtM1.cr | apply AtQ.cr | apply At.cr); exact rfl; exact rfl; exact fun _ hmm => k1 _ hmm; exact ztk; kernel_rfl) | ((with_reducible first | apply AtM1.cr | apply AtQ.cr | apply At.cr); exact rfl; exact rfl; exact fun _ hmm => k2 _ hmm; exact ztk; kernel_rfl) | ((with_reducible first | apply At.c1 | apply At.c0); exact rfl; exact rfl; exact k3 _; exact ztk; kernel_rfl; rintro v' m' B' hm' ⟨rfl, rfl, rfl⟩; skip; (try (have hq0 : hm' = Mem.le_refl _ := rfl; clear hq0 hm'))) | ((with_reducible apply At.box (d := 2)); exact rfl; exact rfl; exact rfl; intro b2) | ((with_reducible apply At.box (d := 3)); exact rfl; exact rfl; exact rfl; intro b3) | ((with_reducible apply At.box (d := 29)); exact rfl; exact rfl; exact rfl; intro b29) | (refine zsp ?_ ?_ <;> (intro hc; (try simp only [zhcs, reduceCtorEq] at hc); (try (exfalso; first | (first | omega | exact absurd hc hl) | contradiction | omega | exact absurd rfl hc | exact absurd (by decide) hc))))))
      all_goals ((with_reducible apply At.retV (B := [])); exact rfl; (repeat' (first | exact RVs.nil | (with_reducible apply RVs.cons) | exact rv_tmp (by rfl) | exact rv_cellN (by rfl) (by repeat constructor) (by rfl) (by rfl) (by rfl) | exact rv_cell1 (by rfl) (by repeat constructor) (by rfl) (by rfl))); exact zml; exact zkp; exact ⟨rfl, .inr ⟨fun h => absurd (hs.1 h) (by decide), rfl, rfl⟩⟩)
    · refine Ct.enterV (by rfl) Tryz.func68 rfl Tryz.ntmps68 rfl (fun w0 Rest => ?_)
      (repeat' (first | refine zss ?_ | refine zsM ?_ | ((with_reducible first | apply AtM1.cr | apply AtQ.cr | apply At.cr); exact rfl; exact rfl; exact fun _ hmm => k0 _ hmm; exact ztk; kernel_rfl) | ((with_reducible first | apply AtM1.cr | apply AtQ.cr | apply At.cr); exact rfl; exact rfl; exact fun _ hmm => k1 _ hmm; exact ztk; kernel_rfl) | ((with_reducible first | apply AtM1.cr | apply AtQ.cr | apply At.cr); exact rfl; exact rfl; exact fun _ hmm => k2 _ hmm; exact ztk; kernel_rfl) | ((with_reducible first | apply At.c1 | apply At.c0); exact rfl; exact rfl; exact k3 _; exact ztk; kernel_rfl; rintro v' m' B' hm' ⟨rfl, rfl, rfl⟩; skip; (try (have hq0 : hm' = Mem.le_refl _ := rfl; clear hq0 hm'))) | ((with_reducible apply At.box (d := 2)); exact rfl; exact rfl; exact rfl; intro b2) | ((with_reducible apply At.box (d := 3)); exact rfl; exact rfl; exact rfl; intro b3) | ((with_reducible apply At.box (d := 29)); exact rfl; exact rfl; exact rfl; intro b29) | (refine zsp ?_ ?_ <;> (intro hc; (try simp only [zhcs, reduceCtorEq] at hc); (try (exfalso; first | (first | omega | exact absurd hc hl) | contradiction | omega | exact absurd rfl hc | exact absurd (by decide) hc))))))
      all_goals ((with_reducible apply At.retV (B := kb b29 k x)); exact rfl; (repeat' (first | exact RVs.nil | (with_reducible apply RVs.cons) | exact rv_tmp (by rfl) | exact rv_cellN (by rfl) (by repeat constructor) (by rfl) (by rfl) (by rfl) | exact rv_cell1 (by rfl) (by repeat constructor) (by rfl) (by rfl))); exact zml; exact zkp; exact ⟨rfl, .inl ⟨hs.2 rfl, b29, rfl, rfl⟩⟩)
theorem checkS {m : Mem} (k : Cfg) (x : Ser) (ho : x.Ok m) : Rd Tryz.prog 52 #[k.v, x.v] m [] (.int .i64 (schk k x)) := by
  unfold Rd
  have k0 := openS k x ho
  unfold schk
  refine Ct.enterV (by rfl) Tryz.func52 rfl Tryz.ntmps52 rfl (fun w0 Rest => ?_)
  (repeat' (first | refine zss ?_ | refine zsM ?_ | ((with_reducible first | apply At.c1 | apply At.c0); exact rfl; exact rfl; exact k0; exact ztk; kernel_rfl; rintro v' m' B' hm' ⟨rfl, hv⟩; skip; (try (have hq0 : hm' = Mem.le_refl _ := rfl; clear hq0 hm'))) | (rcases hv with ⟨hv, q', rfl, rfl⟩ | ⟨hv, rfl, rfl⟩) | ((with_reducible apply At.box (d := 2)); exact rfl; exact rfl; exact rfl; intro b2) | ((with_reducible apply At.box (d := 3)); exact rfl; exact rfl; exact rfl; intro b3) | (refine zsp ?_ ?_ <;> (intro hc; (try simp only [zhcs, reduceCtorEq] at hc); (try (exfalso; first | contradiction | omega | exact absurd rfl hc | exact absurd (by decide) hc))))))
  · rw [if_pos hv]
    ((with_reducible apply At.retB1 (B := [])); exact rfl; exact rfl; exact zml; exact zkp; exact ⟨rfl, rfl, rfl⟩)
  · rw [if_neg hv]
    ((with_reducible apply At.retB1 (B := [])); exact rfl; exact rfl; exact zml; exact zkp; exact ⟨rfl, rfl, rfl⟩)
end Se
end Go.Proofs.YtecifniognbomaaGreat
/- Labels held against one another. -/
set_option linter.unusedSimpArgs false
set_option linter.unusedVariables false
set_option linter.unusedSectionVars false
set_option maxRecDepth 20000
set_option maxHeartbeats 4000000
namespace Go.Proofs.YtecifniognbomaaGreat
open Go Go.J
attribute [local irreducible] At AtQ AtM AtM1 PR Ct Pu Rd Res.blk Res.own Res.ex RVs RV
namespace Lb
theorem equal {m : Mem} (p : Option Addr) (c : Nat) (a : List Lab) (q : Option Addr) (d : Nat) (b : List Lab) (hl : a.length ≤ 1000000000) (hlb : b.length ≤ 1000000000) (sl0 : Sl m cells 2 p c a) (sl1 : Sl m cells 2 q d b) :
    Rd Tryz.prog 90 #[.slice p a.length c, .slice q b.length d] m [] (.bool (decide (a = b))) := by
  unfold Rd
  by_cases hlen : a.length = b.length
  · refine Ct.enterV (by rfl) Tryz.func90 rfl Tryz.ntmps90 rfl (fun w0 Rest => ?_)
    (repeat' (first | refine zss ?_ | refine zsM ?_ | (refine zsp ?_ ?_ <;> (intro hc; (try simp only [zhcs, reduceCtorEq] at hc); (try (exfalso; first | omega | contradiction | omega | exact absurd rfl hc | exact absurd (by decide) hc))))))
    (refine At.loopk (σ := Nat) [0, 1, 12] (fun s F0 => (13, .int .i64 (s : Int)) :: F0) (fun s => m) (fun s => Rest) (fun s => s ≤ a.length ∧ ∀ i, i < s → a[i]! = b[i]!) (fun s => a.length - s) 0 (by rfl) ?_ zsubs zml zente ?_)
    · exact ⟨Nat.zero_le _, fun i h => absurd h (Nat.not_lt_zero i)⟩
    rintro s ⟨hs, hn⟩
    by_cases h : s < a.length
    · by_cases e : a[s]! = b[s]!
      · have hnn : ∀ i, i < s + 1 → a[i]! = b[i]! := fun i hi => by
          by_cases e1 : i = s
          · subst e1; exact e
          · exact hn i (by omega)
        (repeat' (first | refine zss ?_ | ((first | (with_reducible first | apply At.val | apply AtQ.val)); (exact pr_lbne (by rfl) (by rfl)); exact rfl) | refine zsM ?_ | (refine zsp ?_ ?_ <;> (intro hc; (try simp only [zhcs, reduceCtorEq] at hc); (try (exfalso; first | (first | omega | exact absurd e hc) | contradiction | omega | exact absurd rfl hc | exact absurd (by decide) hc))))))
        all_goals ((with_reducible refine At.reachk ((s + 1)) ?_ ?_ ?_ ?_); exact zsubs; exact zml; exact zente; exact ⟨⟨h, hnn⟩, by omega⟩)
      · rw [decide_eq_false (show ¬ a = b from fun h => e (by rw [h]))]
        (repeat' (first | refine zss ?_ | ((first | (with_reducible first | apply At.val | apply AtQ.val)); (exact pr_lbne (by rfl) (by rfl)); exact rfl) | refine zsM ?_ | (refine zsp ?_ ?_ <;> (intro hc; (try simp only [zhcs, reduceCtorEq] at hc); (try (exfalso; first | (first | omega | exact absurd hc e) | contradiction | omega | exact absurd rfl hc | exact absurd (by decide) hc))))))
        all_goals ((with_reducible apply At.retB1 (B := [])); exact rfl; exact rfl; exact zml; exact zkp; exact ⟨rfl, rfl, rfl⟩)
    · rw [decide_eq_true (show a = b from Ls.ext! hlen fun i hi => hn i (by omega))]
      (repeat' (first | refine zss ?_ | refine zsM ?_ | (refine zsp ?_ ?_ <;> (intro hc; (try simp only [zhcs, reduceCtorEq] at hc); (try (exfalso; first | omega | contradiction | omega | exact absurd rfl hc | exact absurd (by decide) hc))))))
      all_goals ((with_reducible apply At.retB1 (B := [])); exact rfl; exact rfl; exact zml; exact zkp; exact ⟨rfl, rfl, rfl⟩)
  · rw [decide_eq_false (show ¬ a = b from fun h => hlen (by rw [h]))]
    refine Ct.enterV (by rfl) Tryz.func90 rfl Tryz.ntmps90 rfl (fun w0 Rest => ?_)
    (repeat' (first | refine zss ?_ | refine zsM ?_ | (refine zsp ?_ ?_ <;> (intro hc; (try simp only [zhcs, reduceCtorEq] at hc); (try (exfalso; first | omega | contradiction | omega | exact absurd rfl hc | exact absurd (by decide) hc))))))
    all_goals ((with_reducible apply At.retB1 (B := [])); exact rfl; exact rfl; exact zml; exact zkp; exact ⟨rfl, rfl, rfl⟩)
theorem same {m : Mem} (p : Option Addr) (c : Nat) (a : List Lab) (q : Option Addr) (d : Nat) (b : List Lab) (hl : a.length ≤ 1000000000) (hlb : b.length ≤ 1000000000) (sl0 : Sl m cells 2 p c a) (sl1 : Sl m cells 2 q d b) :
    Rd Tryz.prog 71 #[.slice p a.length c, .slice q b.length d] m [] (.bool (decide (a = b))) := by
  unfold Rd
  have h := fun (m' : Mem) (hm' : m.le m') => equal (m := m') p c a q d b hl hlb (sl0.mono hm') (sl1.mono hm')
  refine Ct.enterV (by rfl) Tryz.func71 rfl Tryz.ntmps71 rfl (fun w0 Rest => ?_)
  (repeat' (first | refine zss ?_ | refine zs0 ?_ | ((with_reducible first | apply AtM1.cr | apply AtQ.cr | apply At.cr); exact rfl; exact rfl; exact fun _ hmm => h _ hmm; exact ztk; kernel_rfl) | (refine zsp ?_ ?_ <;> (intro hc; (try simp only [zhcs, reduceCtorEq] at hc); (try (exfalso; first | contradiction | omega | exact absurd rfl hc | exact absurd (by decide) hc))))))
  all_goals ((with_reducible apply At.retB1 (B := [])); exact rfl; exact rfl; exact zml; exact zkp; exact ⟨rfl, rfl, rfl⟩)
end Lb
end Go.Proofs.YtecifniognbomaaGreat

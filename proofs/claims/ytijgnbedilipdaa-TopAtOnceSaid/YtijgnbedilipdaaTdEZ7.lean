/- Part 7 of what the law's proof needs: rules of the walk, contracts of functions, plain laws. No condition. -/
import Derived.Test.YtijgnbedilipdaaTdEZ6
import Derived.Test.YtijgnbedilipdaaRows
set_option linter.unusedSimpArgs false
set_option linter.unusedVariables false
set_option linter.unusedSectionVars false
set_option maxRecDepth 20000
set_option maxHeartbeats 4000000
namespace Go.Proofs.Ytijgnbedilipdaa
open Go Go.J
attribute [local irreducible] At AtQ AtM AtM1 PR Ct Pu Rd Res.blk Res.own Res.ex RVs RV
namespace Conf
def okB (L : List Int) (s : Nat) : Prop := okA L 3 ∧ (1 < s → L[2]! % L[1]! = 0 ∧ L[2]! / L[1]! ≤ L[4]!) ∧ (2 < s → L[3]! % L[2]! = 0 ∧ L[3]! / L[2]! ≤ L[5]!)
instance (L : List Int) (s : Nat) : Decidable (okB L s) := by unfold okB; infer_instance
def okC (L : List Int) : Prop := okB L 3 ∧ plc L < L[8]!
instance (L : List Int) : Decidable (okC L) := by unfold okC; infer_instance
def chk (L : List Int) : Int := if okC L then 0 else 2
theorem okA_zero (r a b d x y w c g : Int) : okA [r, a, b, d, x, y, w, c, g] 0 ↔ (1 ≤ r ∧ r ≤ 4096) ∧ (1 ≤ c ∧ c ≤ 65536) ∧ (1 ≤ g ∧ g ≤ 8192) :=
  ⟨fun h => ⟨h.1, h.2.1, h.2.2.1⟩, fun h => ⟨h.1, h.2.1, h.2.2, fun i hi => absurd hi (Nat.not_lt_zero i)⟩⟩
theorem okB_one (L : List Int) : okB L 1 ↔ okA L 3 := ⟨fun h => h.1, fun h => ⟨h, fun h => absurd h (by decide), fun h => absurd h (by decide)⟩⟩
theorem okB_two (r a b d x y w c g : Int) : okB [r, a, b, d, x, y, w, c, g] 2 ↔ okB [r, a, b, d, x, y, w, c, g] 1 ∧ (b % a = 0 ∧ b / a ≤ x) :=
  ⟨fun h => ⟨(okB_one _).2 h.1, h.2.1 (by decide)⟩, fun h => ⟨h.1.1, fun _ => h.2, fun h => absurd h (by decide)⟩⟩
theorem okB_three (r a b d x y w c g : Int) : okB [r, a, b, d, x, y, w, c, g] 3 ↔ okB [r, a, b, d, x, y, w, c, g] 2 ∧ (d % b = 0 ∧ d / b ≤ y) :=
  ⟨fun h => ⟨⟨h.1, fun _ => h.2.1 (by decide), fun h => absurd h (by decide)⟩, h.2.2 (by decide)⟩, fun h => ⟨h.1.1, fun _ => h.1.2.1 (by decide), fun _ => h.2⟩⟩
theorem and_false' {p q r : Prop} [Decidable r] (h : r ↔ p ∧ q) (hp : ¬ p) : false = decide r := (decide_eq_false fun hr => hp (h.1 hr).1).symm
theorem and_right' {p q r : Prop} [Decidable r] [Decidable q] (h : r ↔ p ∧ q) (hp : p) : decide q = decide r := decide_eq_decide.2 ⟨fun hq => h.2 ⟨hp, hq⟩, fun hr => (h.1 hr).2⟩
theorem and_mid {p q s r : Prop} [Decidable r] (h : r ↔ p ∧ q ∧ s) (hq : ¬ q) : false = decide r := (decide_eq_false fun hr => hq (h.1 hr).2.1).symm
theorem and_last {p q s r : Prop} [Decidable r] [Decidable s] (h : r ↔ p ∧ q ∧ s) (hp : p) (hq : q) : decide s = decide r := decide_eq_decide.2 ⟨fun hs => h.2 ⟨hp, hq, hs⟩, fun hr => (h.1 hr).2.2⟩
set_option maxHeartbeats 2000000 in
theorem check (L : List Int) (hL : L.length = 9) : Pu Try.prog 22 #[cv L] (.int .i64 (chk L)) := Pu.intro fun m => by
  have hpl := place L hL
  obtain ⟨r, a, b, d, x, y, w, c, g, rfl⟩ := nine hL
  have z0 := okA_zero r a b d x y w c g
  have a1 : okA [r, a, b, d, x, y, w, c, g] 1 ↔ okA [r, a, b, d, x, y, w, c, g] 0 ∧ (1 ≤ a ∧ a ≤ 1099511627776) ∧ (1 ≤ x ∧ x ≤ 4096) := okA_succ _ 0
  have a2 : okA [r, a, b, d, x, y, w, c, g] 2 ↔ okA [r, a, b, d, x, y, w, c, g] 1 ∧ (1 ≤ b ∧ b ≤ 1099511627776) ∧ (1 ≤ y ∧ y ≤ 4096) := okA_succ _ 1
  have a3 : okA [r, a, b, d, x, y, w, c, g] 3 ↔ okA [r, a, b, d, x, y, w, c, g] 2 ∧ (1 ≤ d ∧ d ≤ 1099511627776) ∧ (1 ≤ w ∧ w ≤ 4096) := okA_succ _ 2
  have ob1 := okB_one [r, a, b, d, x, y, w, c, g]
  have ob2 := okB_two r a b d x y w c g
  have ob3 := okB_three r a b d x y w c g
  have hch : chk [r, a, b, d, x, y, w, c, g] = if okB [r, a, b, d, x, y, w, c, g] 3 ∧ plc [r, a, b, d, x, y, w, c, g] < g then 0 else 2 := rfl
  unfold cv at hpl ⊢
  simp only [List.map] at hpl ⊢
  generalize hL0 : [r, a, b, d, x, y, w, c, g] = L at z0 a1 a2 a3 ob1 ob2 ob3 hch hpl hL ⊢
  have v10 : IntKind.wrap .i64 (((1 : Nat) : Int) - 1) = ((0 : Nat) : Int) := rfl
  have v21 : IntKind.wrap .i64 (((2 : Nat) : Int) - 1) = ((1 : Nat) : Int) := rfl
  have hno : ∀ s, ¬ okB L s → chk L = 2 := fun s hs => by
    rw [hch]
    exact if_neg (fun h => hs ⟨h.1.1, fun _ => h.1.2.1 (by decide), fun _ => h.1.2.2 (by decide)⟩)
  have h2 : g ≤ plc L → chk L = 2 := fun h => by
    rw [hch]
    exact if_neg (fun hh => absurd hh.2 (by omega))
  have h0 : okB L 3 → ¬ g ≤ plc L → chk L = 0 := fun h1 h2 => by
    rw [hch]
    exact if_pos ⟨h1, by omega⟩
  have hbd : okA L 3 → (1 ≤ a ∧ a ≤ 1099511627776) ∧ (1 ≤ b ∧ b ≤ 1099511627776) ∧ (1 ≤ d ∧ d ≤ 1099511627776) := fun h => ⟨(a1.1 (a2.1 (a3.1 h).1).1).2.1, (a2.1 (a3.1 h).1).2.1, (a3.1 h).2.1⟩
  refine Ct.enterV (by rfl) Try.func22 rfl Try.ntmps22 rfl (fun w0 Rest => ?_)
  (repeat' (first | refine zss ?_ | refine zs0 ?_ | ((with_reducible first | apply AtM1.callp | apply AtQ.callp | apply At.callp); kernel_rfl; exact rfl; exact rfl; exact in_ _ _ _) | ((with_reducible apply At.box (d := 1)); exact rfl; exact rfl; exact rfl; intro b1) | (refine zsp ?_ ?_ <;> (intro hc; (try simp only [zhcs, reduceCtorEq] at hc); (try (exfalso; first | omega | contradiction | omega | exact absurd rfl hc | exact absurd (by decide) hc))))))
  all_goals (refine At.note (t := 3) (v' := .bool (decide (okA L 0))) (by rfl) (congrArg Value.bool (by first | exact and_false' z0 (by assumption) | exact and_mid z0 (by assumption) | exact and_last z0 (by assumption) (by assumption))) ?_)
  all_goals (refine At.loopk (σ := Nat) [1] (fun s F0 => (19, .int .i64 (s : Int)) :: (3, .bool (decide (okA L s))) :: F0) (fun s => m) (fun s => .blk b1 25 [gi r, gi a, gi b, gi d, gi x, gi y, gi w, gi c, gi g] :: Rest) (fun s => s ≤ 3) (fun s => 3 - s) 0 (by rfl) ?_ zsubs zml zente ?_)
  all_goals try exact Nat.zero_le _
  all_goals (intro s hs; rcases (show s = 0 ∨ s = 1 ∨ s = 2 ∨ s = 3 by omega) with rfl | rfl | rfl | rfl)
  all_goals (repeat' (first | refine zss ?_ | ((first | (with_reducible first | apply At.val | apply AtQ.val)); (exact pr_indexArr (by rfl) (by rfl) (by rfl) (by rfl) (by decide)); exact rfl) | refine zs0 ?_ | ((with_reducible first | apply AtM1.callp | apply AtQ.callp | apply At.callp); kernel_rfl; exact rfl; exact rfl; exact in64 _ _ _) | ((with_reducible first | apply AtM1.callp | apply AtQ.callp | apply At.callp); kernel_rfl; exact rfl; exact rfl; exact in_ _ _ _) | ((with_reducible apply At.box (d := 1)); exact rfl; exact rfl; exact rfl; intro b1) | (refine zsp ?_ ?_ <;> (intro hc; (try simp only [zhcs, reduceCtorEq] at hc); (try (exfalso; first | omega | contradiction | omega | exact absurd rfl hc | exact absurd (by decide) hc))))))
  all_goals try first
    | (refine At.note (t := 3) (v' := .bool (decide (okA L 1))) (by rfl) (congrArg Value.bool (by first | exact and_false' a1 (by assumption) | exact and_mid a1 (by assumption) | exact and_last a1 (by assumption) (by assumption))) ?_; ((with_reducible refine At.reachk (1) ?_ ?_ ?_ ?_); exact zsubs; exact zml; exact zente; exact ⟨by decide, by decide⟩))
    | (refine At.note (t := 3) (v' := .bool (decide (okA L 2))) (by rfl) (congrArg Value.bool (by first | exact and_false' a2 (by assumption) | exact and_mid a2 (by assumption) | exact and_last a2 (by assumption) (by assumption))) ?_; ((with_reducible refine At.reachk (2) ?_ ?_ ?_ ?_); exact zsubs; exact zml; exact zente; exact ⟨by decide, by decide⟩))
    | (refine At.note (t := 3) (v' := .bool (decide (okA L 3))) (by rfl) (congrArg Value.bool (by first | exact and_false' a3 (by assumption) | exact and_mid a3 (by assumption) | exact and_last a3 (by assumption) (by assumption))) ?_; ((with_reducible refine At.reachk (3) ?_ ?_ ?_ ?_); exact zsubs; exact zml; exact zente; exact ⟨by decide, by decide⟩))
  all_goals (refine At.note (t := 3) (v' := .bool (decide (okB L 1))) (by rfl) (congrArg Value.bool (decide_eq_decide.2 ob1.symm)) ?_)
  all_goals (refine At.loopk (σ := Nat) [1] (fun s F0 => (5, .int .i64 (s : Int)) :: (3, .bool (decide (okB L s))) :: F0) (fun s => m) (fun s => .blk b1 25 [gi r, gi a, gi b, gi d, gi x, gi y, gi w, gi c, gi g] :: Rest) (fun s => 1 ≤ s ∧ s ≤ 3) (fun s => 3 - s) 1 (by rfl) ?_ zsubs zml zente ?_)
  all_goals try exact ⟨by decide, by decide⟩
  all_goals (rintro s ⟨hs, hs2⟩; by_cases hB : okB L s)
  all_goals (try have hx := hbd hB.1)
  all_goals (try have hv := hno s hB)
  all_goals (rcases (show s = 1 ∨ s = 2 ∨ s = 3 by omega) with rfl | rfl | rfl)
  all_goals (repeat' (first | refine zss ?_ | ((first | (with_reducible first | apply At.val | apply AtQ.val)); (first | exact pr_sub (by rfl) (by rfl) v10 | exact pr_sub (by rfl) (by rfl) v21 | exact pr_indexArr (by rfl) (by rfl) (by rfl) (by rfl) (by decide)); exact rfl) | refine zs0 ?_ | ((with_reducible first | apply AtM1.callp | apply AtQ.callp | apply At.callp); kernel_rfl; exact rfl; exact rfl; exact hpl hB.1) | ((with_reducible apply At.box (d := 1)); exact rfl; exact rfl; exact rfl; intro b1) | (refine zsp ?_ ?_ <;> (intro hc; (try simp only [zhcs, reduceCtorEq] at hc); (try (exfalso; first | omega | contradiction | omega | exact absurd rfl hc | exact absurd (by decide) hc))))))
  all_goals first
    | (refine At.note (t := 3) (v' := .bool (decide (okB L 2))) (by rfl) (congrArg Value.bool (by first | exact and_false' ob2 (by assumption) | exact and_mid ob2 (by assumption) | exact and_last ob2 (by assumption) (by assumption))) ?_; ((with_reducible refine At.reachk (2) ?_ ?_ ?_ ?_); exact zsubs; exact zml; exact zente; exact ⟨⟨by decide, by decide⟩, by decide⟩))
    | (refine At.note (t := 3) (v' := .bool (decide (okB L 3))) (by rfl) (congrArg Value.bool (by first | exact and_false' ob3 (by assumption) | exact and_mid ob3 (by assumption) | exact and_last ob3 (by assumption) (by assumption))) ?_; ((with_reducible refine At.reachk (3) ?_ ?_ ?_ ?_); exact zsubs; exact zml; exact zente; exact ⟨⟨by decide, by decide⟩, by decide⟩))
    | ((with_reducible apply At.retB1 (B := [])); exact rfl; exact rfl; exact zml; exact zkp; exact ⟨congrArg (Value.int .i64) (Eq.symm (by first | assumption | exact h2 (by assumption) | exact h0 hB (by assumption))), rfl, rfl⟩)
end Conf
end Go.Proofs.Ytijgnbedilipdaa
namespace Go.Proofs.Ytijgnbedilipdaa
open Go Go.J
attribute [local irreducible] At AtQ AtM AtM1 PR Ct Pu Rd Res.blk Res.own Res.ex RVs RV
namespace Conf
abbrev kv (r a b d x y w c g : Int) : Value := .agg #[gi r, gi a, gi b, gi d, gi x, gi y, gi w, gi c, gi g]
/-- what a right one is -/
structure Ok (r a b d x y w c g : Int) : Prop where
  hr : 1 ≤ r ∧ r ≤ 4096
  ha : 1 ≤ a ∧ a ≤ 1099511627776
  hb : 1 ≤ b ∧ b ≤ 1099511627776
  hd : 1 ≤ d ∧ d ≤ 1099511627776
  hx : 1 ≤ x ∧ x ≤ 4096
  hy : 1 ≤ y ∧ y ≤ 4096
  hw : 1 ≤ w ∧ w ≤ 4096
  hc : 1 ≤ c ∧ c ≤ 65536
  hg : 1 ≤ g ∧ g ≤ 8192
  hba : b % a = 0 ∧ b / a ≤ x
  hdb : d % b = 0 ∧ d / b ≤ y
  hp : 1 + (r + 16 - 1) / 16 + (x + 4 - 1) / 4 + (y + 4 - 1) / 4 + (w + 4 - 1) / 4 < g
theorem okC_iff (r a b d x y w c g : Int) : okC [r, a, b, d, x, y, w, c, g] ↔ Ok r a b d x y w c g := by
  constructor
  · rintro ⟨⟨⟨h1, h2, h3, h4⟩, h5, h6⟩, h7⟩
    obtain ⟨a1, x1⟩ := h4 0 (by decide)
    obtain ⟨b1, y1⟩ := h4 1 (by decide)
    obtain ⟨d1, w1⟩ := h4 2 (by decide)
    exact ⟨h1, a1, b1, d1, x1, y1, w1, h2, h3, h5 (by decide), h6 (by decide), h7⟩
  · intro h
    refine ⟨⟨⟨h.hr, h.hc, h.hg, fun i hi => ?_⟩, fun _ => h.hba, fun _ => h.hdb⟩, h.hp⟩
    rcases (show i = 0 ∨ i = 1 ∨ i = 2 by omega) with rfl | rfl | rfl
    · exact ⟨h.ha, h.hx⟩
    · exact ⟨h.hb, h.hy⟩
    · exact ⟨h.hd, h.hw⟩
instance (r a b d x y w c g : Int) : Decidable (Ok r a b d x y w c g) := decidable_of_iff _ (okC_iff r a b d x y w c g)
section
variable {r a b d x y w c g : Int}
abbrev pl (r x y w : Int) : Int := 1 + (r + 16 - 1) / 16 + (x + 4 - 1) / 4 + (y + 4 - 1) / 4 + (w + 4 - 1) / 4
theorem checkK (h : Ok r a b d x y w c g) : Pu Try.prog 22 #[kv r a b d x y w c g] (.int .i64 0) := by
  have := check [r, a, b, d, x, y, w, c, g] rfl
  rw [show chk [r, a, b, d, x, y, w, c, g] = 0 from if_pos ((okC_iff ..).2 h)] at this
  exact this
theorem checkN (h : ¬ Ok r a b d x y w c g) : Pu Try.prog 22 #[kv r a b d x y w c g] (.int .i64 2) := by
  have := check [r, a, b, d, x, y, w, c, g] rfl
  rw [show chk [r, a, b, d, x, y, w, c, g] = 2 from if_neg (fun hh => h ((okC_iff ..).1 hh))] at this
  exact this
theorem placeK (h : Ok r a b d x y w c g) : Pu Try.prog 47 #[kv r a b d x y w c g] (.int .i64 (pl r x y w)) :=
  place [r, a, b, d, x, y, w, c, g] rfl ((okC_iff ..).2 h).1.1
theorem placeF (h : Ok r a b d x y w c g) : Pu Try.prog 23 #[kv r a b d x y w c g] (.int .i64 (pl r x y w)) := Pu.intro fun m => by
  have k1 := checkK h
  have k2 := placeK h
  generalize pl r x y w = q at k2
  refine Ct.enterV (by rfl) Try.func23 rfl Try.ntmps23 rfl (fun w0 Rest => ?_)
  (repeat' (first | refine zss ?_ | refine zs0 ?_ | ((with_reducible first | apply AtM1.callp | apply AtQ.callp | apply At.callp); kernel_rfl; exact rfl; exact rfl; exact k1) | ((with_reducible first | apply AtM1.callp | apply AtQ.callp | apply At.callp); kernel_rfl; exact rfl; exact rfl; exact k2) | ((with_reducible apply At.box (d := 1)); exact rfl; exact rfl; exact rfl; intro b1) | (refine zsp ?_ ?_ <;> (intro hc; (try simp only [zhcs, reduceCtorEq] at hc); (try (exfalso; first | omega | contradiction | omega | exact absurd rfl hc | exact absurd (by decide) hc))))))
  all_goals ((with_reducible apply At.retB1 (B := [])); exact rfl; exact rfl; exact zml; exact zkp; exact ⟨rfl, rfl, rfl⟩)
abbrev ixv (g : Int) : Int := (g + 120 - 1) / 120
theorem indexF (h : Ok r a b d x y w c g) : Pu Try.prog 44 #[kv r a b d x y w c g] (.int .i64 (ixv g)) := Pu.intro fun m => by
  have k1 := checkK h
  have k2 := parts g 120 h.hg.1 (by have := h.hg; omega) (by decide) (by decide)
  refine Ct.enterV (by rfl) Try.func44 rfl Try.ntmps44 rfl (fun w0 Rest => ?_)
  (repeat' (first | refine zss ?_ | refine zs0 ?_ | ((with_reducible first | apply AtM1.callp | apply AtQ.callp | apply At.callp); kernel_rfl; exact rfl; exact rfl; exact k1) | ((with_reducible first | apply AtM1.callp | apply AtQ.callp | apply At.callp); kernel_rfl; exact rfl; exact rfl; exact k2) | ((with_reducible apply At.box (d := 1)); exact rfl; exact rfl; exact rfl; intro b1) | (refine zsp ?_ ?_ <;> (intro hc; (try simp only [zhcs, reduceCtorEq] at hc); (try (exfalso; first | omega | contradiction | omega | exact absurd rfl hc | exact absurd (by decide) hc))))))
  all_goals ((with_reducible apply At.retB1 (B := [])); exact rfl; exact rfl; exact zml; exact zkp; exact ⟨rfl, rfl, rfl⟩)
abbrev hmv (g : Int) : Int := 1 + ixv g + g
theorem homeF (h : Ok r a b d x y w c g) : Pu Try.prog 21 #[kv r a b d x y w c g] (.int .i64 (hmv g)) := Pu.intro fun m => by
  have k1 := checkK h
  have k2 := indexF h
  have hg := h.hg
  have hq : 0 ≤ ixv g ∧ ixv g ≤ 100 := by show 0 ≤ (g + 120 - 1) / 120 ∧ (g + 120 - 1) / 120 ≤ 100; omega
  generalize hi : ixv g = q at k2 hq
  refine Ct.enterV (by rfl) Try.func21 rfl Try.ntmps21 rfl (fun w0 Rest => ?_)
  (repeat' (first | refine zss ?_ | refine zs0 ?_ | ((with_reducible first | apply AtM1.callp | apply AtQ.callp | apply At.callp); kernel_rfl; exact rfl; exact rfl; exact k1) | ((with_reducible first | apply AtM1.callp | apply AtQ.callp | apply At.callp); kernel_rfl; exact rfl; exact rfl; exact k2) | ((with_reducible apply At.box (d := 1)); exact rfl; exact rfl; exact rfl; intro b1) | (refine zsp ?_ ?_ <;> (intro hc; (try simp only [zhcs, reduceCtorEq] at hc); (try (exfalso; first | omega | contradiction | omega | exact absurd rfl hc | exact absurd (by decide) hc))))))
  all_goals ((with_reducible apply At.retB1 (B := [])); exact rfl; exact rfl; exact zml; exact zkp; exact ⟨by rw [← hi], rfl, rfl⟩)
def szv (r x y w c g : Int) : Int := hmv g + 1 + c * pl r x y w
theorem sizeF (h : Ok r a b d x y w c g) : Pu Try.prog 7 #[kv r a b d x y w c g] (if 16777216 < szv r x y w c g then .tuple #[.int .i64 0, .int .i64 1] else .tuple #[.int .i64 (szv r x y w c g), .int .i64 0]) := Pu.intro fun m => by
  have k1 := checkK h
  have k2 := homeF h
  have k3 := placeF h
  have hg := h.hg
  have hc1 := h.hc
  have hr := h.hr
  have hx := h.hx
  have hy := h.hy
  have hw := h.hw
  have hp := h.hp
  have hq : 0 ≤ hmv g ∧ hmv g ≤ 9000 := by show 0 ≤ 1 + (g + 120 - 1) / 120 + g ∧ 1 + (g + 120 - 1) / 120 + g ≤ 9000; omega
  have hP : 0 ≤ pl r x y w ∧ pl r x y w ≤ 8192 := by
    refine ⟨?_, by have : pl r x y w < g := hp; omega⟩
    show 0 ≤ 1 + (r + 16 - 1) / 16 + (x + 4 - 1) / 4 + (y + 4 - 1) / 4 + (w + 4 - 1) / 4
    omega
  have hs : szv r x y w c g = hmv g + 1 + c * pl r x y w := rfl
  clear hp
  generalize hmv g = H at k2 hq hs
  generalize pl r x y w = P at k3 hP hs
  have hm : 0 ≤ c * P ∧ c * P ≤ 65536 * 8192 := ⟨Int.mul_nonneg (by omega) hP.1, Int.mul_le_mul hc1.2 hP.2 hP.1 (by decide)⟩
  obtain ⟨M, eM⟩ : ∃ M, c * P = M := ⟨_, rfl⟩
  rw [hs, eM]
  rw [eM] at hm
  have hmul : IntKind.wrap .i64 (c * P) = M := by rw [eM]; exact IntWalk.i64_in _ (by omega)
  by_cases hb : 16777216 < H + 1 + M
  · rw [if_pos hb]
    refine Ct.enterV (by rfl) Try.func7 rfl Try.ntmps7 rfl (fun w0 Rest => ?_)
    (repeat' (first | refine zss ?_ | ((first | (with_reducible first | apply At.val | apply AtQ.val)); (exact pr_mul (by rfl) (by rfl) hmul); exact rfl) | refine zs0 ?_ | ((with_reducible first | apply AtM1.callp | apply AtQ.callp | apply At.callp); kernel_rfl; exact rfl; exact rfl; exact k1) | ((with_reducible first | apply AtM1.callp | apply AtQ.callp | apply At.callp); kernel_rfl; exact rfl; exact rfl; exact k2) | ((with_reducible first | apply AtM1.callp | apply AtQ.callp | apply At.callp); kernel_rfl; exact rfl; exact rfl; exact k3) | ((with_reducible apply At.box (d := 1)); exact rfl; exact rfl; exact rfl; intro b1) | (refine zsp ?_ ?_ <;> (intro hc; (try simp only [zhcs, reduceCtorEq] at hc); (try (exfalso; first | omega | contradiction | omega | exact absurd rfl hc | exact absurd (by decide) hc))))))
    all_goals ((with_reducible apply At.retV (B := [])); exact rfl; (repeat' (first | exact RVs.nil | (with_reducible apply RVs.cons) | exact rv_tmp (by rfl) | exact rv_cellN (by rfl) (by repeat constructor) (by rfl) (by rfl) (by rfl) | exact rv_cell1 (by rfl) (by repeat constructor) (by rfl) (by rfl))); exact zml; exact zkp; exact ⟨rfl, rfl, rfl⟩)
  · rw [if_neg hb]
    refine Ct.enterV (by rfl) Try.func7 rfl Try.ntmps7 rfl (fun w0 Rest => ?_)
    (repeat' (first | refine zss ?_ | ((first | (with_reducible first | apply At.val | apply AtQ.val)); (exact pr_mul (by rfl) (by rfl) hmul); exact rfl) | refine zs0 ?_ | ((with_reducible first | apply AtM1.callp | apply AtQ.callp | apply At.callp); kernel_rfl; exact rfl; exact rfl; exact k1) | ((with_reducible first | apply AtM1.callp | apply AtQ.callp | apply At.callp); kernel_rfl; exact rfl; exact rfl; exact k2) | ((with_reducible first | apply AtM1.callp | apply AtQ.callp | apply At.callp); kernel_rfl; exact rfl; exact rfl; exact k3) | ((with_reducible apply At.box (d := 1)); exact rfl; exact rfl; exact rfl; intro b1) | (refine zsp ?_ ?_ <;> (intro hc; (try simp only [zhcs, reduceCtorEq] at hc); (try (exfalso; first | omega | contradiction | omega | exact absurd rfl hc | exact absurd (by decide) hc))))))
    all_goals ((with_reducible apply At.retV (B := [])); exact rfl; (repeat' (first | exact RVs.nil | (with_reducible apply RVs.cons) | exact rv_tmp (by rfl) | exact rv_cellN (by rfl) (by repeat constructor) (by rfl) (by rfl) (by rfl) | exact rv_cell1 (by rfl) (by repeat constructor) (by rfl) (by rfl))); exact zml; exact zkp; exact ⟨rfl, rfl, rfl⟩)
theorem fit : Pu Try.prog 19 #[] (kv 20 10 20 60 4 5 6 3 9) := Pu.intro fun m => by
  refine Ct.enterV (by rfl) Try.func19 rfl Try.ntmps19 rfl (fun w0 Rest => ?_)
  (repeat' (first | refine zss ?_ | ((first | (with_reducible first | apply At.val | apply AtQ.val)); (exact pr_buildArr (by rfl) (by rfl)); exact rfl) | refine zs0 ?_ | ((with_reducible apply At.alloc (d := 0)); exact rfl; exact rfl; intro b0) | (refine zsp ?_ ?_ <;> (intro hc; (try simp only [zhcs, reduceCtorEq] at hc); (try (exfalso; first | contradiction | omega | exact absurd rfl hc | exact absurd (by decide) hc))))))
  all_goals ((with_reducible apply At.retV (B := [])); exact rfl; (repeat' (first | exact RVs.nil | (with_reducible apply RVs.cons) | exact rv_tmp (by rfl) | exact rv_cellN (by rfl) (by repeat constructor) (by rfl) (by rfl) (by rfl) | exact rv_cell1 (by rfl) (by repeat constructor) (by rfl) (by rfl))); exact zml; exact zkp; exact ⟨rfl, rfl, rfl⟩)
theorem fit_ok : Ok 20 10 20 60 4 5 6 3 9 := by decide
end
end Conf
end Go.Proofs.Ytijgnbedilipdaa
namespace Go.Proofs.Ytijgnbedilipdaa
open Go Go.J
attribute [local irreducible] At AtQ AtM AtM1 PR Ct Pu Rd Res.blk Res.own Res.ex RVs RV
namespace Cod
abbrev ptr (b : Nat) : Value := .pointer (some ⟨b, 0, none⟩)
def uintB (n : Nat) : List UInt8 := if n < 128 then [UInt8.ofNat n] else UInt8.ofNat (n % 128 + 128) :: uintB (n / 128)
termination_by n
decreasing_by omega
theorem uintB_lt {n : Nat} (h : n < 128) : uintB n = [UInt8.ofNat n] := by rw [uintB, if_pos h]
theorem uintB_ge {n : Nat} (h : ¬ n < 128) : uintB n = UInt8.ofNat (n % 128 + 128) :: uintB (n / 128) := by rw [uintB, if_neg h]
theorem uintB_pos (n : Nat) : 1 ≤ (uintB n).length := by
  by_cases h : n < 128
  · rw [uintB_lt h]; simp
  · rw [uintB_ge h]; simp
theorem uintB_len : ∀ (k n : Nat), n < 128 ^ k → (uintB n).length ≤ max k 1
  | 0, n, h => by rw [uintB_lt (by simp at h; omega)]; exact Nat.le_refl 1
  | k + 1, n, h => by
    by_cases h1 : n < 128
    · rw [uintB_lt h1]; show 1 ≤ max (k + 1) 1; omega
    · rw [uintB_ge h1, List.length_cons]
      have := uintB_len k (n / 128) (by rw [Nat.pow_succ] at h; omega)
      by_cases hk : k = 0
      · subst hk; simp at h; omega
      · omega
theorem uintB_len10 {n : Nat} (h : n < 18446744073709551616) : (uintB n).length ≤ 10 := by
  have := uintB_len 10 n (by omega)
  omega
theorem bI_of {n : Nat} (h : n < 256) : bI (UInt8.ofNat n) = (n : Int) := by
  unfold bI
  rw [UInt8.toNat_ofNat_of_lt' (by show n < 256; omega)]
theorem or128 (n : Nat) : bits .or .u8 ((n : Int) % 256) 128 = bI (UInt8.ofNat (n % 128 + 128)) := by
  rw [bI_of (by omega), u8_or _ _ (by omega) (by omega) (by omega) (by omega)]
  have e : ((n : Int) % 256).toNat = n % 256 := by omega
  rw [e, show ((128 : Int)).toNat = 128 from rfl]
  have : n % 256 ||| 128 = n % 128 + 128 := by
    have h2 : n % 256 % 128 ||| 128 = n % 256 % 128 + 128 := by rw [Nat.or_comm, nat_join 7 128 (n % 256 % 128) (by decide) (by omega)]; omega
    rcases Nat.lt_or_ge (n % 256) 128 with h | h
    · rw [Nat.mod_eq_of_lt h] at h2; rw [h2]; omega
    · have h3 : n % 256 = 128 + n % 256 % 128 := by omega
      have h4 : 128 ||| (n % 256 % 128) = 128 + n % 256 % 128 := nat_join 7 128 _ (by decide) (by omega)
      rw [h3, ← h4, Nat.or_assoc, Nat.or_comm _ 128, ← Nat.or_assoc, Nat.or_self, h4]; omega
  rw [this]
/-- a writer's block, and its bytes -/
abbrev wr (b : Nat) (p : Option Addr) (c : Nat) (L : List Int) : List Res := [.blk b 110 [.slice p L.length c], .own fb 1 5 p c L]
def W (b : Nat) (l : List UInt8) : Res := .ex (σ := Option Addr × Nat) (fun _ => True) (fun s => wr b s.1 s.2 (l.map bI))
theorem W.open {m : Mem} {f : FuncId} {args : Array Value} {b : Nat} {l : List UInt8} {Q : Value → Mem → List Res → Prop} (h : ∀ p c, Ct Try.prog f args m (wr b p c (l.map bI)) Q) : Ct Try.prog f args m [W b l] Q := Ct.openx fun s _ => by rw [List.append_nil]; exact h s.1 s.2
theorem W.close {b : Nat} {l : List UInt8} (p : Option Addr) (c : Nat) (L : List Int) (e : L = l.map bI) (Rest : List Res) : Ent (wr b p c L ++ Rest) (W b l :: Rest) := by
  subst e
  exact Ent.closex (A := fun s : Option Addr × Nat => wr b s.1 s.2 (l.map bI)) (p, c) trivial
theorem W.conv {m : Mem} {f : FuncId} {args : Array Value} {A : List Res} {b : Nat} {l' : List UInt8} {V : Value} (h : Ct Try.prog f args m A (fun v m' B => v = V ∧ m = m' ∧ ∃ p' c', B = wr b p' c' (l'.map bI))) :
    Ct Try.prog f args m A (fun v m' B => v = V ∧ m = m' ∧ B = [W b l']) :=
  Ct.conv h fun v m' B _ ⟨h1, h2, p', c', h3⟩ => ⟨[W b l'], ⟨h1, h2, rfl⟩, fun Rest => by subst h3; exact W.close p' c' _ rfl Rest⟩
theorem own0 (b : Nat) (Rest : List Res) : Ent (.blk b 110 [.slice none 0 0] :: Rest) (W b [] :: Rest) :=
  (Ent.cons _ (own_nil_ent fb 1 5 Rest)).trans (W.close (b := b) (l := []) none 0 [] rfl Rest)
structure US where
  n : Nat
  L : List Int
  p : Option Addr
  c : Nat
theorem xor_ones {k y : Nat} (h : y < 2 ^ k) : y ^^^ (2 ^ k - 1) = 2 ^ k - 1 - y := by
  apply Nat.eq_of_testBit_eq
  intro i
  rw [Nat.testBit_xor, Nat.testBit_two_pow_sub_one, show 2 ^ k - 1 - y = 2 ^ k - (y + 1) by omega, Nat.testBit_two_pow_sub_succ h]
  by_cases hi : i < k
  · simp [hi]
  · simp [hi, Nat.testBit_lt_two_pow (Nat.lt_of_lt_of_le h (Nat.pow_le_pow_right (by decide) (by omega : k ≤ i)))]
def zig (n : Int) : Nat := if n < 0 then (2 * (-(n + 1)) + 1).toNat else (2 * n).toNat
theorem zig_lt {n : Int} (hn : -9223372036854775808 ≤ n ∧ n ≤ 9223372036854775807) : zig n < 18446744073709551616 := by unfold zig; split <;> omega
theorem zigx0 {n : Int} (h0 : ¬ n < 0) (h : n ≤ 9223372036854775807) : bits .xor .u64 (n * 2) (n / 9223372036854775808) = (zig n : Int) := by
  have e : n / 9223372036854775808 = 0 := by omega
  rw [e, u64_xor _ _ (by omega) (by omega) (by omega) (by omega)]
  unfold zig
  rw [if_neg h0, show ((0 : Int)).toNat = 0 from rfl, Nat.xor_zero, Int.mul_comm]
theorem zigx1 {n : Int} (h0 : n < 0) (h : -9223372036854775808 ≤ n) : bits .xor .u64 ((n % 18446744073709551616 * 2) % 18446744073709551616) (n / 9223372036854775808 % 18446744073709551616) = (zig n : Int) := by
  have e : n / 9223372036854775808 % 18446744073709551616 = 18446744073709551615 := by omega
  have e2 : (n % 18446744073709551616 * 2) % 18446744073709551616 = 18446744073709551616 + 2 * n := by omega
  rw [e, e2, u64_xor _ _ (by omega) (by omega) (by omega) (by omega)]
  unfold zig
  rw [if_pos h0, show ((18446744073709551615 : Int)).toNat = 2 ^ 64 - 1 from rfl, xor_ones (by omega)]
  omega
theorem raw0 {m : Mem} (b : Nat) (p : Option Addr) (c : Nat) (l t : List UInt8) (hl : l.length + t.length ≤ 30000000000) :
    Ct Try.prog 56 #[ptr b, .string (str t)] m (wr b p c (l.map bI)) (fun v m' B => v = .tuple #[] ∧ m = m' ∧ ∃ p' c', B = wr b p' c' ((l ++ t).map bI)) := by
  refine Ct.enterV (by rfl) Try.func56 rfl Try.ntmps56 rfl (fun w0 Rest => ?_)
  (repeat' (first | refine zss ?_ | refine zsO ?_ | ((with_reducible apply At.append_str); exact rfl; exact rfl; exact (by repeat constructor); (iterate 3 exact rfl); exact zlq; exact zom; exact rfl; intro _ _) | (refine zsp ?_ ?_ <;> (intro hc; (try simp only [zhcs, reduceCtorEq] at hc); (try (exfalso; first | contradiction | omega | exact absurd rfl hc | exact absurd (by decide) hc))))))
  all_goals ((first | (with_reducible apply At.retB0 (B := [.blk b _ _, .own fb 1 5 _ _ _])) | (with_reducible apply At.retR0 (B := [.blk b _ _, .own fb 1 5 _ _ _]))); exact rfl; exact zml; exact zkp; exact ⟨rfl, rfl, _, _, by rw [List.map_append]⟩)
theorem raw {m : Mem} (b : Nat) (l t : List UInt8) (hl : l.length + t.length ≤ 30000000000) :
    Ct Try.prog 56 #[ptr b, .string (str t)] m [W b l] (fun v m' B => v = .tuple #[] ∧ m = m' ∧ B = [W b (l ++ t)]) :=
  W.open fun p c => W.conv (raw0 b p c l t hl)
def textB (t : List UInt8) : List UInt8 := uintB t.length ++ t
theorem out {m : Mem} (b : Nat) (l : List UInt8) : Rd Try.prog 59 #[ptr b] m [W b l] (.string (str l)) :=
  Rd.openx fun s _ => by
    rw [List.append_nil]
    unfold Rd
    refine Ct.enterV (by rfl) Try.func59 rfl Try.ntmps59 rfl (fun w0 Rest => ?_)
    (repeat' (first | refine zss ?_ | refine zsO ?_ | (refine zsp ?_ ?_ <;> (intro hc; (try simp only [zhcs, reduceCtorEq] at hc); (try (exfalso; first | contradiction | omega | exact absurd rfl hc | exact absurd (by decide) hc))))))
    all_goals ((with_reducible apply At.retB1 (B := wr b s.1 s.2 (l.map bI))); exact rfl; exact rfl; exact zml; exact zkp; exact ⟨by rw [u8_map], rfl, rfl⟩)
def fixB (w : Int) (n : Nat) : List UInt8 := if 1 ≤ w ∧ w ≤ 8 then (List.range w.toNat).map (fun i => UInt8.ofNat (n / 256 ^ (w.toNat - 1 - i))) else []
theorem bI_mod (n : Nat) : bI (UInt8.ofNat n) = ((n % 256 : Nat) : Int) := by unfold bI; rfl
theorem fix_step (n k w : Nat) (h : k < w) : ((n : Int) / 2 ^ (8 * ((w : Int) - 1 - k)).toNat) % 256 = bI (UInt8.ofNat (n / 256 ^ (w - 1 - k))) := by
  rw [bI_mod, show (8 * ((w : Int) - 1 - k)).toNat = 8 * (w - 1 - k) by omega, show (256 : Nat) ^ (w - 1 - k) = 2 ^ (8 * (w - 1 - k)) by rw [Nat.pow_mul], Int.natCast_emod, Int.natCast_ediv, Int.natCast_pow]
  rfl
structure FSt where
  k : Nat
  L : List Int
  p : Option Addr
  c : Nat
theorem fixed0 {m : Mem} (b n w : Nat) (p : Option Addr) (c : Nat) (l : List UInt8) (hn : n < 18446744073709551616) (hl : l.length ≤ 30000000000) (h1 : 1 ≤ w) (h8 : w ≤ 8) :
    Ct Try.prog 57 #[ptr b, .int .i64 (w : Int), .int .u64 (n : Int)] m (wr b p c (l.map bI)) (fun v m' B => v = .tuple #[] ∧ m = m' ∧ ∃ p' c', B = wr b p' c' ((l ++ fixB w n).map bI)) := by
  refine Ct.enterV (by rfl) Try.func57 rfl Try.ntmps57 rfl (fun w0 Rest => ?_)
  (repeat' (first | refine zss ?_ | refine zsO ?_ | (refine zsp ?_ ?_ <;> (intro hc; (try simp only [zhcs, reduceCtorEq] at hc); (try (exfalso; first | contradiction | omega | exact absurd rfl hc | exact absurd (by decide) hc))))))
  (refine At.loopk (σ := FSt) [0, 2] (fun s F0 => (6, .int .i64 (8 * ((w : Int) - 1 - s.k))) :: F0) (fun s => m) (fun s => .blk b 110 [.slice s.p s.L.length s.c] :: .own fb 1 5 s.p s.c s.L :: Rest) (fun s => s.k ≤ w ∧ s.L = (l ++ (List.range s.k).map (fun i => UInt8.ofNat (n / 256 ^ (w - 1 - i)))).map bI) (fun s => w - s.k) ⟨0, l.map bI, p, c⟩ (by rfl) ?_ zsubs zml zente ?_)
  · exact ⟨Nat.zero_le _, by simp⟩
  intro s ⟨hs, he⟩
  have hlen : s.L.length = l.length + s.k := by rw [he]; simp
  by_cases hlt : s.k < w
  · (repeat' (first | ((with_reducible apply At.mixed (id := 4) 14 (.q 0 (.q 1 (.q 2 (.q 3 (.q 4 (.q 5 (.q 6 (.q 7 (.q 8 (.l 9 (.x 10 (.q 11 (.q 12 (.x 13 .done))))))))))))))); exact rfl; kernel_rfl; kernel_rfl; kernel_rfl) | refine zsx ?_ | refine zss ?_ | ((with_reducible apply AtM.bo); exact rfl; exact rfl; exact rfl) | ((first | (with_reducible first | apply At.val | apply AtQ.val) | ((with_reducible first | apply AtM1.valz | apply AtM1.val); exact rfl) | ((with_reducible apply AtM1.val); exact rfl)); (exact pr_conv ⟨_, by rfl⟩ (by rfl) (by rfl) ((IntKind.wrap_u8 _).trans (fix_step n s.k w hlt))); exact rfl) | refine zsO ?_ | refine zxO ?_ | ((with_reducible apply At.lit fb [_]); exact inferInstance; (iterate 7 exact rfl); intro _) | ((with_reducible apply At.apW (f := fb)); exact rfl; exact rfl; exact (by repeat constructor); exact inferInstance; exact zrdl; (iterate 4 exact rfl); exact zom; exact rfl; intro p2 c2) | (refine zsp ?_ ?_ <;> (intro hc; (try simp only [zhcs, reduceCtorEq] at hc); (try (exfalso; first | omega | contradiction | omega | exact absurd rfl hc | exact absurd (by decide) hc))))))
    all_goals ((with_reducible refine At.reachk (⟨s.k + 1, s.L ++ [bI (UInt8.ofNat (n / 256 ^ (w - 1 - s.k)))], p2, c2⟩) ?_ ?_ ?_ ?_); exact zsubs; exact zml; exact zente; exact ⟨⟨hlt, by show _ ++ _ = _; rw [he, List.range_succ]; simp⟩, by show w - (s.k + 1) < w - s.k; omega⟩)
  · (repeat' (first | refine zss ?_ | refine zsO ?_ | (refine zsp ?_ ?_ <;> (intro hc; (try simp only [zhcs, reduceCtorEq] at hc); (try (exfalso; first | omega | contradiction | omega | exact absurd rfl hc | exact absurd (by decide) hc))))))
    all_goals ((first | (with_reducible apply At.retB0 (B := [.blk b _ _, .own fb 1 5 _ _ s.L])) | (with_reducible apply At.retR0 (B := [.blk b _ _, .own fb 1 5 _ _ s.L]))); exact rfl; exact zml; exact zkp; exact ⟨rfl, rfl, _, _, by rw [he]; unfold fixB; rw [if_pos (by omega), show s.k = w by omega]; rfl⟩)
theorem fixed {m : Mem} (b n : Nat) (w : Int) (l : List UInt8) (hn : n < 18446744073709551616) (hl : l.length ≤ 30000000000) :
    Ct Try.prog 57 #[ptr b, .int .i64 w, .int .u64 (n : Int)] m [W b l] (fun v m' B => v = .tuple #[] ∧ m = m' ∧ B = [W b (l ++ fixB w n)]) := by
  by_cases hw : 1 ≤ w ∧ w ≤ 8
  · obtain ⟨k, rfl⟩ : ∃ k : Nat, w = k := ⟨w.toNat, by omega⟩
    exact W.open fun p c => W.conv (fixed0 b n k p c l hn hl (by omega) (by omega))
  · have e : fixB w n = [] := if_neg hw
    rw [e, List.append_nil]
    refine Ct.enterV (by rfl) Try.func57 rfl Try.ntmps57 rfl (fun w0 Rest => ?_)
    (repeat' (first | refine zss ?_ | refine zsO ?_ | (refine zsp ?_ ?_ <;> (intro hc; (try simp only [zhcs, reduceCtorEq] at hc); (try (exfalso; first | omega | contradiction | omega | exact absurd rfl hc | exact absurd (by decide) hc))))))
    all_goals ((first | (with_reducible apply At.retB0 (B := [W b l])) | (with_reducible apply At.retR0 (B := [W b l]))); exact rfl; exact zml; exact zkp; exact ⟨rfl, rfl, rfl⟩)
/-! ### the document's bytes -/
theorem zig_neg {n : Int} (h : n < 0) : (zig n : Int) = 2 * (0 - (n + 1)) + 1 := by unfold zig; rw [if_pos h]; omega
theorem zig_pos {n : Int} (h : ¬ n < 0) : (zig n : Int) = 2 * n := by unfold zig; rw [if_neg h]; omega
theorem fix_get (n w j : Nat) (h : j < w) (h1 : 1 ≤ w) (h8 : w ≤ 8) : ((fixB w n).map bI)[j]! = ((n / 256 ^ (w - 1 - j) % 256 : Nat) : Int) := by
  unfold fixB
  rw [if_pos (by omega), getElem!_pos _ j (by simp; omega)]
  simp [bI_mod]
theorem fix_len (n w : Nat) (h1 : 1 ≤ w) (h8 : w ≤ 8) : (fixB w n).length = w := by
  unfold fixB
  rw [if_pos (by omega)]; simp
structure GS where
  i : Nat
  d : Nat
  L : List Int
theorem fix_inv {n k d i : Nat} {L : List Int} (h0 : d = n / 256 ^ i) (h1 : i ≤ k) (h2 : L.length = k) (h3 : ∀ j, j < k → L[j]! = if k - i ≤ j then ((n / 256 ^ (k - 1 - j) % 256 : Nat) : Int) else 0) (h : i < k) :
    d / 256 = n / 256 ^ (i + 1) ∧ i + 1 ≤ k ∧ (L.set (k - 1 - i) ((d : Int) % 256)).length = k ∧ ∀ j, j < k → (L.set (k - 1 - i) ((d : Int) % 256))[j]! = if k - (i + 1) ≤ j then ((n / 256 ^ (k - 1 - j) % 256 : Nat) : Int) else 0 := by
  refine ⟨by rw [h0, Nat.div_div_eq_div_mul, Nat.pow_succ], h, by simpa using h2, fun j hj => ?_⟩
  by_cases e : j = k - 1 - i
  · subst e
    rw [getElem!_pos _ _ (by simp; omega), List.getElem_set_self, if_pos (by omega), show k - 1 - (k - 1 - i) = i by omega, ← h0]
    rfl
  · rw [getElem!_pos _ j (by simp; omega), List.getElem_set_ne (Ne.symm e), ← getElem!_pos L j (by omega), h3 j hj]
    by_cases e2 : k - i ≤ j
    · rw [if_pos e2, if_pos (by omega)]
    · rw [if_neg e2, if_neg (by omega)]
end Cod
end Go.Proofs.Ytijgnbedilipdaa
namespace Go.Proofs.Ytijgnbedilipdaa
open Go Go.J
attribute [local irreducible] At AtQ AtM AtM1 PR Ct Pu Rd Res.blk Res.own Res.ex RVs RV Cod.W
namespace Cod
/-- a number's bytes, from the i-th one on -/
def dec : Nat → List UInt8 → Option (Nat × List UInt8)
  | _, [] => none
  | i, c :: r => if 9 < i ∨ (i = 9 ∧ 1 < c.toNat) then none else if 128 ≤ c.toNat then (match dec (i + 1) r with
      | some x => some (c.toNat % 128 + 128 * x.1, x.2)
      | none => none) else if c.toNat = 0 ∧ 0 < i then none else some (c.toNat, r)
theorem dec_ten (l : List UInt8) (i : Nat) (h : 9 < i) : dec i l = none := by
  cases l with
  | nil => rfl
  | cons c r => rw [dec, if_pos (.inl h)]
theorem ofNat_toNat (c : UInt8) : UInt8.ofNat c.toNat = c := by simp
theorem dec_spec : ∀ (l : List UInt8) (i n : Nat) (s : List UInt8), dec i l = some (n, s) → l = uintB n ++ s ∧ n < 2 ^ (64 - 7 * i) ∧ (0 < i → n ≠ 0) ∧ i ≤ 9
  | [], _, _, _, h => by cases h
  | c :: r, i, n, s, h => by
    have hc := c.toNat_lt
    unfold dec at h
    by_cases h1 : 9 < i ∨ (i = 9 ∧ 1 < c.toNat)
    · rw [if_pos h1] at h; cases h
    · rw [if_neg h1] at h
      by_cases h2 : 128 ≤ c.toNat
      · rw [if_pos h2] at h
        cases hd : dec (i + 1) r with
        | none => rw [hd] at h; cases h
        | some x =>
          obtain ⟨n', s'⟩ := x
          rw [hd] at h
          simp only [Option.some.injEq, Prod.mk.injEq] at h
          obtain ⟨h3, rfl⟩ := h
          obtain ⟨g1, g2, g3, g4⟩ := dec_spec r (i + 1) n' s' hd
          have g5 := g3 (by omega)
          have hpow : 2 ^ (64 - 7 * i) = 128 * 2 ^ (64 - 7 * (i + 1)) := by
            rw [show (128 : Nat) = 2 ^ 7 from rfl, ← Nat.pow_add]; congr 1; omega
          refine ⟨?_, by rw [hpow]; omega, fun _ => by omega, by omega⟩
          subst h3
          rw [uintB_ge (by omega), g1, show (c.toNat % 128 + 128 * n') % 128 + 128 = c.toNat by omega, show (c.toNat % 128 + 128 * n') / 128 = n' by omega, ofNat_toNat]
          rfl
      · rw [if_neg h2] at h
        by_cases h3 : c.toNat = 0 ∧ 0 < i
        · rw [if_pos h3] at h; cases h
        · rw [if_neg h3] at h
          simp only [Option.some.injEq, Prod.mk.injEq] at h
          obtain ⟨rfl, rfl⟩ := h
          refine ⟨by rw [uintB_lt (by omega), ofNat_toNat]; rfl, ?_, fun hi => by omega, by omega⟩
          by_cases h9 : i = 9
          · subst h9
            show _ < 2
            omega
          · have : 2 ^ 7 ≤ 2 ^ (64 - 7 * i) := Nat.pow_le_pow_right (by decide) (by omega)
            omega
theorem dec_back : ∀ (k n i : Nat) (s : List UInt8), 9 - i = k → i ≤ 9 → n < 2 ^ (64 - 7 * i) → (0 < i → n ≠ 0) → dec i (uintB n ++ s) = some (n, s)
  | 0, n, i, s, hk, h0, h1, h2 => by
    have h9 : i = 9 := by omega
    subst h9
    have hn : n < 2 := h1
    rw [uintB_lt (by omega), List.singleton_append, dec]
    have e : (UInt8.ofNat n).toNat = n := by
      have := bI_of (n := n) (by omega)
      unfold bI at this; omega
    rw [e, if_neg (by omega), if_neg (by omega), if_neg (by have := h2 (by omega); omega)]
  | k + 1, n, i, s, hk, h0, h1, h2 => by
    by_cases hn : n < 128
    · rw [uintB_lt hn, List.singleton_append, dec]
      have e : (UInt8.ofNat n).toNat = n := by
        have := bI_of (n := n) (by omega)
        unfold bI at this; omega
      rw [e, if_neg (by omega), if_neg (by omega), if_neg (by intro h; have := h2 h.2; omega)]
    · have hpow : 2 ^ (64 - 7 * i) = 128 * 2 ^ (64 - 7 * (i + 1)) := by
        rw [show (128 : Nat) = 2 ^ 7 from rfl, ← Nat.pow_add]; congr 1; omega
      have := dec_back k (n / 128) (i + 1) s (by omega) (by omega) (by rw [hpow] at h1; omega) (fun _ => by omega)
      rw [uintB_ge hn, List.cons_append, dec, this]
      have e : (UInt8.ofNat (n % 128 + 128)).toNat = n % 128 + 128 := by
        have := bI_of (n := n % 128 + 128) (by omega)
        unfold bI at this; omega
      rw [e, if_neg (by omega), if_pos (by omega)]
      simp only [Option.some.injEq, Prod.mk.injEq, and_true]
      omega
theorem dec_uint {n : Nat} (h : n < 18446744073709551616) (s : List UInt8) : dec 0 (uintB n ++ s) = some (n, s) := dec_back 9 n 0 s rfl (by decide) h (fun h => absurd h (by decide))
abbrev RS := List UInt8 × Bool
def rU (s : RS) : Nat × RS := match dec 0 s.1 with
  | some x => (x.1, (x.2, s.2))
  | none => (0, ([], true))
theorem rU_lt (s : RS) : (rU s).1 < 18446744073709551616 := by
  unfold rU
  cases h : dec 0 s.1 with
  | none => simp
  | some x =>
    obtain ⟨n, r⟩ := x
    have := (dec_spec _ _ _ _ h).2.1
    simpa using this
abbrev rd (b : Nat) (s : RS) : Res := .blk b 122 [.string (str s.1), .bool s.2]
abbrev rv (s : RS) : Value := .agg #[.string (str s.1), .bool s.2]
theorem fail {m : Mem} (b : Nat) (s : RS) : Ct Try.prog 65 #[ptr b] m [rd b s] (fun v m' B => v = .tuple #[] ∧ m = m' ∧ B = [rd b ([], true)]) := by
  refine Ct.enterV (by rfl) Try.func65 rfl Try.ntmps65 rfl (fun w0 Rest => ?_)
  (repeat' (first | refine zss ?_ | refine zs0 ?_ | (refine zsp ?_ ?_ <;> (intro hc; (try simp only [zhcs, reduceCtorEq] at hc); (try (exfalso; first | contradiction | omega | exact absurd rfl hc | exact absurd (by decide) hc))))))
  all_goals ((first | (with_reducible apply At.retB0 (B := [.blk b _ _])) | (with_reducible apply At.retR0 (B := [.blk b _ _]))); exact rfl; exact zml; exact zkp; exact ⟨rfl, rfl, rfl⟩)
/-- what is had of the first i bytes, none of which is the last one -/
structure Part (l : List UInt8) (i A : Nat) : Prop where
  le : i ≤ l.length
  lt : A < 128 ^ i
  dec : dec 0 l = (match dec i (l.drop i) with
    | some x => some (A + 128 ^ i * x.1, x.2)
    | none => none)
  pre : ∀ n', n' ≠ 0 ∨ i = 0 → uintB (A + 128 ^ i * n') = l.take i ++ uintB n'
theorem Part.zero (l : List UInt8) : Part l 0 0 := by
  refine ⟨Nat.zero_le _, by decide, ?_, fun n' _ => by simp⟩
  rw [List.drop_zero]
  cases Cod.dec 0 l with
  | none => rfl
  | some x => simp
theorem drop_cons {l : List UInt8} {i : Nat} (h : i < l.length) : l.drop i = l[i]! :: l.drop (i + 1) := by
  rw [getElem!_pos l i h, List.drop_eq_getElem_cons h]
theorem take_snoc {l : List UInt8} {i : Nat} (h : i < l.length) : l.take (i + 1) = l.take i ++ [l[i]!] := by
  rw [List.take_add_one, getElem!_pos l i h]; simp [h]
theorem Part.none1 {l : List UInt8} {i A : Nat} (h : Part l i A) (hi : l.length ≤ i ∨ 9 < i) : Cod.dec 0 l = none := by
  rw [h.dec]
  have : Cod.dec i (l.drop i) = none := by
    rcases hi with hi | hi
    · rw [List.drop_eq_nil_of_le hi]; rfl
    · exact dec_ten _ _ hi
  rw [this]
theorem Part.none2 {l : List UInt8} {i A : Nat} (h : Part l i A) (hi : i < l.length) (hc : (i = 9 ∧ 1 < (l[i]!).toNat) ∨ ((l[i]!).toNat = 0 ∧ 0 < i)) : Cod.dec 0 l = none := by
  rw [h.dec, drop_cons hi]
  have : Cod.dec i (l[i]! :: l.drop (i + 1)) = none := by
    unfold Cod.dec
    rcases hc with hc | hc
    · rw [if_pos (.inr hc)]
    · by_cases h9 : 9 < i ∨ (i = 9 ∧ 1 < (l[i]!).toNat)
      · rw [if_pos h9]
      · rw [if_neg h9, if_neg (by omega), if_pos hc]
  rw [this]
theorem Part.some1 {l : List UInt8} {i A : Nat} (h : Part l i A) (hi : i < l.length) (h9 : ¬ (9 < i ∨ (i = 9 ∧ 1 < (l[i]!).toNat))) (h1 : (l[i]!).toNat < 128) (h2 : ¬ ((l[i]!).toNat = 0 ∧ 0 < i)) :
    Cod.dec 0 l = some (A + 128 ^ i * (l[i]!).toNat, l.drop (i + 1)) ∧ uintB (A + 128 ^ i * (l[i]!).toNat) = l.take (i + 1) := by
  refine ⟨?_, ?_⟩
  · rw [h.dec, drop_cons hi]
    unfold Cod.dec
    rw [if_neg h9, if_neg (by omega), if_neg h2]
  · rw [h.pre _ (by omega), uintB_lt h1, take_snoc hi, ofNat_toNat]
theorem Part.more {l : List UInt8} {i A : Nat} (h : Part l i A) (hi : i < l.length) (h9 : ¬ (9 < i ∨ (i = 9 ∧ 1 < (l[i]!).toNat))) (h1 : 128 ≤ (l[i]!).toNat) : Part l (i + 1) (A + 128 ^ i * ((l[i]!).toNat % 128)) := by
  have hc := (l[i]!).toNat_lt
  refine ⟨hi, ?_, ?_, fun n' hn => ?_⟩
  · have := h.lt
    have h2 : 128 ^ i * ((l[i]!).toNat % 128) ≤ 128 ^ i * 127 := Nat.mul_le_mul_left _ (by omega)
    rw [Nat.pow_succ]; omega
  · rw [h.dec, drop_cons hi]
    conv => lhs; unfold Cod.dec
    rw [if_neg h9, if_pos h1]
    cases Cod.dec (i + 1) (l.drop (i + 1)) with
    | none => rfl
    | some x =>
      simp only [Option.some.injEq, Prod.mk.injEq, and_true]
      rw [Nat.pow_succ, Nat.mul_add, Nat.add_assoc, Nat.mul_assoc]
  · have hn' : n' ≠ 0 := by omega
    have := h.pre ((l[i]!).toNat % 128 + 128 * n') (by omega)
    rw [uintB_ge (n := (l[i]!).toNat % 128 + 128 * n') (by omega), show ((l[i]!).toNat % 128 + 128 * n') % 128 + 128 = (l[i]!).toNat by omega, show ((l[i]!).toNat % 128 + 128 * n') / 128 = n' by omega, ofNat_toNat] at this
    rw [Nat.pow_succ, Nat.add_assoc, Nat.mul_assoc, ← Nat.mul_add, this, take_snoc hi, List.append_assoc]
    rfl
theorem pow7 (i : Nat) : (2 : Nat) ^ (7 * i) = 128 ^ i := by rw [Nat.pow_mul]
theorem pow7I (i : Nat) : (2 : Int) ^ (7 * (i : Int)).toNat = ((128 ^ i : Nat) : Int) := by
  rw [show (7 * (i : Int)).toNat = 7 * i by omega, ← pow7, Int.natCast_pow]; rfl
theorem pow_le9 {i : Nat} (h : i ≤ 9) : 128 ^ i ≤ 9223372036854775808 := Nat.le_trans (Nat.pow_le_pow_right (by decide) h) (by decide)
theorem pow_le8 {i : Nat} (h : i ≤ 8) : 128 ^ i ≤ 72057594037927936 := Nat.le_trans (Nat.pow_le_pow_right (by decide) h) (by decide)
theorem part_bd {i c : Nat} (hi : i ≤ 9) (h9 : ¬ (i = 9 ∧ 1 < c)) (hc : c < 256) : 128 ^ i * (c % 128) ≤ 9223372036854775808 := by
  by_cases h : i ≤ 8
  · exact Nat.le_trans (Nat.mul_le_mul (pow_le8 h) (show c % 128 ≤ 127 by omega)) (by decide)
  · have e : i = 9 := by omega
    subst e
    exact Nat.le_trans (Nat.mul_le_mul (pow_le9 (Nat.le_refl 9)) (show c % 128 ≤ 1 by omega)) (by decide)
theorem shl7 {i c : Nat} (hi : i ≤ 9) (h9 : ¬ (i = 9 ∧ 1 < c)) (hc : c < 256) : IntKind.u64.wrap (((c % 128 : Nat) : Int) * 2 ^ (7 * (i : Int)).toNat) = ((128 ^ i * (c % 128) : Nat) : Int) := by
  rw [pow7I, IntKind.wrap_u64, ← Int.natCast_mul, Nat.mul_comm]
  have := part_bd hi h9 hc
  have hy : 128 ^ i * (c % 128) < 18446744073709551616 := by omega
  exact Int.emod_eq_of_lt (Int.natCast_nonneg _) (Int.ofNat_lt.2 hy)
theorem andnot128 (c : UInt8) : bits .andNot .u8 (bI c) 128 = ((c.toNat % 128 : Nat) : Int) := by
  have := bI_bd c
  rw [u8_andNot _ _ (by omega) (by omega) (by omega) (by omega)]
  have e : (bI c).toNat = c.toNat := by unfold bI; omega
  rw [e]
  congr 1
  exact Nat.and_two_pow_sub_one_eq_mod c.toNat 7
theorem and128 (c : UInt8) : bits .and .u8 (bI c) 128 = 128 * ((c.toNat / 128 : Nat) : Int) := by
  have := bI_bd c
  have hc := c.toNat_lt
  rw [u8_and _ _ (by omega) (by omega) (by omega) (by omega)]
  have e : (bI c).toNat = c.toNat := by unfold bI; omega
  rw [e, show ((128 : Int)).toNat = 2 ^ 7 from rfl, nat_bit]
  show ((c.toNat / 128 % 2 * 128 : Nat) : Int) = _
  omega
theorem or_part {i A x : Nat} (hi : i ≤ 9) (hA : A < 128 ^ i) (hx : 128 ^ i * x < 18446744073709551616) : bits .or .u64 (A : Int) ((128 ^ i * x : Nat) : Int) = ((A + 128 ^ i * x : Nat) : Int) := by
  have := pow_le9 hi
  rw [u64_or_nat _ _ (by omega) (by omega), Nat.or_comm, nat_join (7 * i) _ _ (by rw [pow7]; exact Nat.mul_mod_right _ _) (by rw [pow7]; exact hA), Nat.add_comm]
structure RI where
  i : Nat
  A : Nat
theorem open_ {m : Mem} (l : List UInt8) : Ct Try.prog 38 #[.string (str l)] m [] (fun v m' B => m = m' ∧ ∃ b, v = ptr b ∧ B = [rd b (l, false)]) := by
  refine Ct.enterV (by rfl) Try.func38 rfl Try.ntmps38 rfl (fun w0 Rest => ?_)
  (repeat' (first | refine zss ?_ | refine zs0 ?_ | ((with_reducible apply At.box (d := 5)); exact rfl; exact rfl; exact rfl; intro b5) | (refine zsp ?_ ?_ <;> (intro hc; (try simp only [zhcs, reduceCtorEq] at hc); (try (exfalso; first | contradiction | omega | exact absurd rfl hc | exact absurd (by decide) hc))))))
  all_goals ((with_reducible apply At.retB1 (B := [.blk _ _ _])); exact rfl; exact rfl; exact zml; exact zkp; exact ⟨rfl, _, rfl, rfl⟩)
def rR (n : Int) (s : RS) : List UInt8 × RS := if s.2 = true ∨ n < 0 ∨ (s.1.length : Int) < n then ([], ([], true)) else (s.1.take n.toNat, (s.1.drop n.toNat, false))
theorem rawR {m : Mem} (b : Nat) (s : RS) (n : Int) (hl : s.1.length ≤ 30000000000) : Ct Try.prog 39 #[ptr b, .int .i64 n] m [rd b s] (fun v m' B => v = .string (str (rR n s).1) ∧ m = m' ∧ B = [rd b (rR n s).2]) := by
  obtain ⟨l, bd⟩ := s
  by_cases hbad : bd = true ∨ n < 0 ∨ (l.length : Int) < n
  · have e : rR n (l, bd) = ([], ([], true)) := if_pos hbad
    rw [e]
    cases bd with
    | true =>
      refine Ct.enterV (by rfl) Try.func39 rfl Try.ntmps39 rfl (fun w0 Rest => ?_)
      (repeat' (first | refine zss ?_ | refine zs0 ?_ | ((with_reducible first | apply At.c1 | apply At.c0); exact rfl; exact rfl; exact fail b (l, true); exact ztk; kernel_rfl; rintro v' m' B' hm' ⟨rfl, rfl, rfl⟩; skip; (try (have hq0 : hm' = Mem.le_refl _ := rfl; clear hq0 hm'))) | (refine zsp ?_ ?_ <;> (intro hc; (try simp only [zhcs, reduceCtorEq] at hc); (try (exfalso; first | contradiction | omega | exact absurd rfl hc | exact absurd (by decide) hc))))))
      all_goals ((with_reducible apply At.retB1 (B := [.blk b _ _])); exact rfl; exact rfl; exact zml; exact zkp; exact ⟨rfl, rfl, rfl⟩)
    | false =>
      refine Ct.enterV (by rfl) Try.func39 rfl Try.ntmps39 rfl (fun w0 Rest => ?_)
      (repeat' (first | refine zss ?_ | refine zs0 ?_ | ((with_reducible first | apply At.c1 | apply At.c0); exact rfl; exact rfl; exact fail b (l, false); exact ztk; kernel_rfl; rintro v' m' B' hm' ⟨rfl, rfl, rfl⟩; skip; (try (have hq0 : hm' = Mem.le_refl _ := rfl; clear hq0 hm'))) | (refine zsp ?_ ?_ <;> (intro hc; (try simp only [zhcs, reduceCtorEq] at hc); (try (exfalso; first | (simp at hbad; omega) | contradiction | omega | exact absurd rfl hc | exact absurd (by decide) hc))))))
      all_goals ((with_reducible apply At.retB1 (B := [.blk b _ _])); exact rfl; exact rfl; exact zml; exact zkp; exact ⟨rfl, rfl, rfl⟩)
  · have e : rR n (l, bd) = (l.take n.toNat, (l.drop n.toNat, false)) := if_neg hbad
    rw [e]
    obtain rfl : bd = false := by cases bd <;> simp_all
    have hb2 : 0 ≤ n ∧ n ≤ (l.length : Int) := by simp at hbad; omega
    refine Ct.enterV (by rfl) Try.func39 rfl Try.ntmps39 rfl (fun w0 Rest => ?_)
    (repeat' (first | refine zss ?_ | refine zs0 ?_ | (refine zsp ?_ ?_ <;> (intro hc; (try simp only [zhcs, reduceCtorEq] at hc); (try (exfalso; first | omega | contradiction | omega | exact absurd rfl hc | exact absurd (by decide) hc))))))
    all_goals ((with_reducible apply At.retB1 (B := [.blk b _ _])); exact rfl; exact rfl; exact zml; exact zkp; exact ⟨rfl, rfl, rfl⟩)
def unzig (n : Nat) : Int := if n % 2 = 1 then -((n / 2 : Nat) : Int) - 1 else ((n / 2 : Nat) : Int)
def rI (s : RS) : Int × RS := (unzig (rU s).1, (rU s).2)
theorem unzig_bd {n : Nat} (h : n < 18446744073709551616) : -9223372036854775808 ≤ unzig n ∧ unzig n ≤ 9223372036854775807 := by unfold unzig; split <;> omega
theorem i64_xor0 {y : Int} (h0 : 0 ≤ y) (h1 : y < 9223372036854775808) : bits .xor .i64 y 0 = y := by
  unfold bits
  simp only
  have : (BitVec.ofInt IntKind.i64.bits y ^^^ BitVec.ofInt IntKind.i64.bits 0) = BitVec.ofInt IntKind.i64.bits y := by simp
  rw [this, BitVec.toNat_ofInt, IntKind.wrap_i64]
  simp only [IntKind.bits]
  omega
theorem i64_xorm {y : Int} (h0 : 0 ≤ y) (h1 : y < 9223372036854775808) : bits .xor .i64 y (-1) = -y - 1 := by
  unfold bits
  simp only
  have : (BitVec.ofInt IntKind.i64.bits y ^^^ BitVec.ofInt IntKind.i64.bits (-1)) = ~~~ BitVec.ofInt IntKind.i64.bits y := by
    have e : BitVec.ofInt IntKind.i64.bits (-1) = BitVec.allOnes IntKind.i64.bits := by show BitVec.ofInt 64 (-1) = BitVec.allOnes 64; decide
    rw [e]
    exact BitVec.xor_allOnes
  rw [this, BitVec.toNat_not, BitVec.toNat_ofInt, IntKind.wrap_i64]
  simp only [IntKind.bits]
  omega
theorem rU_le (s : RS) : (rU s).2.1.length ≤ s.1.length := by
  unfold rU
  cases h : dec 0 s.1 with
  | none => simp
  | some x =>
    obtain ⟨n, r⟩ := x
    have := congrArg List.length (dec_spec _ _ _ _ h).1
    simp at this ⊢; omega
def rT (most : Int) (s : RS) : List UInt8 × RS := if most < 0 ∨ most < ((rU s).1 : Int) ∨ ((rU s).2.1.length : Int) < ((rU s).1 : Int) then ([], ([], true)) else rR ((rU s).1 : Int) (rU s).2
/-- a fixed number out of its bytes -/
def num (l : List UInt8) : Nat := l.foldl (fun n c => 256 * n + c.toNat) 0
theorem num_snoc (l : List UInt8) (c : UInt8) : num (l ++ [c]) = 256 * num l + c.toNat := by simp [num]
theorem num_lt : ∀ l : List UInt8, num l < 256 ^ l.length := fun l => by
  have : ∀ (k : Nat) (l : List UInt8), l.length = k → num l < 256 ^ k := by
    intro k
    induction k with
    | zero => intro l h; rw [List.eq_nil_of_length_eq_zero h]; decide
    | succ k ih =>
      intro l h
      have hne : l ≠ [] := by intro e; subst e; simp at h
      have e := List.dropLast_concat_getLast hne
      rw [← e, num_snoc, Nat.pow_succ]
      have := ih l.dropLast (by simp [h])
      have := (l.getLast hne).toNat_lt
      omega
  exact this _ _ rfl
def rF (w : Int) (s : RS) : Nat × RS := if 1 ≤ w ∧ w ≤ 8 then (num (rR w s).1, (rR w s).2) else (0, ([], true))
structure FI where
  i : Nat
  a : Nat
theorem shl8_or {a c : Nat} (ha : a < 72057594037927936) (hc : c < 256) : bits .or .u64 ((a : Int) * 256) (c : Int) = ((256 * a + c : Nat) : Int) := by
  rw [show (a : Int) * 256 = ((256 * a : Nat) : Int) by omega, u64_or_nat _ _ (by omega) (by omega), nat_join 8 _ _ (by show 256 * a % 256 = 0; omega) (by show c < 256; omega)]
theorem shl8_or' {a c : Nat} {y : Int} (hy : y = (c : Int)) (ha : a < 72057594037927936) (hc : c < 256) : bits .or .u64 ((a : Int) * 2 ^ Int.toNat 8) y = ((256 * a + c : Nat) : Int) := by
  subst hy
  rw [show (2 : Int) ^ Int.toNat 8 = 256 from rfl]
  exact shl8_or ha hc
theorem num_take {l : List UInt8} {i : Nat} (h : i < l.length) : num (l.take (i + 1)) = 256 * num (l.take i) + (l[i]!).toNat := by rw [take_snoc h, num_snoc]
theorem num_bd {l : List UInt8} {i : Nat} (h : i < l.length) (h8 : l.length ≤ 8) : num (l.take i) < 72057594037927936 := by
  have h1 := num_lt (l.take i)
  have h2 : 256 ^ (l.take i).length ≤ 256 ^ 7 := Nat.pow_le_pow_right (by decide) (by simp; omega)
  exact Nat.lt_of_lt_of_le h1 (Nat.le_trans h2 (by decide))
theorem map_get {l : List UInt8} {i : Nat} (h : i < l.length) : (l.map bI)[i]! = ((l[i]!).toNat : Int) := by
  rw [getElem!_pos _ i (by simpa using h), getElem!_pos l i h, List.getElem_map]; rfl
theorem rR_len {w : Int} {s : RS} (hw : 1 ≤ w ∧ w ≤ 8) : (rR w s).1.length ≤ 8 := by
  unfold rR
  split
  · simp
  · simp; omega
theorem fixedR {m : Mem} (b : Nat) (s : RS) (w : Int) (hl : s.1.length ≤ 30000000000) : Ct Try.prog 40 #[ptr b, .int .i64 w] m [rd b s] (fun v m' B => v = .int .u64 ((rF w s).1 : Int) ∧ m.le m' ∧ B = [rd b (rF w s).2]) := by
  by_cases hw : 1 ≤ w ∧ w ≤ 8
  · have e : rF w s = (num (rR w s).1, (rR w s).2) := if_pos hw
    rw [e]
    have h8 := rR_len (s := s) hw
    refine Ct.enterV (by rfl) Try.func40 rfl Try.ntmps40 rfl (fun w0 Rest => ?_)
    (repeat' (first | refine zss ?_ | refine zs0 ?_ | ((with_reducible first | apply At.c1 | apply At.c0); exact rfl; exact rfl; exact rawR b s w hl; exact ztk; kernel_rfl; rintro v' m' B' hm' ⟨rfl, rfl, rfl⟩; (try replace sl1 := sl1.mono hm'); (try (have hq0 : hm' = Mem.le_refl _ := rfl; clear hq0 hm'))) | ((with_reducible apply At.str_bytes); (iterate 4 exact rfl); exact zom; exact rfl; intro p' c' m' hm' sl1; skip) | (refine zsp ?_ ?_ <;> (intro hc; (try simp only [zhcs, reduceCtorEq] at hc); (try (exfalso; first | omega | contradiction | omega | exact absurd rfl hc | exact absurd (by decide) hc))))))
    obtain ⟨x, hx⟩ : ∃ x, x = (rR w s).1 := ⟨_, rfl⟩
    rw [← hx] at sl1 h8 ⊢
    (refine At.loopk (σ := FI) [19, 20] (fun q F0 => (5, .int .u64 (q.a : Int)) :: (21, .int .i64 (q.i : Int)) :: F0) (fun q => m') (fun q => rd b (rR w s).2 :: Rest) (fun q => q.i ≤ x.length ∧ q.a = num (x.take q.i)) (fun q => x.length - q.i) ⟨0, 0⟩ (by rfl) ?_ zsubs zml zente ?_)
    · exact ⟨Nat.zero_le _, rfl⟩
    intro q ⟨hq, ha⟩
    have hml : (x.map bI).length = x.length := by simp
    by_cases hlt : q.i < x.length
    · have hab : q.a < 72057594037927936 := by rw [ha]; exact num_bd hlt h8
      have hxe := map_get hlt
      have hxc := (x[q.i]!).toNat_lt
      (repeat' (first | refine zss ?_ | ((first | (with_reducible first | apply At.val | apply AtQ.val)); (first | exact pr_shlv (by rfl) (by rfl) (by omega) (by simp only [IntKind.bits]; omega) (IntWalk.u64_in _ (by show _ ∧ _; simp only [Int.reduceToNat, Int.reducePow]; omega)) | exact pr_or (by rfl) (by rfl) (shl8_or' hxe hab hxc)); exact rfl) | refine zsM ?_ | (refine zsp ?_ ?_ <;> (intro hc; (try simp only [zhcs, reduceCtorEq] at hc); (try (exfalso; first | omega | contradiction | omega | exact absurd rfl hc | exact absurd (by decide) hc))))))
      all_goals ((with_reducible refine At.reachk (⟨q.i + 1, 256 * q.a + (x[q.i]!).toNat⟩) ?_ ?_ ?_ ?_); exact zsubs; exact zml; exact zente; exact ⟨⟨hlt, by show 256 * q.a + _ = num (x.take (q.i + 1)); rw [num_take hlt, ha]⟩, by show x.length - (q.i + 1) < x.length - q.i; omega⟩)
    · (repeat' (first | refine zss ?_ | refine zsM ?_ | (refine zsp ?_ ?_ <;> (intro hc; (try simp only [zhcs, reduceCtorEq] at hc); (try (exfalso; first | omega | contradiction | omega | exact absurd rfl hc | exact absurd (by decide) hc))))))
      all_goals ((with_reducible apply At.retB1 (B := [.blk b _ _])); exact rfl; exact rfl; exact zml; exact zkp; exact ⟨by rw [ha, List.take_of_length_le (by omega)], hm', rfl⟩)
  · have e : rF w s = (0, ([], true)) := if_neg hw
    rw [e]
    refine Ct.enterV (by rfl) Try.func40 rfl Try.ntmps40 rfl (fun w0 Rest => ?_)
    (repeat' (first | refine zss ?_ | refine zs0 ?_ | ((with_reducible first | apply At.c1 | apply At.c0); exact rfl; exact rfl; exact fail b s; exact ztk; kernel_rfl; rintro v' m' B' hm' ⟨rfl, rfl, rfl⟩; (try replace sl1 := sl1.mono hm'); (try (have hq0 : hm' = Mem.le_refl _ := rfl; clear hq0 hm'))) | (refine zsp ?_ ?_ <;> (intro hc; (try simp only [zhcs, reduceCtorEq] at hc); (try (exfalso; first | omega | contradiction | omega | exact absurd rfl hc | exact absurd (by decide) hc))))))
    all_goals ((with_reducible apply At.retB1 (B := [.blk b _ _])); exact rfl; exact rfl; exact zml; exact zkp; exact ⟨rfl, Mem.le_refl _, rfl⟩)
/-! ### the document's reader -/
structure RJ where
  i : Nat
  A : Nat
end Cod
end Go.Proofs.Ytijgnbedilipdaa
namespace Go.Proofs.Ytijgnbedilipdaa
open Go Go.J
attribute [local irreducible] At AtQ AtM AtM1 PR Ct Pu Rd Res.blk Res.own Res.ex Res.obj RVs RV CW LW YC BK bodyPostM Dk.R Cod.W
namespace Redo
open Dk Conf
open Cod hiding ptr wr
/-- bytes, with noughts up to a sector -/
def pad (s : List UInt8) : List UInt8 := s ++ List.replicate (512 - s.length) 0
theorem pad_len {s : List UInt8} (h : s.length ≤ 512) : (pad s).length = 512 := by unfold pad; rw [List.length_append, List.length_replicate]; omega
def magic : List UInt8 := [114, 101, 100, 111]
def ptxt (n k : Nat) : List UInt8 := pad (magic ++ fixB 8 n ++ fixB 4 k)
abbrev pch (n k : Nat) : Chg := ⟨0, ptxt n k⟩
theorem ptxt_len (n k : Nat) : (ptxt n k).length = 512 := pad_len (by rw [List.length_append, List.length_append]; show 4 + 8 + 4 ≤ 512; decide)
theorem num_fix8 {n : Nat} (h : n < 18446744073709551616) : num (fixB 8 n) = n := by
  have e : fixB 8 n = [UInt8.ofNat (n / 256 ^ 7), UInt8.ofNat (n / 256 ^ 6), UInt8.ofNat (n / 256 ^ 5), UInt8.ofNat (n / 256 ^ 4), UInt8.ofNat (n / 256 ^ 3), UInt8.ofNat (n / 256 ^ 2), UInt8.ofNat (n / 256 ^ 1), UInt8.ofNat (n / 256 ^ 0)] := rfl
  have t : ∀ k, (UInt8.ofNat k).toNat = k % 256 := fun k => by have := bI_mod k; unfold bI at this; omega
  rw [e]
  unfold num
  simp only [List.foldl_cons, List.foldl_nil, t, Nat.reducePow, Nat.div_one]
  omega
theorem num_fix4 {n : Nat} (h : n < 4294967296) : num (fixB 4 n) = n := by
  have e : fixB 4 n = [UInt8.ofNat (n / 256 ^ 3), UInt8.ofNat (n / 256 ^ 2), UInt8.ofNat (n / 256 ^ 1), UInt8.ofNat (n / 256 ^ 0)] := rfl
  have t : ∀ k, (UInt8.ofNat k).toNat = k % 256 := fun k => by have := bI_mod k; unfold bI at this; omega
  rw [e]
  unfold num
  simp only [List.foldl_cons, List.foldl_nil, t, Nat.reducePow, Nat.div_one]
  omega
theorem rR_app (t r : List UInt8) : rR (t.length : Int) (t ++ r, false) = (t, (r, false)) := by
  unfold rR
  rw [if_neg (by simp; omega)]
  simp
theorem rF8 {n : Nat} (h : n < 18446744073709551616) (r : List UInt8) : rF 8 (fixB 8 n ++ r, false) = (n, (r, false)) := by
  unfold rF
  have := rR_app (fixB 8 n) r
  rw [show ((fixB 8 n).length : Int) = 8 from rfl] at this
  rw [if_pos (by decide), this, num_fix8 h]
theorem rF4 {n : Nat} (h : n < 4294967296) (r : List UInt8) : rF 4 (fixB 4 n ++ r, false) = (n, (r, false)) := by
  unfold rF
  have := rR_app (fixB 4 n) r
  rw [show ((fixB 4 n).length : Int) = 4 from rfl] at this
  rw [if_pos (by decide), this, num_fix4 h]
theorem pad_ (s : List UInt8) (h : s.length ≤ 512) : Pu Try.prog 58 #[.string (str s)] (.string (str (pad s))) := Pu.intro fun m => by
  have k1 : Pu Try.prog 25 #[.string (str [0]), .int .i64 (512 - (s.length : Int))] (.string (str (List.replicate (512 - s.length) 0))) := by
    have := repT [0] (512 - s.length) (by rw [List.length_singleton]; omega) (by omega)
    rw [rep_eq, show ((512 - s.length : Nat) : Int) = 512 - (s.length : Int) by omega] at this
    exact this
  refine Ct.enterV (by rfl) Try.func58 rfl Try.ntmps58 rfl (fun w0 Rest => ?_)
  (repeat' (first | refine zss ?_ | ((first | (with_reducible first | apply At.val | apply AtQ.val)); (exact zprA); exact rfl) | refine zs0 ?_ | ((with_reducible first | apply AtM1.callp | apply AtQ.callp | apply At.callp); kernel_rfl; exact rfl; exact rfl; exact k1) | (refine zsp ?_ ?_ <;> (intro hc; (try simp only [zhcs, reduceCtorEq] at hc); (try (exfalso; first | contradiction | omega | exact absurd rfl hc | exact absurd (by decide) hc))))))
  all_goals ((with_reducible apply At.retB1 (B := [])); exact rfl; exact rfl; exact zml; exact zkp; exact ⟨rfl, rfl, rfl⟩)
theorem pointer (n k : Nat) (hn : n < 18446744073709551616) (hk : k < 4294967296) : Pu Try.prog 31 #[.int .u64 (n : Int), .int .i64 (k : Int)] (cv (pch n k)) := Pu.intro fun m => by
  have k1 := fun (b : Nat) (l : List UInt8) (h : l.length ≤ 100) => raw (m := m) b l magic (by show l.length + 4 ≤ _; omega)
  have k2 := fun (b : Nat) (l : List UInt8) (h : l.length ≤ 100) => fixed (m := m) b n 8 l hn (by omega)
  have k3 := fun (b : Nat) (l : List UInt8) (h : l.length ≤ 100) => fixed (m := m) b k 4 l (by omega) (by omega)
  have k4 := fun (m' : Mem) (b : Nat) (l : List UInt8) => out (m := m') b l
  have k5 := pad_ (magic ++ fixB 8 n ++ fixB 4 k) (by show 16 ≤ 512; decide)
  refine Ct.enterV (by rfl) Try.func31 rfl Try.ntmps31 rfl (fun w0 Rest => ?_)
  (repeat' (first | refine zss ?_ | ((first | (with_reducible first | apply At.val | apply AtQ.val)); (exact zprA); exact rfl) | refine zs0 ?_ | ((with_reducible apply At.ent); exact own0 b5 _) | ((with_reducible first | apply At.c1 | apply At.c0); exact rfl; exact rfl; exact k1 b5 [] (by decide); exact ztk; kernel_rfl; rintro v' m' B' hm' ⟨rfl, rfl, rfl⟩; skip; (try (have hq0 : hm' = Mem.le_refl _ := rfl; clear hq0 hm'))) | ((with_reducible first | apply At.c1 | apply At.c0); exact rfl; exact rfl; exact k2 b5 magic (by decide); exact ztk; kernel_rfl; rintro v' m' B' hm' ⟨rfl, rfl, rfl⟩; skip; (try (have hq0 : hm' = Mem.le_refl _ := rfl; clear hq0 hm'))) | ((with_reducible first | apply At.c1 | apply At.c0); exact rfl; exact rfl; exact k3 b5 (magic ++ fixB 8 n) (by show 12 ≤ 100; decide); exact ztk; kernel_rfl; rintro v' m' B' hm' ⟨rfl, rfl, rfl⟩; skip; (try (have hq0 : hm' = Mem.le_refl _ := rfl; clear hq0 hm'))) | ((with_reducible first | apply AtM1.cr | apply AtQ.cr | apply At.cr); exact rfl; exact rfl; exact fun _ hmm => k4 _ b5 (magic ++ fixB 8 n ++ fixB 4 k); exact ztk; kernel_rfl) | ((with_reducible first | apply AtM1.callp | apply AtQ.callp | apply At.callp); kernel_rfl; exact rfl; exact rfl; exact k5) | ((with_reducible apply At.alloc (d := 4)); exact rfl; exact rfl; intro b4) | ((with_reducible apply At.alloc (d := 5)); exact rfl; exact rfl; intro b5) | (refine zsp ?_ ?_ <;> (intro hc; (try simp only [zhcs, reduceCtorEq] at hc); (try (exfalso; first | contradiction | omega | exact absurd rfl hc | exact absurd (by decide) hc))))))
  all_goals ((with_reducible apply At.retV (B := [])); exact rfl; (repeat' (first | exact RVs.nil | (with_reducible apply RVs.cons) | exact rv_tmp (by rfl) | exact rv_cellN (by rfl) (by repeat constructor) (by rfl) (by rfl) (by rfl) | exact rv_cell1 (by rfl) (by repeat constructor) (by rfl) (by rfl) | exact rv_cellA (by rfl) (by repeat constructor) (by rfl) (by rfl) zlq)); exact zml; exact zkp; exact ⟨rfl, rfl, rfl⟩)
theorem pread {n k : Nat} (hn : n < 18446744073709551616) (hk : k < 4294967296) : ∃ r, rR 4 (ptxt n k, false) = (magic, (fixB 8 n ++ (fixB 4 k ++ r), false)) ∧ rF 8 (fixB 8 n ++ (fixB 4 k ++ r), false) = (n, (fixB 4 k ++ r, false)) ∧ rF 4 (fixB 4 k ++ r, false) = (k, (r, false)) := by
  refine ⟨List.replicate (512 - (magic ++ fixB 8 n ++ fixB 4 k).length) 0, ?_, rF8 hn _, rF4 hk _⟩
  have : ptxt n k = magic ++ (fixB 8 n ++ (fixB 4 k ++ List.replicate (512 - (magic ++ fixB 8 n ++ fixB 4 k).length) 0)) := by unfold ptxt pad; simp only [List.append_assoc]
  rw [this]
  exact rR_app magic _
theorem pointerR {m : Mem} (b n k : Nat) (D : Dsk) (hn : n < 18446744073709551616) (hk : k < 4294967296) (h0 : 0 < D.safe.length) (hp : D.safe[0]! = ptxt n k) (hd : D.down = false) (hpe : D.pend = []) (hl : D.safe.length ≤ 1000000000) :
    Ct Try.prog 14 #[ptr b] m [R b D] (fun v m' B => v = .tuple #[.int .u64 (n : Int), .int .i64 (k : Int), .int .i64 0] ∧ B = [R b D]) := by
  obtain ⟨r, e1, e2, e3⟩ := pread hn hk
  have k1 := fun (m' : Mem) => read (m := m') b D 0 h0 hd hpe hl
  rw [hp] at k1
  have k2 := fun (m' : Mem) => open_ (m := m') (ptxt n k)
  have k3 := fun (m' : Mem) (q : Nat) => rawR (m := m') q (ptxt n k, false) 4 (by dsimp only; rw [ptxt_len]; decide)
  have k4 := fun (m' : Mem) (q : Nat) => fixedR (m := m') q (fixB 8 n ++ (fixB 4 k ++ r), false) 8 (by
    have h : (ptxt n k).length = 512 := ptxt_len n k
    have e : ptxt n k = magic ++ (fixB 8 n ++ (fixB 4 k ++ r)) := by
      have := e1; unfold rR at this; split at this
      · cases this
      · injection this with x y; injection y with y _
        rw [← List.take_append_drop 4 (ptxt n k)]
        have x' : (ptxt n k).take 4 = magic := x
        have y' : (ptxt n k).drop 4 = _ := y
        rw [x', y']
    rw [e] at h; rw [List.length_append] at h; dsimp only; omega)
  have k5 := fun (m' : Mem) (q : Nat) => fixedR (m := m') q (fixB 4 k ++ r, false) 4 (by
    have h : (ptxt n k).length = 512 := ptxt_len n k
    have e : ptxt n k = magic ++ (fixB 8 n ++ (fixB 4 k ++ r)) := by
      have := e1; unfold rR at this; split at this
      · cases this
      · injection this with x y; injection y with y _
        rw [← List.take_append_drop 4 (ptxt n k)]
        have x' : (ptxt n k).take 4 = magic := x
        have y' : (ptxt n k).drop 4 = _ := y
        rw [x', y']
    rw [e] at h; rw [List.length_append, List.length_append] at h; dsimp only; omega)
  rw [e1] at k3
  rw [e2] at k4
  rw [e3] at k5
  have k6 := pointer n k hn hk
  clear e1 e2 e3
  refine Ct.enterV (by rfl) Try.func14 rfl Try.ntmps14 rfl (fun w0 Rest => ?_)
  (repeat' (first | refine zss ?_ | ((first | (with_reducible first | apply At.val | apply AtQ.val)); (exact zprA); exact rfl) | refine zs0 ?_ | ((with_reducible first | apply At.c1 | apply At.c0); exact rfl; exact rfl; exact k1 _; exact ztk; kernel_rfl; rintro v' m' B' hm' ⟨rfl, rfl, rfl⟩; skip; (try (have hq0 : hm' = Mem.le_refl _ := rfl; clear hq0 hm'))) | ((with_reducible first | apply At.c1 | apply At.c0); exact rfl; exact rfl; exact k2 _; exact ztk; kernel_rfl; rintro v' m' B' hm' ⟨rfl, q, rfl, rfl⟩; skip; (try (have hq0 : hm' = Mem.le_refl _ := rfl; clear hq0 hm'))) | ((with_reducible first | apply At.c1 | apply At.c0); exact rfl; exact rfl; exact k3 _ q; exact ztk; kernel_rfl; rintro v' m' B' hm' ⟨rfl, rfl, rfl⟩; skip; (try (have hq0 : hm' = Mem.le_refl _ := rfl; clear hq0 hm'))) | ((with_reducible first | apply At.c1 | apply At.c0); exact rfl; exact rfl; exact k4 _ q; exact ztk; kernel_rfl; rintro v' m' B' hm' ⟨rfl, hq4, rfl⟩; skip; (try (have hq0 : hm' = Mem.le_refl _ := rfl; clear hq0 hm'))) | ((with_reducible first | apply At.c1 | apply At.c0); exact rfl; exact rfl; exact k5 _ q; exact ztk; kernel_rfl; rintro v' m' B' hm' ⟨rfl, hq5, rfl⟩; skip; (try (have hq0 : hm' = Mem.le_refl _ := rfl; clear hq0 hm'))) | ((with_reducible first | apply AtM1.callp | apply AtQ.callp | apply At.callp); kernel_rfl; exact rfl; exact rfl; exact k6) | (refine zsp ?_ ?_ <;> (intro hc; (try simp only [zhcs, reduceCtorEq] at hc); (try (exfalso; first | (first | omega | exact absurd rfl hc) | contradiction | omega | exact absurd rfl hc | exact absurd (by decide) hc))))))
  all_goals ((with_reducible apply At.retV (B := [R b D])); exact rfl; (repeat' (first | exact RVs.nil | (with_reducible apply RVs.cons) | exact rv_tmp (by rfl) | exact rv_cellN (by rfl) (by repeat constructor) (by rfl) (by rfl) (by rfl) | exact rv_cell1 (by rfl) (by repeat constructor) (by rfl) (by rfl) | exact rv_cellA (by rfl) (by repeat constructor) (by rfl) (by rfl) zlq)); exact zml; exact zkp; exact ⟨rfl, rfl⟩)
section
variable {r a b e x y w c g : Int}
abbrev lg (q d0 : Nat) (r a b e x y w c g : Int) : Res := .blk q 72 [ptr d0, gi r, gi a, gi b, gi e, gi x, gi y, gi w, gi c, gi g, gi (hmv g), gi (1 + ixv g)]
theorem hm_bd (h : Ok r a b e x y w c g) : 1 ≤ ixv g ∧ ixv g ≤ 100 ∧ hmv g = 1 + ixv g + g := by
  have := h.hg
  refine ⟨?_, ?_, rfl⟩
  · show 1 ≤ (g + 120 - 1) / 120; omega
  · show (g + 120 - 1) / 120 ≤ 100; omega
theorem openR {m : Mem} (h : Ok r a b e x y w c g) (d0 : Nat) (D : Dsk) (hs : szv r x y w c g = D.safe.length) (hsz : D.safe.length ≤ 1000000) :
    Ct Try.prog 26 #[ptr d0, kv r a b e x y w c g] m [R d0 D] (fun v m' B => m = m' ∧ ∃ q, v = .tuple #[ptr q, .int .i64 0] ∧ B = [lg q d0 r a b e x y w c g, R d0 D]) := by
  have k1 := sizeF h
  rw [if_neg (by omega), hs] at k1
  have k2 := fun (m' : Mem) (_ : m.le m') => len (m := m') d0 D
  have k3 := homeF h
  have k4 := indexF h
  have hb := hm_bd h
  have hg := h.hg
  dsimp only [lg]
  generalize hmv g = H at k3 hb ⊢
  generalize ixv g = I at k4 hb ⊢
  refine Ct.enterV (by rfl) Try.func26 rfl Try.ntmps26 rfl (fun w0 Rest => ?_)
  (repeat' (first | ((with_reducible apply At.mixed (id := 4) 11 (.q 0 (.q 1 (.q 2 (.q 3 (.q 4 (.q 5 (.q 6 (.q 7 (.x 8 (.q 9 (.q 10 .done)))))))))))); exact rfl; kernel_rfl; kernel_rfl; kernel_rfl) | refine zsx ?_ | refine zss ?_ | ((with_reducible apply AtM.bo); exact rfl; exact rfl; exact rfl) | ((first | (with_reducible first | apply At.val | apply AtQ.val) | ((with_reducible first | apply AtM1.valz | apply AtM1.val); exact rfl) | ((with_reducible apply AtM1.val); exact rfl)); (exact zprA); exact rfl) | refine zs0 ?_ | refine zx0 ?_ | ((with_reducible first | apply AtM1.callp | apply AtQ.callp | apply At.callp); kernel_rfl; exact rfl; exact rfl; exact k1) | ((with_reducible first | apply AtM1.cr | apply AtQ.cr | apply At.cr); exact rfl; exact rfl; exact fun _ hmm => k2 _ hmm; exact ztk; kernel_rfl) | ((with_reducible first | apply AtM1.callp | apply AtQ.callp | apply At.callp); kernel_rfl; exact rfl; exact rfl; exact k3) | ((with_reducible first | apply AtM1.callp | apply AtQ.callp | apply At.callp); kernel_rfl; exact rfl; exact rfl; exact k4) | ((with_reducible apply At.box (d := 3)); exact rfl; exact rfl; exact rfl; intro b3) | ((with_reducible apply At.box (d := 29)); exact rfl; exact rfl; exact rfl; intro b29) | (refine zsp ?_ ?_ <;> (intro hc; (try simp only [zhcs, reduceCtorEq] at hc); (try (exfalso; first | (first | omega | exact absurd rfl hc) | contradiction | omega | exact absurd rfl hc | exact absurd (by decide) hc))))))
  all_goals ((with_reducible apply At.retV (B := [.blk _ _ _, R d0 D])); exact rfl; (repeat' (first | exact RVs.nil | (with_reducible apply RVs.cons) | exact rv_tmp (by rfl) | exact rv_cellN (by rfl) (by repeat constructor) (by rfl) (by rfl) (by rfl) | exact rv_cell1 (by rfl) (by repeat constructor) (by rfl) (by rfl) | exact rv_cellA (by rfl) (by repeat constructor) (by rfl) (by rfl) zlq)); exact zml; exact zkp; exact ⟨rfl, _, rfl, rfl⟩)
theorem may_ {m : Mem} (q d0 : Nat) (D : Dsk) (z : Chg) : Rd Try.prog 34 #[ptr q, cv z] m [lg q d0 r a b e x y w c g, R d0 D] (.bool (decide (hmv g ≤ z.s ∧ z.s < (D.safe.length : Int) ∧ z.t.length = 512))) := by
  unfold Rd
  have k2 := fun (m' : Mem) (_ : m.le m') => len (m := m') d0 D
  dsimp only [lg]
  generalize hmv g = H
  generalize 1 + ixv g = I
  refine Ct.enterV (by rfl) Try.func34 rfl Try.ntmps34 rfl (fun w0 Rest => ?_)
  (repeat' (first | refine zss ?_ | ((first | (with_reducible first | apply At.val | apply AtQ.val)); (exact zprA); exact rfl) | refine zs0 ?_ | fail | ((with_reducible first | apply AtM1.cr | apply AtQ.cr | apply At.cr); exact rfl; exact rfl; exact fun _ hmm => k2 _ hmm; exact ztk; kernel_rfl) | ((with_reducible apply At.box (d := 3)); exact rfl; exact rfl; exact rfl; intro b3) | (refine zsp ?_ ?_ <;> (intro hc; (try simp only [zhcs, reduceCtorEq] at hc); (try (exfalso; first | omega | contradiction | omega | exact absurd rfl hc | exact absurd (by decide) hc))))))
  all_goals ((with_reducible apply At.retB1 (B := [.blk q _ _, R d0 D])); exact rfl; exact rfl; exact zml; exact zkp; exact ⟨congrArg Value.bool (by first | exact (decide_eq_true ⟨by omega, by omega, by omega⟩).symm | exact (decide_eq_false (by omega)).symm | (apply decide_eq_decide.2; omega)), rfl, rfl⟩)
/-- sectors that are written one behind the other, and safe then -/
def stepP (D : Dsk) : List Chg → Dsk × Int
  | [] => syn D
  | z :: l => if (wr D z).2 = 0 then stepP (wr D z).1 l else wr D z
structure DS2 where
  (j : Nat) (D : Dsk)
theorem wr_arm (D : Dsk) (z : Chg) : (wr D z).1.arm ≤ max D.arm 0 ∧ (wr D z).1.pend.length ≤ D.pend.length + 1 ∧ (wr D z).1.safe = D.safe := by
  have hs : (stp D).1.arm ≤ max D.arm 0 ∧ (stp D).1.pend = D.pend ∧ (stp D).1.safe = D.safe := by
    unfold stp
    split
    · exact ⟨by dsimp only; omega, rfl, rfl⟩
    split
    · exact ⟨by dsimp only; omega, rfl, rfl⟩
    split
    · exact ⟨by dsimp only; omega, rfl, rfl⟩
    · exact ⟨by dsimp only; omega, rfl, rfl⟩
  obtain ⟨h1, h2, h3⟩ := hs
  unfold wr
  split
  · exact ⟨by dsimp only; omega, by dsimp only; omega, rfl⟩
  split
  · exact ⟨h1, by dsimp only; rw [h2, List.length_append, List.length_singleton]; exact Nat.le_refl _, h3⟩
  · exact ⟨h1, by rw [h2]; omega, h3⟩
theorem wr_ok {D : Dsk} (z : Chg) (h : ok D) : ok (wr D z).1 := by
  obtain ⟨e1, e2⟩ := stp_safe D
  unfold wr
  split
  · exact h
  rename_i hz
  split
  · intro x hx
    dsimp only at hx
    rw [e2] at hx
    unfold has
    dsimp only
    rw [e1]
    rcases List.mem_append.1 hx with hx | hx
    · exact h x hx
    · rw [List.mem_singleton.1 hx]
      exact ⟨Classical.byContradiction fun e => hz (.inl e), Classical.byContradiction fun e => hz (.inr e)⟩
  · intro x hx
    rw [e2] at hx
    unfold has
    rw [e1]
    exact h x hx
/-- it may be stepped so often -/
structure Fit (D : Dsk) (k : Nat) : Prop where
  arm : D.arm ≤ 9223372036854775807
  pend : D.pend.length + k ≤ 1000000000
  safe : D.safe.length ≤ 1000000000
  okD : ok D
theorem Fit.wr {D : Dsk} {k : Nat} (h : Fit D (k + 1)) (z : Chg) : Fit (Dk.wr D z).1 k := by
  obtain ⟨h1, h2, h3⟩ := wr_arm D z
  exact ⟨by have := h.arm; omega, by have := h.pend; omega, by rw [h3]; exact h.safe, wr_ok z h.okD⟩
theorem step_ {m : Mem} (q d0 : Nat) (p : Option Addr) (d : Nat) (l : List Chg) (D : Dsk) (sl0 : Sl m fC 2 p d l) (hl : l.length ≤ 1000000) (hf : Fit D l.length) :
    Ct Try.prog 55 #[ptr q, .slice p l.length d] m [lg q d0 r a b e x y w c g, R d0 D] (fun v m' B => v = .int .i64 (stepP D l).2 ∧ B = [lg q d0 r a b e x y w c g, R d0 (stepP D l).1]) := by
  have k1 := fun (m' : Mem) (D : Dsk) (z : Chg) (h : Fit D 0) => Dk.write (m := m') d0 D z h.arm (by have := h.pend; omega)
  have k2 := fun (m' : Mem) (D : Dsk) (h : Fit D 0) => sync (m := m') d0 D h.arm h.okD (by have := h.pend; omega) h.safe
  dsimp only [lg]
  generalize hmv g = H
  generalize 1 + ixv g = I
  refine Ct.enterV (by rfl) Try.func55 rfl Try.ntmps55 rfl (fun w0 Rest => ?_)
  (repeat' (first | refine zss ?_ | ((first | (with_reducible first | apply At.val | apply AtQ.val)); (exact zprA); exact rfl) | refine zsM ?_ | ((with_reducible apply At.alloc (d := 6)); exact rfl; exact rfl; intro b6) | (refine zsp ?_ ?_ <;> (intro hc; (try simp only [zhcs, reduceCtorEq] at hc); (try (exfalso; first | contradiction | omega | exact absurd rfl hc | exact absurd (by decide) hc))))))
  (refine At.loopk (σ := DS2) [0, 8, 9] (fun s F0 => (10, .int .i64 (s.j : Int)) :: F0) (fun s => m) (fun s => .blk q 72 [ptr d0, gi r, gi a, gi b, gi e, gi x, gi y, gi w, gi c, gi g, gi H, gi I] :: R d0 s.D :: Rest) (fun s => s.j ≤ l.length ∧ Fit s.D (l.length - s.j) ∧ stepP s.D (l.drop s.j) = stepP D l) (fun s => l.length - s.j) ⟨0, D⟩ (by rfl) ?_ zsubs zml zente ?_)
  · exact ⟨Nat.zero_le _, hf, rfl⟩
  rintro ⟨j, D'⟩ ⟨hj, hf', hst⟩
  dsimp only at hj hf' hst ⊢
  by_cases h : j < l.length
  · rw [Ls.drop_cons h, stepP] at hst
    have hk := k1
    obtain ⟨u, hu⟩ : ∃ u, l.length - j = u + 1 := ⟨l.length - j - 1, by omega⟩
    rw [hu] at hf'
    have hf2 := hf'.wr l[j]!
    have hf0 : Fit D' 0 := ⟨hf'.arm, by have := hf'.pend; omega, hf'.safe, hf'.okD⟩
    replace hk := fun (m' : Mem) => k1 m' D' l[j]! hf0
    generalize wr D' l[j]! = T at hst hf2 hk
    obtain ⟨D2, w2⟩ := T
    dsimp only at hst hf2 hk
    by_cases h0 : w2 = 0
    · rw [if_pos h0] at hst
      subst h0
      (repeat' (first | ((with_reducible apply At.mixed (id := 4) 10 (.q 0 (.q 1 (.q 2 (.q 3 (.q 4 (.q 5 (.q 6 (.q 7 (.x 8 (.q 9 .done))))))))))); exact rfl; kernel_rfl; kernel_rfl; kernel_rfl) | refine zsx ?_ | refine zss ?_ | ((with_reducible apply AtM.bo); exact rfl; exact rfl; exact rfl) | ((first | (with_reducible first | apply At.val | apply AtQ.val) | ((with_reducible first | apply AtM1.valz | apply AtM1.val); exact rfl) | ((with_reducible apply AtM1.val); exact rfl)); (exact zprA); exact rfl) | refine zsM ?_ | refine zxM ?_ | ((with_reducible first | apply At.c1 | apply At.c0); exact rfl; exact rfl; exact hk _; exact ztk; kernel_rfl; rintro v' m' B' hm' ⟨rfl, rfl⟩; (try replace sl0 := sl0.mono hm'); (try (have hq0 : hm' = Mem.le_refl _ := rfl; clear hq0 hm'))) | ((with_reducible apply At.alloc (d := 6)); exact rfl; exact rfl; intro b6) | (refine zsp ?_ ?_ <;> (intro hc; (try simp only [zhcs, reduceCtorEq] at hc); (try (exfalso; first | (first | omega | exact absurd rfl hc) | contradiction | omega | exact absurd rfl hc | exact absurd (by decide) hc))))))
      all_goals ((with_reducible refine At.reachk ((⟨j + 1, D2⟩ : DS2)) ?_ ?_ ?_ ?_); exact zsubs; exact zml; exact zente; exact ⟨⟨h, by rw [show l.length - (j + 1) = u by omega]; exact hf2, hst⟩, by dsimp only; omega⟩)
    · rw [if_neg h0] at hst
      (repeat' (first | ((with_reducible apply At.mixed (id := 4) 10 (.q 0 (.q 1 (.q 2 (.q 3 (.q 4 (.q 5 (.q 6 (.q 7 (.x 8 (.q 9 .done))))))))))); exact rfl; kernel_rfl; kernel_rfl; kernel_rfl) | refine zsx ?_ | refine zss ?_ | ((with_reducible apply AtM.bo); exact rfl; exact rfl; exact rfl) | ((first | (with_reducible first | apply At.val | apply AtQ.val) | ((with_reducible first | apply AtM1.valz | apply AtM1.val); exact rfl) | ((with_reducible apply AtM1.val); exact rfl)); (exact zprA); exact rfl) | refine zsM ?_ | refine zxM ?_ | ((with_reducible first | apply At.c1 | apply At.c0); exact rfl; exact rfl; exact hk _; exact ztk; kernel_rfl; rintro v' m' B' hm' ⟨rfl, rfl⟩; (try replace sl0 := sl0.mono hm'); (try (have hq0 : hm' = Mem.le_refl _ := rfl; clear hq0 hm'))) | ((with_reducible apply At.alloc (d := 6)); exact rfl; exact rfl; intro b6) | (refine zsp ?_ ?_ <;> (intro hc; (try simp only [zhcs, reduceCtorEq] at hc); (try (exfalso; first | (first | omega | exact absurd rfl hc | exact absurd hc h0) | contradiction | omega | exact absurd rfl hc | exact absurd (by decide) hc))))))
      all_goals ((with_reducible apply At.retB1 (B := [.blk q _ _, R d0 D2])); exact rfl; exact rfl; exact zml; exact zkp; exact ⟨by rw [← hst], by rw [← hst]⟩)
  · obtain rfl : j = l.length := by omega
    rw [List.drop_length, stepP] at hst
    have hk := fun (m' : Mem) => k2 m' D' ⟨hf'.arm, by have := hf'.pend; omega, hf'.safe, hf'.okD⟩
    rw [hst] at hk
    clear hst
    (repeat' (first | refine zss ?_ | ((first | (with_reducible first | apply At.val | apply AtQ.val)); (exact zprA); exact rfl) | refine zsM ?_ | ((with_reducible first | apply At.c1 | apply At.c0); exact rfl; exact rfl; exact hk _; exact ztk; kernel_rfl; rintro v' m' B' hm' ⟨rfl, rfl⟩; (try replace sl0 := sl0.mono hm'); (try (have hq0 : hm' = Mem.le_refl _ := rfl; clear hq0 hm'))) | ((with_reducible apply At.alloc (d := 6)); exact rfl; exact rfl; intro b6) | (refine zsp ?_ ?_ <;> (intro hc; (try simp only [zhcs, reduceCtorEq] at hc); (try (exfalso; first | (first | omega | exact absurd rfl hc) | contradiction | omega | exact absurd rfl hc | exact absurd (by decide) hc))))))
    all_goals ((with_reducible apply At.retB1 (B := [.blk q _ _, R d0 _])); exact rfl; exact rfl; exact zml; exact zkp; exact ⟨rfl, rfl⟩)
def stepsP (D : Dsk) : List (List Chg) → Dsk × Int
  | [] => (D, 0)
  | l :: ll => if (stepP D l).2 = 0 then stepsP (stepP D l).1 ll else stepP D l
end
end Redo
end Go.Proofs.Ytijgnbedilipdaa

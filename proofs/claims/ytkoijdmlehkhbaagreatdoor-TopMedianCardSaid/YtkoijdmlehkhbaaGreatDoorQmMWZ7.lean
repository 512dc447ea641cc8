/- Part 7 of what the law's proof needs: rules of the walk, contracts of functions, plain laws. No condition. -/
import Derived.Test.YtkoijdmlehkhbaaGreatDoorQmMWZ6
import Derived.Lib.FrozenHead
/- Configurations: parts, place. -/
set_option linter.unusedSimpArgs false
set_option linter.unusedVariables false
set_option linter.unusedSectionVars false
set_option maxRecDepth 20000
set_option maxHeartbeats 4000000
namespace Go.Proofs.YtkoijdmlehkhbaaGreatDoor
open Go Go.J
attribute [local irreducible] At AtQ AtM AtM1 PR Ct Pu Rd Res.blk Res.own Res.ex RVs RV
namespace Conf
abbrev gi : Int → Value := fun x => .int .i64 x
abbrev cv (L : List Int) : Value := .agg (L.map gi).toArray
theorem in_ (n a b : Int) : Pu Tryz.prog 111 #[.int .i64 n, .int .i64 a, .int .i64 b] (.bool (decide (a ≤ n ∧ n ≤ b))) := Pu.intro fun m => by
  refine Ct.enterV (by rfl) Tryz.func111 rfl Tryz.ntmps111 rfl (fun w0 Rest => ?_)
  (repeat' (first | refine zss ?_ | refine zs0 ?_ | (refine zsp ?_ ?_ <;> (intro hc; (try simp only [zhcs, reduceCtorEq] at hc); (try (exfalso; first | contradiction | omega | exact absurd rfl hc | exact absurd (by decide) hc))))))
  all_goals ((with_reducible apply At.retB1 (B := [])); exact rfl; exact rfl; exact zml; exact zkp; exact ⟨congrArg Value.bool (by simp [hc]), rfl, rfl⟩)
theorem in64 (n a b : Int) : Pu Tryz.prog 112 #[.int .i64 n, .int .i64 a, .int .i64 b] (.bool (decide (a ≤ n ∧ n ≤ b))) := Pu.intro fun m => by
  refine Ct.enterV (by rfl) Tryz.func112 rfl Tryz.ntmps112 rfl (fun w0 Rest => ?_)
  (repeat' (first | refine zss ?_ | refine zs0 ?_ | (refine zsp ?_ ?_ <;> (intro hc; (try simp only [zhcs, reduceCtorEq] at hc); (try (exfalso; first | contradiction | omega | exact absurd rfl hc | exact absurd (by decide) hc))))))
  all_goals ((with_reducible apply At.retB1 (B := [])); exact rfl; exact rfl; exact zml; exact zkp; exact ⟨congrArg Value.bool (by simp [hc]), rfl, rfl⟩)
theorem parts (n by_ : Int) (h1 : 1 ≤ n) (h2 : n ≤ 100000) (h3 : 1 ≤ by_) (h4 : by_ ≤ 1000) : Pu Tryz.prog 159 #[.int .i64 n, .int .i64 by_] (.int .i64 ((n + by_ - 1) / by_)) := Pu.intro fun m => by
  refine Ct.enterV (by rfl) Tryz.func159 rfl Tryz.ntmps159 rfl (fun w0 Rest => ?_)
  (repeat' (first | refine zss ?_ | refine zs0 ?_ | (refine zsp ?_ ?_ <;> (intro hc; (try simp only [zhcs, reduceCtorEq] at hc); (try (exfalso; first | omega | contradiction | omega | exact absurd rfl hc | exact absurd (by decide) hc))))))
  all_goals ((with_reducible apply At.retB1 (B := [])); exact rfl; exact rfl; exact zml; exact zkp; exact ⟨rfl, rfl, rfl⟩)
def acc (L : List Int) : Nat → Int
  | 0 => 1 + (L[0]! + 16 - 1) / 16
  | s + 1 => acc L s + (L[4 + s]! + 4 - 1) / 4
def plc (L : List Int) : Int := acc L 3
/-- numbers that may be -/
def okA (L : List Int) (s : Nat) : Prop := (1 ≤ L[0]! ∧ L[0]! ≤ 4096) ∧ (1 ≤ L[7]! ∧ L[7]! ≤ 65536) ∧ (1 ≤ L[8]! ∧ L[8]! ≤ 8192) ∧ ∀ i, i < s → (1 ≤ L[1 + i]! ∧ L[1 + i]! ≤ 1099511627776) ∧ (1 ≤ L[4 + i]! ∧ L[4 + i]! ≤ 4096)
instance (L : List Int) (s : Nat) : Decidable (okA L s) := by unfold okA; infer_instance
theorem okA_succ (L : List Int) (s : Nat) : okA L (s + 1) ↔ okA L s ∧ (1 ≤ L[1 + s]! ∧ L[1 + s]! ≤ 1099511627776) ∧ (1 ≤ L[4 + s]! ∧ L[4 + s]! ≤ 4096) := by
  unfold okA
  constructor
  · rintro ⟨h1, h2, h3, h4⟩
    exact ⟨⟨h1, h2, h3, fun i hi => h4 i (by omega)⟩, h4 s (by omega)⟩
  · rintro ⟨⟨h1, h2, h3, h4⟩, h5⟩
    refine ⟨h1, h2, h3, fun i hi => ?_⟩
    by_cases e : i = s
    · subst e; exact h5
    · exact h4 i (by omega)
theorem place (L : List Int) (hL : L.length = 9) (h : okA L 3) : Pu Tryz.prog 113 #[cv L] (.int .i64 (plc L)) := Pu.intro fun m => by
  obtain ⟨r, a, b, d, x, y, w, c, g, rfl⟩ := nine hL
  obtain ⟨⟨r1, r2⟩, _, _, h4⟩ := h
  obtain ⟨_, x1, x2⟩ := h4 0 (by decide)
  obtain ⟨_, y1, y2⟩ := h4 1 (by decide)
  obtain ⟨_, w1, w2⟩ := h4 2 (by decide)
  replace x1 : 1 ≤ x := x1
  replace x2 : x ≤ 4096 := x2
  replace y1 : 1 ≤ y := y1
  replace y2 : y ≤ 4096 := y2
  replace w1 : 1 ≤ w := w1
  replace w2 : w ≤ 4096 := w2
  replace r1 : 1 ≤ r := r1
  replace r2 : r ≤ 4096 := r2
  have e0 : acc [r, a, b, d, x, y, w, c, g] 0 = 1 + (r + 16 - 1) / 16 := rfl
  have e1 : acc [r, a, b, d, x, y, w, c, g] 1 = acc [r, a, b, d, x, y, w, c, g] 0 + (x + 4 - 1) / 4 := rfl
  have e2 : acc [r, a, b, d, x, y, w, c, g] 2 = acc [r, a, b, d, x, y, w, c, g] 1 + (y + 4 - 1) / 4 := rfl
  have e3 : acc [r, a, b, d, x, y, w, c, g] 3 = acc [r, a, b, d, x, y, w, c, g] 2 + (w + 4 - 1) / 4 := rfl
  have p0 := parts r 16 r1 (by omega) (by decide) (by decide)
  have p1 := parts x 4 x1 (by omega) (by decide) (by decide)
  have p2 := parts y 4 y1 (by omega) (by decide) (by decide)
  have p3 := parts w 4 w1 (by omega) (by decide) (by decide)
  show Ct _ _ _ _ _ (fun v m' B => v = .int .i64 (acc [r, a, b, d, x, y, w, c, g] 3) ∧ _ ∧ _)
  unfold cv
  simp only [List.map]
  refine Ct.enterV (by rfl) Tryz.func113 rfl Tryz.ntmps113 rfl (fun w0 Rest => ?_)
  (repeat' (first | refine zss ?_ | refine zs0 ?_ | ((with_reducible first | apply AtM1.callp | apply AtQ.callp | apply At.callp); kernel_rfl; exact rfl; exact rfl; exact p0) | ((with_reducible apply At.box (d := 1)); exact rfl; exact rfl; exact rfl; intro b1) | (refine zsp ?_ ?_ <;> (intro hc; (try simp only [zhcs, reduceCtorEq] at hc); (try (exfalso; first | omega | contradiction | omega | exact absurd rfl hc | exact absurd (by decide) hc))))))
  trace_state
  (refine At.loopk (σ := Nat) [11] (fun s F0 => (12, .int .i64 (s : Int)) :: (3, .int .i64 (acc [r, a, b, d, x, y, w, c, g] s)) :: F0) (fun s => m) (fun s => .blk b1 25 [gi r, gi a, gi b, gi d, gi x, gi y, gi w, gi c, gi g] :: Rest) (fun s => s ≤ 3) (fun s => 3 - s) 0 (by rfl) ?_ zsubs zml zente ?_)
  · exact Nat.zero_le _
  intro s hs
  rcases (show s = 0 ∨ s = 1 ∨ s = 2 ∨ s = 3 by omega) with rfl | rfl | rfl | rfl
  · (repeat' (first | refine zss ?_ | ((first | (with_reducible first | apply At.val | apply AtQ.val)); (exact pr_index_agg (k := 0) (by rfl) (by rfl) (by rfl) (by rfl) (by rfl) (by rfl) (by rfl)); exact rfl) | refine zs0 ?_ | ((with_reducible first | apply AtM1.callp | apply AtQ.callp | apply At.callp); kernel_rfl; exact rfl; exact rfl; exact p1) | ((with_reducible apply At.box (d := 1)); exact rfl; exact rfl; exact rfl; intro b1) | (refine zsp ?_ ?_ <;> (intro hc; (try simp only [zhcs, reduceCtorEq] at hc); (try (exfalso; first | omega | contradiction | omega | exact absurd rfl hc | exact absurd (by decide) hc))))))
    all_goals ((with_reducible refine At.reachk (1) ?_ ?_ ?_ ?_); exact zsubs; exact zml; exact zente; exact ⟨by decide, by decide⟩)
  · (repeat' (first | refine zss ?_ | ((first | (with_reducible first | apply At.val | apply AtQ.val)); (exact pr_index_agg (k := 1) (by rfl) (by rfl) (by rfl) (by rfl) (by rfl) (by rfl) (by rfl)); exact rfl) | refine zs0 ?_ | ((with_reducible first | apply AtM1.callp | apply AtQ.callp | apply At.callp); kernel_rfl; exact rfl; exact rfl; exact p2) | ((with_reducible apply At.box (d := 1)); exact rfl; exact rfl; exact rfl; intro b1) | (refine zsp ?_ ?_ <;> (intro hc; (try simp only [zhcs, reduceCtorEq] at hc); (try (exfalso; first | omega | contradiction | omega | exact absurd rfl hc | exact absurd (by decide) hc))))))
    all_goals ((with_reducible refine At.reachk (2) ?_ ?_ ?_ ?_); exact zsubs; exact zml; exact zente; exact ⟨by decide, by decide⟩)
  · (repeat' (first | refine zss ?_ | ((first | (with_reducible first | apply At.val | apply AtQ.val)); (exact pr_index_agg (k := 2) (by rfl) (by rfl) (by rfl) (by rfl) (by rfl) (by rfl) (by rfl)); exact rfl) | refine zs0 ?_ | ((with_reducible first | apply AtM1.callp | apply AtQ.callp | apply At.callp); kernel_rfl; exact rfl; exact rfl; exact p3) | ((with_reducible apply At.box (d := 1)); exact rfl; exact rfl; exact rfl; intro b1) | (refine zsp ?_ ?_ <;> (intro hc; (try simp only [zhcs, reduceCtorEq] at hc); (try (exfalso; first | omega | contradiction | omega | exact absurd rfl hc | exact absurd (by decide) hc))))))
    all_goals ((with_reducible refine At.reachk (3) ?_ ?_ ?_ ?_); exact zsubs; exact zml; exact zente; exact ⟨by decide, by decide⟩)
  · (repeat' (first | refine zss ?_ | refine zs0 ?_ | ((with_reducible apply At.box (d := 1)); exact rfl; exact rfl; exact rfl; intro b1) | (refine zsp ?_ ?_ <;> (intro hc; (try simp only [zhcs, reduceCtorEq] at hc); (try (exfalso; first | omega | contradiction | omega | exact absurd rfl hc | exact absurd (by decide) hc))))))
    all_goals ((with_reducible apply At.retB1 (B := [])); exact rfl; exact rfl; exact zml; exact zkp; exact ⟨rfl, rfl, rfl⟩)
end Conf
end Go.Proofs.YtkoijdmlehkhbaaGreatDoor
/- Configurations: which are right. -/
set_option linter.unusedSimpArgs false
set_option linter.unusedVariables false
set_option linter.unusedSectionVars false
set_option maxRecDepth 20000
set_option maxHeartbeats 4000000
namespace Go.Proofs.YtkoijdmlehkhbaaGreatDoor
open Go Go.J
attribute [local irreducible] At AtQ AtM AtM1 PR Ct Pu Rd Res.blk Res.own Res.ex RVs RV
namespace Conf
def okB (L : List Int) (s : Nat) : Prop := okA L 3 ∧ (1 < s → L[2]! % L[1]! = 0 ∧ L[2]! / L[1]! ≤ L[4]!) ∧ (2 < s → L[3]! % L[2]! = 0 ∧ L[3]! / L[2]! ≤ L[5]!)
instance (L : List Int) (s : Nat) : Decidable (okB L s) := by unfold okB; infer_instance
def okC (L : List Int) : Prop := okB L 3 ∧ plc L < L[8]!
instance (L : List Int) : Decidable (okC L) := by unfold okC; infer_instance
def chk (L : List Int) : Int := if okC L then 0 else 2
theorem okA_zero (r a b d x y w c g : Int) : okA [r, a, b, d, x, y, w, c, g] 0 ↔ (1 ≤ r ∧ r ≤ 4096) ∧ (1 ≤ c ∧ c ≤ 65536) ∧ (1 ≤ g ∧ g ≤ 8192) :=
  ⟨fun h => ⟨h.1, h.2.1, h.2.2.1⟩, fun h => ⟨h.1, h.2.1, h.2.2, fun i hi => absurd hi (Nat.not_lt_zero i)⟩⟩
theorem okB_one (L : List Int) : okB L 1 ↔ okA L 3 := ⟨fun h => h.1, fun h => ⟨h, fun h => absurd h (by decide), fun h => absurd h (by decide)⟩⟩
theorem okB_two (r a b d x y w c g : Int) : okB [r, a, b, d, x, y, w, c, g] 2 ↔ okB [r, a, b, d, x, y, w, c, g] 1 ∧ (b % a = 0 ∧ b / a ≤ x) :=
  ⟨fun h => ⟨(okB_one _).2 h.1, h.2.1 (by decide)⟩, fun h => ⟨h.1.1, fun _ => h.2, fun h => absurd h (by decide)⟩⟩
theorem okB_three (r a b d x y w c g : Int) : okB [r, a, b, d, x, y, w, c, g] 3 ↔ okB [r, a, b, d, x, y, w, c, g] 2 ∧ (d % b = 0 ∧ d / b ≤ y) :=
  ⟨fun h => ⟨⟨h.1, fun _ => h.2.1 (by decide), fun h => absurd h (by decide)⟩, h.2.2 (by decide)⟩, fun h => ⟨h.1.1, fun _ => h.1.2.1 (by decide), fun _ => h.2⟩⟩
theorem and_false' {p q r : Prop} [Decidable r] (h : r ↔ p ∧ q) (hp : ¬ p) : false = decide r := (decide_eq_false fun hr => hp (h.1 hr).1).symm
theorem and_mid {p q s r : Prop} [Decidable r] (h : r ↔ p ∧ q ∧ s) (hq : ¬ q) : false = decide r := (decide_eq_false fun hr => hq (h.1 hr).2.1).symm
theorem and_last {p q s r : Prop} [Decidable r] [Decidable s] (h : r ↔ p ∧ q ∧ s) (hp : p) (hq : q) : decide s = decide r := decide_eq_decide.2 ⟨fun hs => h.2 ⟨hp, hq, hs⟩, fun hr => (h.1 hr).2.2⟩
set_option maxHeartbeats 2000000 in
theorem check (L : List Int) (hL : L.length = 9) : Pu Tryz.prog 58 #[cv L] (.int .i64 (chk L)) := Pu.intro fun m => by
  have hpl := place L hL
  obtain ⟨r, a, b, d, x, y, w, c, g, rfl⟩ := nine hL
  have z0 := okA_zero r a b d x y w c g
  have a1 : okA [r, a, b, d, x, y, w, c, g] 1 ↔ okA [r, a, b, d, x, y, w, c, g] 0 ∧ (1 ≤ a ∧ a ≤ 1099511627776) ∧ (1 ≤ x ∧ x ≤ 4096) := okA_succ _ 0
  have a2 : okA [r, a, b, d, x, y, w, c, g] 2 ↔ okA [r, a, b, d, x, y, w, c, g] 1 ∧ (1 ≤ b ∧ b ≤ 1099511627776) ∧ (1 ≤ y ∧ y ≤ 4096) := okA_succ _ 1
  have a3 : okA [r, a, b, d, x, y, w, c, g] 3 ↔ okA [r, a, b, d, x, y, w, c, g] 2 ∧ (1 ≤ d ∧ d ≤ 1099511627776) ∧ (1 ≤ w ∧ w ≤ 4096) := okA_succ _ 2
  have ob1 := okB_one [r, a, b, d, x, y, w, c, g]
  have ob2 := okB_two r a b d x y w c g
  have ob3 := okB_three r a b d x y w c g
  have hch : chk [r, a, b, d, x, y, w, c, g] = if okB [r, a, b, d, x, y, w, c, g] 3 ∧ plc [r, a, b, d, x, y, w, c, g] < g then 0 else 2 := rfl
  unfold cv at hpl ⊢
  simp only [List.map] at hpl ⊢
  generalize hL0 : [r, a, b, d, x, y, w, c, g] = L at z0 a1 a2 a3 ob1 ob2 ob3 hch hpl hL ⊢
  have v10 : IntKind.wrap .i64 (((1 : Nat) : Int) - 1) = ((0 : Nat) : Int) := rfl
  have v21 : IntKind.wrap .i64 (((2 : Nat) : Int) - 1) = ((1 : Nat) : Int) := rfl
  have hno : ∀ s, ¬ okB L s → chk L = 2 := fun s hs => by
    rw [hch]
    exact if_neg (fun h => hs ⟨h.1.1, fun _ => h.1.2.1 (by decide), fun _ => h.1.2.2 (by decide)⟩)
  have h2 : g ≤ plc L → chk L = 2 := fun h => by
    rw [hch]
    exact if_neg (fun hh => absurd hh.2 (by omega))
  have h0 : okB L 3 → ¬ g ≤ plc L → chk L = 0 := fun h1 h2 => by
    rw [hch]
    exact if_pos ⟨h1, by omega⟩
  have hbd : okA L 3 → (1 ≤ a ∧ a ≤ 1099511627776) ∧ (1 ≤ b ∧ b ≤ 1099511627776) ∧ (1 ≤ d ∧ d ≤ 1099511627776) := fun h => ⟨(a1.1 (a2.1 (a3.1 h).1).1).2.1, (a2.1 (a3.1 h).1).2.1, (a3.1 h).2.1⟩
  refine Ct.enterV (by rfl) Tryz.func58 rfl Tryz.ntmps58 rfl (fun w0 Rest => ?_)
  (repeat' (first | refine zss ?_ | refine zs0 ?_ | ((with_reducible first | apply AtM1.callp | apply AtQ.callp | apply At.callp); kernel_rfl; exact rfl; exact rfl; exact in_ _ _ _) | ((with_reducible apply At.box (d := 1)); exact rfl; exact rfl; exact rfl; intro b1) | (refine zsp ?_ ?_ <;> (intro hc; (try simp only [zhcs, reduceCtorEq] at hc); (try (exfalso; first | omega | contradiction | omega | exact absurd rfl hc | exact absurd (by decide) hc))))))
  all_goals (refine At.note (t := 3) (v' := .bool (decide (okA L 0))) (by rfl) (congrArg Value.bool (by first | exact and_false' z0 (by assumption) | exact and_mid z0 (by assumption) | exact and_last z0 (by assumption) (by assumption))) ?_)
  all_goals (refine At.loopk (σ := Nat) [1] (fun s F0 => (19, .int .i64 (s : Int)) :: (3, .bool (decide (okA L s))) :: F0) (fun s => m) (fun s => .blk b1 25 [gi r, gi a, gi b, gi d, gi x, gi y, gi w, gi c, gi g] :: Rest) (fun s => s ≤ 3) (fun s => 3 - s) 0 (by rfl) ?_ zsubs zml zente ?_)
  all_goals try exact Nat.zero_le _
  all_goals (intro s hs; rcases (show s = 0 ∨ s = 1 ∨ s = 2 ∨ s = 3 by omega) with rfl | rfl | rfl | rfl)
  all_goals (repeat' (first | refine zss ?_ | ((first | (with_reducible first | apply At.val | apply AtQ.val)); (exact pr_indexArr (by rfl) (by rfl) (by rfl) (by rfl) (by decide)); exact rfl) | refine zs0 ?_ | ((with_reducible first | apply AtM1.callp | apply AtQ.callp | apply At.callp); kernel_rfl; exact rfl; exact rfl; exact in64 _ _ _) | ((with_reducible first | apply AtM1.callp | apply AtQ.callp | apply At.callp); kernel_rfl; exact rfl; exact rfl; exact in_ _ _ _) | ((with_reducible apply At.box (d := 1)); exact rfl; exact rfl; exact rfl; intro b1) | (refine zsp ?_ ?_ <;> (intro hc; (try simp only [zhcs, reduceCtorEq] at hc); (try (exfalso; first | omega | contradiction | omega | exact absurd rfl hc | exact absurd (by decide) hc))))))
  all_goals try first
    | (refine At.note (t := 3) (v' := .bool (decide (okA L 1))) (by rfl) (congrArg Value.bool (by first | exact and_false' a1 (by assumption) | exact and_mid a1 (by assumption) | exact and_last a1 (by assumption) (by assumption))) ?_; ((with_reducible refine At.reachk (1) ?_ ?_ ?_ ?_); exact zsubs; exact zml; exact zente; exact ⟨by decide, by decide⟩))
    | (refine At.note (t := 3) (v' := .bool (decide (okA L 2))) (by rfl) (congrArg Value.bool (by first | exact and_false' a2 (by assumption) | exact and_mid a2 (by assumption) | exact and_last a2 (by assumption) (by assumption))) ?_; ((with_reducible refine At.reachk (2) ?_ ?_ ?_ ?_); exact zsubs; exact zml; exact zente; exact ⟨by decide, by decide⟩))
    | (refine At.note (t := 3) (v' := .bool (decide (okA L 3))) (by rfl) (congrArg Value.bool (by first | exact and_false' a3 (by assumption) | exact and_mid a3 (by assumption) | exact and_last a3 (by assumption) (by assumption))) ?_; ((with_reducible refine At.reachk (3) ?_ ?_ ?_ ?_); exact zsubs; exact zml; exact zente; exact ⟨by decide, by decide⟩))
  all_goals (refine At.note (t := 3) (v' := .bool (decide (okB L 1))) (by rfl) (congrArg Value.bool (decide_eq_decide.2 ob1.symm)) ?_)
  all_goals (refine At.loopk (σ := Nat) [1] (fun s F0 => (5, .int .i64 (s : Int)) :: (3, .bool (decide (okB L s))) :: F0) (fun s => m) (fun s => .blk b1 25 [gi r, gi a, gi b, gi d, gi x, gi y, gi w, gi c, gi g] :: Rest) (fun s => 1 ≤ s ∧ s ≤ 3) (fun s => 3 - s) 1 (by rfl) ?_ zsubs zml zente ?_)
  all_goals try exact ⟨by decide, by decide⟩
  all_goals (rintro s ⟨hs, hs2⟩; by_cases hB : okB L s)
  all_goals (try have hx := hbd hB.1)
  all_goals (try have hv := hno s hB)
  all_goals (rcases (show s = 1 ∨ s = 2 ∨ s = 3 by omega) with rfl | rfl | rfl)
  all_goals (repeat' (first | refine zss ?_ | ((first | (with_reducible first | apply At.val | apply AtQ.val)); (first | exact pr_sub (by rfl) (by rfl) v10 | exact pr_sub (by rfl) (by rfl) v21 | exact pr_indexArr (by rfl) (by rfl) (by rfl) (by rfl) (by decide)); exact rfl) | refine zs0 ?_ | ((with_reducible first | apply AtM1.callp | apply AtQ.callp | apply At.callp); kernel_rfl; exact rfl; exact rfl; exact hpl hB.1) | ((with_reducible apply At.box (d := 1)); exact rfl; exact rfl; exact rfl; intro b1) | (refine zsp ?_ ?_ <;> (intro hc; (try simp only [zhcs, reduceCtorEq] at hc); (try (exfalso; first | omega | contradiction | omega | exact absurd rfl hc | exact absurd (by decide) hc))))))
  all_goals first
    | (refine At.note (t := 3) (v' := .bool (decide (okB L 2))) (by rfl) (congrArg Value.bool (by first | exact and_false' ob2 (by assumption) | exact and_mid ob2 (by assumption) | exact and_last ob2 (by assumption) (by assumption))) ?_; ((with_reducible refine At.reachk (2) ?_ ?_ ?_ ?_); exact zsubs; exact zml; exact zente; exact ⟨⟨by decide, by decide⟩, by decide⟩))
    | (refine At.note (t := 3) (v' := .bool (decide (okB L 3))) (by rfl) (congrArg Value.bool (by first | exact and_false' ob3 (by assumption) | exact and_mid ob3 (by assumption) | exact and_last ob3 (by assumption) (by assumption))) ?_; ((with_reducible refine At.reachk (3) ?_ ?_ ?_ ?_); exact zsubs; exact zml; exact zente; exact ⟨⟨by decide, by decide⟩, by decide⟩))
    | ((with_reducible apply At.retB1 (B := [])); exact rfl; exact rfl; exact zml; exact zkp; exact ⟨congrArg (Value.int .i64) (Eq.symm (by first | assumption | exact h2 (by assumption) | exact h0 hB (by assumption))), rfl, rfl⟩)
end Conf
end Go.Proofs.YtkoijdmlehkhbaaGreatDoor
/- Right configurations: places, the index, home, the size. -/
set_option linter.unusedSimpArgs false
set_option linter.unusedVariables false
set_option linter.unusedSectionVars false
set_option maxRecDepth 20000
set_option maxHeartbeats 4000000
namespace Go.Proofs.YtkoijdmlehkhbaaGreatDoor
open Go Go.J
attribute [local irreducible] At AtQ AtM AtM1 PR Ct Pu Rd Res.blk Res.own Res.ex RVs RV
namespace Conf
abbrev kv (r a b d x y w c g : Int) : Value := .agg #[gi r, gi a, gi b, gi d, gi x, gi y, gi w, gi c, gi g]
/-- what a right one is -/
structure Ok (r a b d x y w c g : Int) : Prop where
  hr : 1 ≤ r ∧ r ≤ 4096
  ha : 1 ≤ a ∧ a ≤ 1099511627776
  hb : 1 ≤ b ∧ b ≤ 1099511627776
  hd : 1 ≤ d ∧ d ≤ 1099511627776
  hx : 1 ≤ x ∧ x ≤ 4096
  hy : 1 ≤ y ∧ y ≤ 4096
  hw : 1 ≤ w ∧ w ≤ 4096
  hc : 1 ≤ c ∧ c ≤ 65536
  hg : 1 ≤ g ∧ g ≤ 8192
  hba : b % a = 0 ∧ b / a ≤ x
  hdb : d % b = 0 ∧ d / b ≤ y
  hp : 1 + (r + 16 - 1) / 16 + (x + 4 - 1) / 4 + (y + 4 - 1) / 4 + (w + 4 - 1) / 4 < g
theorem okC_iff (r a b d x y w c g : Int) : okC [r, a, b, d, x, y, w, c, g] ↔ Ok r a b d x y w c g := by
  constructor
  · rintro ⟨⟨⟨h1, h2, h3, h4⟩, h5, h6⟩, h7⟩
    obtain ⟨a1, x1⟩ := h4 0 (by decide)
    obtain ⟨b1, y1⟩ := h4 1 (by decide)
    obtain ⟨d1, w1⟩ := h4 2 (by decide)
    exact ⟨h1, a1, b1, d1, x1, y1, w1, h2, h3, h5 (by decide), h6 (by decide), h7⟩
  · intro h
    refine ⟨⟨⟨h.hr, h.hc, h.hg, fun i hi => ?_⟩, fun _ => h.hba, fun _ => h.hdb⟩, h.hp⟩
    rcases (show i = 0 ∨ i = 1 ∨ i = 2 by omega) with rfl | rfl | rfl
    · exact ⟨h.ha, h.hx⟩
    · exact ⟨h.hb, h.hy⟩
    · exact ⟨h.hd, h.hw⟩
instance (r a b d x y w c g : Int) : Decidable (Ok r a b d x y w c g) := decidable_of_iff _ (okC_iff r a b d x y w c g)
section
variable {r a b d x y w c g : Int}
abbrev pl (r x y w : Int) : Int := 1 + (r + 16 - 1) / 16 + (x + 4 - 1) / 4 + (y + 4 - 1) / 4 + (w + 4 - 1) / 4
theorem checkK (h : Ok r a b d x y w c g) : Pu Tryz.prog 58 #[kv r a b d x y w c g] (.int .i64 0) := by
  have := check [r, a, b, d, x, y, w, c, g] rfl
  rw [show chk [r, a, b, d, x, y, w, c, g] = 0 from if_pos ((okC_iff ..).2 h)] at this
  exact this
theorem checkN (h : ¬ Ok r a b d x y w c g) : Pu Tryz.prog 58 #[kv r a b d x y w c g] (.int .i64 2) := by
  have := check [r, a, b, d, x, y, w, c, g] rfl
  rw [show chk [r, a, b, d, x, y, w, c, g] = 2 from if_neg (fun hh => h ((okC_iff ..).1 hh))] at this
  exact this
end
end Conf
end Go.Proofs.YtkoijdmlehkhbaaGreatDoor
/- A configuration; slices with what they have; the package fold opens tiers that are right. -/
set_option linter.unusedSimpArgs false
set_option linter.unusedVariables false
set_option linter.unusedSectionVars false
set_option maxRecDepth 20000
set_option maxHeartbeats 4000000
namespace Go.Proofs.YtkoijdmlehkhbaaGreatDoor
open Go Go.J
attribute [local irreducible] At AtQ AtM AtM1 PR Ct Pu Rd Res.blk Res.own Res.ex RVs RV
/-- a slice: where it lies, and what it has -/
structure Lst (α : Type) where
  (p : Option Addr) (c : Nat) (l : List α)
abbrev Lst.v {α : Type} (x : Lst α) : Value := .slice x.p x.l.length x.c
abbrev Lst.nil {α : Type} : Lst α := ⟨none, 0, []⟩
/-- a configuration -/
structure Cfg where
  (r a b d x y w c g : Int)
namespace Cfg
abbrev cells (k : Cfg) : List Value := [.int .i64 k.r, .int .i64 k.a, .int .i64 k.b, .int .i64 k.d, .int .i64 k.x, .int .i64 k.y, .int .i64 k.w, .int .i64 k.c, .int .i64 k.g]
abbrev v (k : Cfg) : Value := .agg (cells k).toArray
def ok (k : Cfg) : Prop := Conf.Ok k.r k.a k.b k.d k.x k.y k.w k.c k.g
instance (k : Cfg) : Decidable k.ok := by unfold ok; infer_instance
def chk (k : Cfg) : Int := if k.ok then 0 else 2
theorem check (k : Cfg) : Pu Tryz.prog 58 #[k.v] (.int .i64 k.chk) := by
  unfold chk
  by_cases h : k.ok
  · rw [if_pos h]; exact Conf.checkK h
  · rw [if_neg h]; exact Conf.checkN h
end Cfg
namespace Se
open Win
abbrev pt (b : Nat) : Value := .pointer (some ⟨b, 0, none⟩)
abbrev t3v (a b c : Lst Slot) : Value := .agg #[a.v, b.v, c.v]
/-- a tier of so many windows, of such a width -/
def tk (l : List Slot) (n w : Int) : Prop := (l.length : Int) = n ∧ Ti.okT l w
instance (l : List Slot) (n w : Int) : Decidable (tk l n w) := by unfold tk; infer_instance
def fok (k : Cfg) (a b c : List Slot) : Prop := k.ok ∧ tk a k.x k.a ∧ tk b k.y k.b ∧ tk c k.w k.d
instance (k : Cfg) (a b c : List Slot) : Decidable (fok k a b c) := by unfold fok; infer_instance
theorem tchk {l : List Slot} {w : Int} (h : Ti.okT l w) : Ti.chk l w = 0 := if_pos h
theorem tchkN {l : List Slot} {w : Int} (h : ¬ Ti.okT l w) : Ti.chk l w = 2 := if_neg h
set_option maxRecDepth 100000 in
theorem openF {m : Mem} (k : Cfg) (a b c : Lst Slot) (ha : a.l.length ≤ 1000000) (hb : b.l.length ≤ 1000000) (hc0 : c.l.length ≤ 1000000) (ia : ∀ s ∈ a.l, Slot.In s) (ib : ∀ s ∈ b.l, Slot.In s) (ic : ∀ s ∈ c.l, Slot.In s)
    (sl0 : Sl m Slot.cells 15 a.p a.c a.l) (sl1 : Sl m Slot.cells 15 b.p b.c b.l) (sl2 : Sl m Slot.cells 15 c.p c.c c.l) :
    Ct Tryz.prog 160 #[k.v, t3v a b c] m [] (fun v m' B => m = m' ∧ ((fok k a.l b.l c.l ∧ ∃ q, v = .tuple #[pt q, .int .i64 0] ∧ B = [.blk q 248 (k.cells ++ [a.v, b.v, c.v])]) ∨ (¬ fok k a.l b.l c.l ∧ v = .tuple #[.pointer none, .int .i64 2] ∧ B = []))) := by
  have k0 := Cfg.check k
  unfold Cfg.chk at k0
  by_cases h0 : k.ok
  rotate_left
  · rw [if_neg h0] at k0
    refine Ct.enterV (by rfl) Tryz.func160 rfl Tryz.ntmps160 rfl (fun w0 Rest => ?_)
    (repeat' (first | refine zss ?_ | refine zsM ?_ | ((with_reducible first | apply AtM1.callp | apply AtQ.callp | apply At.callp); kernel_rfl; exact rfl; exact rfl; exact k0) | ((with_reducible apply At.box (d := 2)); exact rfl; exact rfl; exact rfl; intro b2) | ((with_reducible apply At.box (d := 3)); exact rfl; exact rfl; exact rfl; intro b3) | ((with_reducible apply At.box (d := 39)); exact rfl; exact rfl; exact rfl; intro b39) | (refine zsp ?_ ?_ <;> (intro hc; (try simp only [zhcs, reduceCtorEq] at hc); (try (exfalso; first | omega | contradiction | omega | exact absurd rfl hc | exact absurd (by decide) hc))))))
    all_goals ((with_reducible apply At.retV (B := [])); exact rfl; (repeat' (first | exact RVs.nil | (with_reducible apply RVs.cons) | exact rv_tmp (by rfl) | exact rv_cellN (by rfl) (by repeat constructor) (by rfl) (by rfl) (by rfl) | exact rv_cell1 (by rfl) (by repeat constructor) (by rfl) (by rfl))); exact zml; exact zkp; exact ⟨rfl, .inr ⟨fun h => h0 h.1, rfl, rfl⟩⟩)
  rw [if_pos h0] at k0
  have k1 := fun (m' : Mem) (h : m.le m') => Ti.check a.p a.c a.l k.a ia (sl0.mono h)
  have k2 := fun (m' : Mem) (h : m.le m') => Ti.check b.p b.c b.l k.b ib (sl1.mono h)
  have k3 := fun (m' : Mem) (h : m.le m') => Ti.check c.p c.c c.l k.d ic (sl2.mono h)
  refine Ct.enterV (by rfl) Tryz.func160 rfl Tryz.ntmps160 rfl (fun w0 Rest => ?_)
  (repeat' (first | refine zss ?_ | refine zsM ?_ | ((with_reducible first | apply AtM1.callp | apply AtQ.callp | apply At.callp); kernel_rfl; exact rfl; exact rfl; exact k0) | ((with_reducible apply At.box (d := 2)); exact rfl; exact rfl; exact rfl; intro b2) | ((with_reducible apply At.box (d := 3)); exact rfl; exact rfl; exact rfl; intro b3) | ((with_reducible apply At.box (d := 39)); exact rfl; exact rfl; exact rfl; intro b39) | (refine zsp ?_ ?_ <;> (intro hc; (try simp only [zhcs, reduceCtorEq] at hc); (try (exfalso; first | omega | contradiction | omega | exact absurd rfl hc | exact absurd (by decide) hc))))))
  (refine At.loopk (σ := Nat) [2, 3, 14] (fun s F0 => (15, .int .i64 (s : Int)) :: F0) (fun s => m) (fun s => .blk b3 55 [a.v, b.v, c.v] :: .blk b2 25 k.cells :: Rest) (fun s => s ≤ 3 ∧ (0 < s → tk a.l k.x k.a) ∧ (1 < s → tk b.l k.y k.b) ∧ (2 < s → tk c.l k.w k.d)) (fun s => 3 - s) 0 (by rfl) ?_ zsubs zml zente ?_)
  · exact ⟨Nat.zero_le _, fun h => absurd h (by decide), fun h => absurd h (by decide), fun h => absurd h (by decide)⟩
  rintro s ⟨hs, g0, g1, g2⟩
  rcases (show s = 0 ∨ s = 1 ∨ s = 2 ∨ s = 3 by omega) with rfl | rfl | rfl | rfl
  · clear k2 k3
    by_cases e1 : (a.l.length : Int) = k.x
    rotate_left
    · (repeat' (first | refine zss ?_ | ((first | (with_reducible first | apply At.val | apply AtQ.val)); (first | exact pr_index_agg (k := 0) (by rfl) (by rfl) (by rfl) (by rfl) (by rfl) (by rfl) (by rfl) | exact pr_indexArr (k := 0) (by rfl) (by rfl) (by rfl) (by rfl) (by decide)); exact rfl) | refine zsM ?_ | ((with_reducible apply At.box (d := 2)); exact rfl; exact rfl; exact rfl; intro b2) | ((with_reducible apply At.box (d := 3)); exact rfl; exact rfl; exact rfl; intro b3) | ((with_reducible apply At.box (d := 39)); exact rfl; exact rfl; exact rfl; intro b39) | (refine zsp ?_ ?_ <;> (intro hc; (try simp only [zhcs, reduceCtorEq] at hc); (try (exfalso; first | (first | omega | exact absurd hc e1) | contradiction | omega | exact absurd rfl hc | exact absurd (by decide) hc))))))
      all_goals ((with_reducible apply At.retV (B := [])); exact rfl; (repeat' (first | exact RVs.nil | (with_reducible apply RVs.cons) | exact rv_tmp (by rfl) | exact rv_cellN (by rfl) (by repeat constructor) (by rfl) (by rfl) (by rfl) | exact rv_cell1 (by rfl) (by repeat constructor) (by rfl) (by rfl))); exact zml; exact zkp; exact ⟨rfl, .inr ⟨fun h => e1 h.2.1.1, rfl, rfl⟩⟩)
    by_cases e2 : Ti.okT a.l k.a
    · rw [tchk e2] at k1
      (repeat' (first | refine zss ?_ | ((first | (with_reducible first | apply At.val | apply AtQ.val)); (first | exact pr_index_agg (k := 0) (by rfl) (by rfl) (by rfl) (by rfl) (by rfl) (by rfl) (by rfl) | exact pr_indexArr (k := 0) (by rfl) (by rfl) (by rfl) (by rfl) (by decide)); exact rfl) | refine zsM ?_ | ((with_reducible first | apply AtM1.cr | apply AtQ.cr | apply At.cr); exact rfl; exact rfl; exact fun _ hmm => k1 _ hmm; exact ztk; kernel_rfl) | ((with_reducible apply At.box (d := 2)); exact rfl; exact rfl; exact rfl; intro b2) | ((with_reducible apply At.box (d := 3)); exact rfl; exact rfl; exact rfl; intro b3) | ((with_reducible apply At.box (d := 39)); exact rfl; exact rfl; exact rfl; intro b39) | (refine zsp ?_ ?_ <;> (intro hc; (try simp only [zhcs, reduceCtorEq] at hc); (try (exfalso; first | (first | omega | exact absurd e1 hc) | contradiction | omega | exact absurd rfl hc | exact absurd (by decide) hc))))))
      all_goals ((with_reducible refine At.reachk (1) ?_ ?_ ?_ ?_); exact zsubs; exact zml; exact zente; exact ⟨⟨by decide, fun _ => ⟨e1, e2⟩, fun h => absurd h (by decide), fun h => absurd h (by decide)⟩, by decide⟩)
    · rw [tchkN e2] at k1
      (repeat' (first | refine zss ?_ | ((first | (with_reducible first | apply At.val | apply AtQ.val)); (first | exact pr_index_agg (k := 0) (by rfl) (by rfl) (by rfl) (by rfl) (by rfl) (by rfl) (by rfl) | exact pr_indexArr (k := 0) (by rfl) (by rfl) (by rfl) (by rfl) (by decide)); exact rfl) | refine zsM ?_ | ((with_reducible first | apply AtM1.cr | apply AtQ.cr | apply At.cr); exact rfl; exact rfl; exact fun _ hmm => k1 _ hmm; exact ztk; kernel_rfl) | ((with_reducible apply At.box (d := 2)); exact rfl; exact rfl; exact rfl; intro b2) | ((with_reducible apply At.box (d := 3)); exact rfl; exact rfl; exact rfl; intro b3) | ((with_reducible apply At.box (d := 39)); exact rfl; exact rfl; exact rfl; intro b39) | (refine zsp ?_ ?_ <;> (intro hc; (try simp only [zhcs, reduceCtorEq] at hc); (try (exfalso; first | (first | omega | exact absurd e1 hc) | contradiction | omega | exact absurd rfl hc | exact absurd (by decide) hc))))))
      all_goals ((with_reducible apply At.retV (B := [])); exact rfl; (repeat' (first | exact RVs.nil | (with_reducible apply RVs.cons) | exact rv_tmp (by rfl) | exact rv_cellN (by rfl) (by repeat constructor) (by rfl) (by rfl) (by rfl) | exact rv_cell1 (by rfl) (by repeat constructor) (by rfl) (by rfl))); exact zml; exact zkp; exact ⟨rfl, .inr ⟨fun h => e2 h.2.1.2, rfl, rfl⟩⟩)
  · clear k1 k3
    by_cases e1 : (b.l.length : Int) = k.y
    rotate_left
    · (repeat' (first | refine zss ?_ | ((first | (with_reducible first | apply At.val | apply AtQ.val)); (first | exact pr_index_agg (k := 1) (by rfl) (by rfl) (by rfl) (by rfl) (by rfl) (by rfl) (by rfl) | exact pr_indexArr (k := 1) (by rfl) (by rfl) (by rfl) (by rfl) (by decide)); exact rfl) | refine zsM ?_ | ((with_reducible apply At.box (d := 2)); exact rfl; exact rfl; exact rfl; intro b2) | ((with_reducible apply At.box (d := 3)); exact rfl; exact rfl; exact rfl; intro b3) | ((with_reducible apply At.box (d := 39)); exact rfl; exact rfl; exact rfl; intro b39) | (refine zsp ?_ ?_ <;> (intro hc; (try simp only [zhcs, reduceCtorEq] at hc); (try (exfalso; first | (first | omega | exact absurd hc e1) | contradiction | omega | exact absurd rfl hc | exact absurd (by decide) hc))))))
      all_goals ((with_reducible apply At.retV (B := [])); exact rfl; (repeat' (first | exact RVs.nil | (with_reducible apply RVs.cons) | exact rv_tmp (by rfl) | exact rv_cellN (by rfl) (by repeat constructor) (by rfl) (by rfl) (by rfl) | exact rv_cell1 (by rfl) (by repeat constructor) (by rfl) (by rfl))); exact zml; exact zkp; exact ⟨rfl, .inr ⟨fun h => e1 h.2.2.1.1, rfl, rfl⟩⟩)
    by_cases e2 : Ti.okT b.l k.b
    · rw [tchk e2] at k2
      (repeat' (first | refine zss ?_ | ((first | (with_reducible first | apply At.val | apply AtQ.val)); (first | exact pr_index_agg (k := 1) (by rfl) (by rfl) (by rfl) (by rfl) (by rfl) (by rfl) (by rfl) | exact pr_indexArr (k := 1) (by rfl) (by rfl) (by rfl) (by rfl) (by decide)); exact rfl) | refine zsM ?_ | ((with_reducible first | apply AtM1.cr | apply AtQ.cr | apply At.cr); exact rfl; exact rfl; exact fun _ hmm => k2 _ hmm; exact ztk; kernel_rfl) | ((with_reducible apply At.box (d := 2)); exact rfl; exact rfl; exact rfl; intro b2) | ((with_reducible apply At.box (d := 3)); exact rfl; exact rfl; exact rfl; intro b3) | ((with_reducible apply At.box (d := 39)); exact rfl; exact rfl; exact rfl; intro b39) | (refine zsp ?_ ?_ <;> (intro hc; (try simp only [zhcs, reduceCtorEq] at hc); (try (exfalso; first | (first | omega | exact absurd e1 hc) | contradiction | omega | exact absurd rfl hc | exact absurd (by decide) hc))))))
      all_goals ((with_reducible refine At.reachk (2) ?_ ?_ ?_ ?_); exact zsubs; exact zml; exact zente; exact ⟨⟨by decide, fun _ => g0 (by decide), fun _ => ⟨e1, e2⟩, fun h => absurd h (by decide)⟩, by decide⟩)
    · rw [tchkN e2] at k2
      (repeat' (first | refine zss ?_ | ((first | (with_reducible first | apply At.val | apply AtQ.val)); (first | exact pr_index_agg (k := 1) (by rfl) (by rfl) (by rfl) (by rfl) (by rfl) (by rfl) (by rfl) | exact pr_indexArr (k := 1) (by rfl) (by rfl) (by rfl) (by rfl) (by decide)); exact rfl) | refine zsM ?_ | ((with_reducible first | apply AtM1.cr | apply AtQ.cr | apply At.cr); exact rfl; exact rfl; exact fun _ hmm => k2 _ hmm; exact ztk; kernel_rfl) | ((with_reducible apply At.box (d := 2)); exact rfl; exact rfl; exact rfl; intro b2) | ((with_reducible apply At.box (d := 3)); exact rfl; exact rfl; exact rfl; intro b3) | ((with_reducible apply At.box (d := 39)); exact rfl; exact rfl; exact rfl; intro b39) | (refine zsp ?_ ?_ <;> (intro hc; (try simp only [zhcs, reduceCtorEq] at hc); (try (exfalso; first | (first | omega | exact absurd e1 hc) | contradiction | omega | exact absurd rfl hc | exact absurd (by decide) hc))))))
      all_goals ((with_reducible apply At.retV (B := [])); exact rfl; (repeat' (first | exact RVs.nil | (with_reducible apply RVs.cons) | exact rv_tmp (by rfl) | exact rv_cellN (by rfl) (by repeat constructor) (by rfl) (by rfl) (by rfl) | exact rv_cell1 (by rfl) (by repeat constructor) (by rfl) (by rfl))); exact zml; exact zkp; exact ⟨rfl, .inr ⟨fun h => e2 h.2.2.1.2, rfl, rfl⟩⟩)
  · clear k1 k2
    by_cases e1 : (c.l.length : Int) = k.w
    rotate_left
    · (repeat' (first | refine zss ?_ | ((first | (with_reducible first | apply At.val | apply AtQ.val)); (first | exact pr_index_agg (k := 2) (by rfl) (by rfl) (by rfl) (by rfl) (by rfl) (by rfl) (by rfl) | exact pr_indexArr (k := 2) (by rfl) (by rfl) (by rfl) (by rfl) (by decide)); exact rfl) | refine zsM ?_ | ((with_reducible apply At.box (d := 2)); exact rfl; exact rfl; exact rfl; intro b2) | ((with_reducible apply At.box (d := 3)); exact rfl; exact rfl; exact rfl; intro b3) | ((with_reducible apply At.box (d := 39)); exact rfl; exact rfl; exact rfl; intro b39) | (refine zsp ?_ ?_ <;> (intro hc; (try simp only [zhcs, reduceCtorEq] at hc); (try (exfalso; first | (first | omega | exact absurd hc e1) | contradiction | omega | exact absurd rfl hc | exact absurd (by decide) hc))))))
      all_goals ((with_reducible apply At.retV (B := [])); exact rfl; (repeat' (first | exact RVs.nil | (with_reducible apply RVs.cons) | exact rv_tmp (by rfl) | exact rv_cellN (by rfl) (by repeat constructor) (by rfl) (by rfl) (by rfl) | exact rv_cell1 (by rfl) (by repeat constructor) (by rfl) (by rfl))); exact zml; exact zkp; exact ⟨rfl, .inr ⟨fun h => e1 h.2.2.2.1, rfl, rfl⟩⟩)
    by_cases e2 : Ti.okT c.l k.d
    · rw [tchk e2] at k3
      (repeat' (first | refine zss ?_ | ((first | (with_reducible first | apply At.val | apply AtQ.val)); (first | exact pr_index_agg (k := 2) (by rfl) (by rfl) (by rfl) (by rfl) (by rfl) (by rfl) (by rfl) | exact pr_indexArr (k := 2) (by rfl) (by rfl) (by rfl) (by rfl) (by decide)); exact rfl) | refine zsM ?_ | ((with_reducible first | apply AtM1.cr | apply AtQ.cr | apply At.cr); exact rfl; exact rfl; exact fun _ hmm => k3 _ hmm; exact ztk; kernel_rfl) | ((with_reducible apply At.box (d := 2)); exact rfl; exact rfl; exact rfl; intro b2) | ((with_reducible apply At.box (d := 3)); exact rfl; exact rfl; exact rfl; intro b3) | ((with_reducible apply At.box (d := 39)); exact rfl; exact rfl; exact rfl; intro b39) | (refine zsp ?_ ?_ <;> (intro hc; (try simp only [zhcs, reduceCtorEq] at hc); (try (exfalso; first | (first | omega | exact absurd e1 hc) | contradiction | omega | exact absurd rfl hc | exact absurd (by decide) hc))))))
      all_goals ((with_reducible refine At.reachk (3) ?_ ?_ ?_ ?_); exact zsubs; exact zml; exact zente; exact ⟨⟨by decide, fun _ => g0 (by decide), fun _ => g1 (by decide), fun _ => ⟨e1, e2⟩⟩, by decide⟩)
    · rw [tchkN e2] at k3
      (repeat' (first | refine zss ?_ | ((first | (with_reducible first | apply At.val | apply AtQ.val)); (first | exact pr_index_agg (k := 2) (by rfl) (by rfl) (by rfl) (by rfl) (by rfl) (by rfl) (by rfl) | exact pr_indexArr (k := 2) (by rfl) (by rfl) (by rfl) (by rfl) (by decide)); exact rfl) | refine zsM ?_ | ((with_reducible first | apply AtM1.cr | apply AtQ.cr | apply At.cr); exact rfl; exact rfl; exact fun _ hmm => k3 _ hmm; exact ztk; kernel_rfl) | ((with_reducible apply At.box (d := 2)); exact rfl; exact rfl; exact rfl; intro b2) | ((with_reducible apply At.box (d := 3)); exact rfl; exact rfl; exact rfl; intro b3) | ((with_reducible apply At.box (d := 39)); exact rfl; exact rfl; exact rfl; intro b39) | (refine zsp ?_ ?_ <;> (intro hc; (try simp only [zhcs, reduceCtorEq] at hc); (try (exfalso; first | (first | omega | exact absurd e1 hc) | contradiction | omega | exact absurd rfl hc | exact absurd (by decide) hc))))))
      all_goals ((with_reducible apply At.retV (B := [])); exact rfl; (repeat' (first | exact RVs.nil | (with_reducible apply RVs.cons) | exact rv_tmp (by rfl) | exact rv_cellN (by rfl) (by repeat constructor) (by rfl) (by rfl) (by rfl) | exact rv_cell1 (by rfl) (by repeat constructor) (by rfl) (by rfl))); exact zml; exact zkp; exact ⟨rfl, .inr ⟨fun h => e2 h.2.2.2.2, rfl, rfl⟩⟩)
  · have hf : fok k a.l b.l c.l := ⟨h0, g0 (by decide), g1 (by decide), g2 (by decide)⟩
    clear k1 k2 k3
    (repeat' (first | refine zss ?_ | refine zsM ?_ | ((with_reducible apply At.box (d := 2)); exact rfl; exact rfl; exact rfl; intro b2) | ((with_reducible apply At.box (d := 3)); exact rfl; exact rfl; exact rfl; intro b3) | ((with_reducible apply At.box (d := 39)); exact rfl; exact rfl; exact rfl; intro b39) | (refine zsp ?_ ?_ <;> (intro hc; (try simp only [zhcs, reduceCtorEq] at hc); (try (exfalso; first | omega | contradiction | omega | exact absurd rfl hc | exact absurd (by decide) hc))))))
    all_goals ((with_reducible apply At.retV (B := [.blk b39 248 (k.cells ++ [a.v, b.v, c.v])])); exact rfl; (repeat' (first | exact RVs.nil | (with_reducible apply RVs.cons) | exact rv_tmp (by rfl) | exact rv_cellN (by rfl) (by repeat constructor) (by rfl) (by rfl) (by rfl) | exact rv_cell1 (by rfl) (by repeat constructor) (by rfl) (by rfl))); exact zml; exact zkp; exact ⟨rfl, .inl ⟨hf, b39, rfl, rfl⟩⟩)
def fchk (k : Cfg) (a b c : List Slot) : Int := if fok k a b c then 0 else 2
theorem checkF {m : Mem} (k : Cfg) (a b c : Lst Slot) (ha : a.l.length ≤ 1000000) (hb : b.l.length ≤ 1000000) (hc0 : c.l.length ≤ 1000000) (ia : ∀ s ∈ a.l, Slot.In s) (ib : ∀ s ∈ b.l, Slot.In s) (ic : ∀ s ∈ c.l, Slot.In s)
    (sl0 : Sl m Slot.cells 15 a.p a.c a.l) (sl1 : Sl m Slot.cells 15 b.p b.c b.l) (sl2 : Sl m Slot.cells 15 c.p c.c c.l) :
    Rd Tryz.prog 115 #[k.v, t3v a b c] m [] (.int .i64 (fchk k a.l b.l c.l)) := by
  unfold Rd
  have k0 := openF k a b c ha hb hc0 ia ib ic sl0 sl1 sl2
  unfold fchk
  refine Ct.enterV (by rfl) Tryz.func115 rfl Tryz.ntmps115 rfl (fun w0 Rest => ?_)
  (repeat' (first | refine zss ?_ | refine zsM ?_ | ((with_reducible first | apply At.c1 | apply At.c0); exact rfl; exact rfl; exact k0; exact ztk; kernel_rfl; rintro v' m' B' hm' ⟨rfl, hv⟩; (try replace sl0 := sl0.mono hm'); (try replace sl1 := sl1.mono hm'); (try replace sl2 := sl2.mono hm'); (try (have hq0 : hm' = Mem.le_refl _ := rfl; clear hq0 hm'))) | (rcases hv with ⟨hv, q', rfl, rfl⟩ | ⟨hv, rfl, rfl⟩) | ((with_reducible apply At.box (d := 2)); exact rfl; exact rfl; exact rfl; intro b2) | ((with_reducible apply At.box (d := 3)); exact rfl; exact rfl; exact rfl; intro b3) | (refine zsp ?_ ?_ <;> (intro hc; (try simp only [zhcs, reduceCtorEq] at hc); (try (exfalso; first | contradiction | omega | exact absurd rfl hc | exact absurd (by decide) hc))))))
  · rw [if_pos hv]
    ((with_reducible apply At.retB1 (B := [])); exact rfl; exact rfl; exact zml; exact zkp; exact ⟨rfl, rfl, rfl⟩)
  · rw [if_neg hv]
    ((with_reducible apply At.retB1 (B := [])); exact rfl; exact rfl; exact zml; exact zkp; exact ⟨rfl, rfl, rfl⟩)
end Se
end Go.Proofs.YtkoijdmlehkhbaaGreatDoor
/- A stack of tiers, in plain words: what putting a window's cell does, and making windows out of those below. -/
set_option linter.unusedSimpArgs false
set_option linter.unusedVariables false
set_option linter.unusedSectionVars false
set_option maxRecDepth 20000
set_option maxHeartbeats 4000000
namespace Go.Proofs.YtkoijdmlehkhbaaGreatDoor
open Go Go.J
/-- three lists of slots -/
structure L3 where
  (a b c : List Slot)
/-- three tiers -/
structure TT where
  (a b c : Lst Slot)
namespace TT
def ls (t : TT) : L3 := ⟨t.a.l, t.b.l, t.c.l⟩
def get (t : TT) : Nat → Lst Slot
  | 0 => t.a
  | 1 => t.b
  | _ => t.c
def set (t : TT) (n : Lst Slot) : Nat → TT
  | 0 => ⟨n, t.b, t.c⟩
  | 1 => ⟨t.a, n, t.c⟩
  | _ => ⟨t.a, t.b, n⟩
abbrev cells (t : TT) : List Value := [t.a.v, t.b.v, t.c.v]
abbrev v (t : TT) : Value := .agg #[t.a.v, t.b.v, t.c.v]
/-- a list of slots that lies where it says -/
structure OkL (m : Mem) (x : Lst Slot) : Prop where
  sl : Sl m Slot.cells 15 x.p x.c x.l
  i : ∀ s ∈ x.l, Slot.In s
  n : x.l.length ≤ 1000000
theorem OkL.mono {m m' : Mem} {x : Lst Slot} (h : OkL m x) (hm : m.le m') : OkL m' x := ⟨h.sl.mono hm, h.i, h.n⟩
structure Ok (m : Mem) (t : TT) : Prop where
  a : OkL m t.a
  b : OkL m t.b
  c : OkL m t.c
theorem Ok.mono {m m' : Mem} {t : TT} (h : Ok m t) (hm : m.le m') : Ok m' t := ⟨h.a.mono hm, h.b.mono hm, h.c.mono hm⟩
theorem Ok.get {m : Mem} {t : TT} (h : Ok m t) (k : Nat) : OkL m (t.get k) := by
  rcases k with _ | _ | k
  · exact h.a
  · exact h.b
  · exact h.c
theorem Ok.set {m : Mem} {t : TT} (h : Ok m t) {n : Lst Slot} (hn : OkL m n) (k : Nat) : Ok m (t.set n k) := by
  rcases k with _ | _ | k
  · exact ⟨hn, h.b, h.c⟩
  · exact ⟨h.a, hn, h.c⟩
  · exact ⟨h.a, h.b, hn⟩
end TT
namespace Fo
open Slot Win Ti
def Kw (K : Cfg) : Nat → Int
  | 0 => K.a
  | 1 => K.b
  | _ => K.d
theorem fits_i {x : Cell} {w i : Int} (h : fits x w i) : 0 ≤ i ∧ i ≤ 35184372088831 ∧ Cell.Full x ∧ 0 ≤ x.F.T ∧ x.F.T / w = i ∧ x.L.T / w = i ∧ 1 ≤ w := by
  obtain ⟨h1, h2, ⟨h3, h4⟩, h5, h6⟩ := h
  have hf : Cell.Full x := by
    unfold Cell.chk at h2
    by_cases k : Cell.ok x
    · rcases k with k | k
      · subst k; exact absurd rfl h1
      · exact k
    · rw [if_neg k] at h2; exact absurd h2 (by decide)
  rcases ofE_cases x.F.T w with ⟨k1, k2, k3⟩ | ⟨k1, k2, k3⟩
  · rcases ofE_cases x.L.T w with ⟨q1, q2, q3⟩ | ⟨q1, q2, q3⟩
    · have := ofV_bd x.F.T w
      rw [k3] at h4
      rw [q3] at h6
      unfold ofOk at k1
      exact ⟨by omega, by omega, hf, k1.1, h4, h6, k1.2.2.1⟩
    · rw [q2] at h5; exact absurd h5 (by decide)
  · rw [k2] at h3; exact absurd h3 (by decide)
theorem fits_of {x : Cell} {w i : Int} (hf : Cell.Full x) (hw : 1 ≤ w ∧ w ≤ 1099511627776) (h1 : x.F.T / w = i) (h2 : x.L.T / w = i) : fits x w i := by
  have hF := hf.F
  have hL := hf.L
  unfold Ev.ok at hF hL
  have hn := hf.n
  have k1 : ofOk x.F.T w := ⟨by omega, by omega, hw.1, hw.2⟩
  have k2 : ofOk x.L.T w := ⟨by omega, by omega, hw.1, hw.2⟩
  exact ⟨by omega, if_pos (.inr hf), ⟨if_pos k1, (if_pos k1).trans h1⟩, if_pos k2, (if_pos k2).trans h2⟩
theorem slotV_pos {i n : Int} (hi : 0 ≤ i) (hn : 1 ≤ n) : slotV i n = i % n := if_neg (by omega)
/-- a right tier into which a window's cell is put is right -/
theorem okT_put {l : List Slot} {w i : Int} {x : Cell} (h : okT l w) (hf : fits x w i) : okT (l.set (slotV i l.length).toNat ⟨i, x⟩) w := by
  have hn : 1 ≤ (l.length : Int) := by have := h.1.1; omega
  have hq := slotV_lt (i := i) hn
  refine ⟨by rw [List.length_set]; exact h.1, h.2.1, fun k hk => ?_⟩
  rw [List.length_set] at hk
  unfold okS
  rw [So.set_get _ _ _ _ (by omega), List.length_set]
  by_cases e : (slotV i l.length).toNat = k
  · rw [if_pos e]
    exact .inr ⟨by show slotV i l.length = _; omega, hf⟩
  · rw [if_neg e]; exact h.2.2 k hk
theorem allC_in : ∀ (l : List Cell) (c : Cell), Cell.In c → (∀ x ∈ l, Cell.In x) → Cell.In (Cell.allC c l).1
  | [], c, hc, _ => hc
  | x :: l, c, hc, h => by
    unfold Cell.allC
    split
    · exact Cell.z_in
    · exact allC_in l _ (Cell.mrg_in hc (h x (List.mem_cons_self ..))) fun y hy => h y (List.mem_cons_of_mem _ hy)
theorem slot_cell {s : Slot} (h : Slot.In s) : Cell.In s.c := ⟨h.2.1, h.2.2.1, h.2.2.2.1, h.2.2.2.2⟩
theorem foldC_in {l : List Slot} (h : ∀ s ∈ l, Slot.In s) (i k : Int) : Cell.In (foldC l i k).1 := by
  unfold foldC
  split
  · exact Cell.z_in
  · refine allC_in _ _ Cell.z_in fun x hx => ?_
    obtain ⟨s, hs, rfl⟩ := List.mem_map.1 hx
    exact slot_cell (h s (alls_mem.1 (List.mem_filter.1 hs).1).1)
end Fo
end Go.Proofs.YtkoijdmlehkhbaaGreatDoor
/- Events by windows, in plain words: the cell of a window's events; windows that lie in one merge to its cell; what a tier must have. -/
set_option linter.unusedSimpArgs false
set_option linter.unusedVariables false
set_option linter.unusedSectionVars false
set_option maxRecDepth 20000
set_option maxHeartbeats 4000000
namespace Go.Proofs.YtkoijdmlehkhbaaGreatDoor
open Go Go.J
namespace Gr
open Cell Ti
/-- right events, one behind the other -/
def Good (l : List Ev) : Prop := (∀ e ∈ l, e.ok ∧ e.V < 18446744073709551616) ∧ Mrg.Asc l
def cel (l : List Ev) : Cell := l.foldl add z
def win (w i : Int) (l : List Ev) : List Ev := l.filter fun e => decide (e.T / w = i)
/-- a window's cell -/
def G (w : Int) (l : List Ev) (i : Int) : Cell := cel (win w i l)
theorem Good.sub {l l' : List Ev} (h : Good l) (hs : l'.Sublist l) : Good l' := ⟨fun e he => h.1 e (hs.subset he), h.2.sublist hs⟩
theorem win_sub (w i : Int) (l : List Ev) : (win w i l).Sublist l := List.filter_sublist
theorem win_mem {w i : Int} {l : List Ev} {e : Ev} : e ∈ win w i l ↔ e ∈ l ∧ e.T / w = i := by
  unfold win
  rw [List.mem_filter, decide_eq_true_eq]
theorem cel_full {l : List Ev} (h : Good l) (hn : l ≠ []) : Full (cel l) ∧ (cel l).F ∈ l ∧ (cel l).L ∈ l ∧ (cel l).L = l.getLast hn := by
  rcases l with _ | ⟨e, l⟩
  · exact absurd rfl hn
  obtain ⟨o1, o2⟩ := h.1 e (List.mem_cons_self ..)
  obtain ⟨a1, a2⟩ := List.pairwise_cons.1 h.2
  have hl : ∀ x ∈ l, x.ok ∧ x.V < 18446744073709551616 := fun x hx => h.1 x (List.mem_cons_of_mem _ hx)
  have e1 : cel (e :: l) = l.foldl add (one e) := by
    unfold cel
    rw [List.foldl_cons, show add z e = one e from if_pos rfl]
  have fF := fold_F l (one e) (one_full o1) hl a1 a2
  rcases fold_full (e :: l) z (.inl rfl) h.1 h.2 with ⟨k, _⟩ | ⟨_, k1, k2⟩
  · exact absurd k hn
  · have hL : (cel (e :: l)).L = (e :: l).getLast hn := k2
    refine ⟨k1, ?_, ?_, hL⟩
    · rw [e1, fF]; exact List.mem_cons_self ..
    · rw [hL]; exact List.getLast_mem hn
theorem G_fits {w i : Int} {l : List Ev} (h : Good l) (hw : 1 ≤ w ∧ w ≤ 1099511627776) (hn : win w i l ≠ []) : fits (G w l i) w i := by
  obtain ⟨h1, h2, h3, _⟩ := cel_full (h.sub (win_sub w i l)) hn
  exact Fo.fits_of h1 hw (win_mem.1 h2).2 (win_mem.1 h3).2
theorem div_div {t w f : Int} (hw : 0 < w) : t / (w * f) = t / w / f := (Int.ediv_ediv_of_nonneg (Int.le_of_lt hw)).symm
/-- what a tier has of events, when a window is open -/
structure Lv (w n : Int) (es : List Ev) (c : Int) (l : List Slot) : Prop where
  ok : okT l w
  len : (l.length : Int) = n
  snd : ∀ s ∈ l, keep s = true → s.w < c ∧ s.c = G w es s.w
  own : ∀ s ∈ l, keep s = true → ∀ e ∈ es, s.w < e.T / w → e.T / w < c → e.T / w % n ≠ s.w % n
  all : ∀ e ∈ es, e.T / w < c → (∀ x ∈ es, e.T / w < x.T / w → x.T / w < c → x.T / w % n ≠ e.T / w % n) → (⟨e.T / w, G w es (e.T / w)⟩ : Slot) ∈ l
theorem keep_full {i : Int} {c : Cell} (h : Full c) : keep ⟨i, c⟩ = true := keep_ne.2 fun e => by
  have : c = z := congrArg Slot.c e
  exact h.ne this
theorem mem_set {l : List Slot} {q k : Nat} {x y : Slot} (hk : k < l.length) (hx : l[k]! = x) (hq : q ≠ k) : x ∈ l.set q y := by
  have : (l.set q y)[k]! = x := by
    rw [List.getElem!_eq_getElem?_getD, List.getElem?_set, if_neg hq, ← List.getElem!_eq_getElem?_getD, hx]
  rw [← this]
  exact Ls.mem! (by rw [List.length_set]; exact hk)
theorem mem_set_inv {l : List Slot} {q : Nat} {s y : Slot} (h : s ∈ l.set q y) : s = y ∨ ∃ k, k < l.length ∧ k ≠ q ∧ l[k]! = s := by
  obtain ⟨k, hk, e⟩ := List.mem_iff_getElem.1 h
  rw [List.length_set] at hk
  rw [List.getElem_set] at e
  by_cases hq : q = k
  · rw [if_pos hq] at e; exact .inl e.symm
  · rw [if_neg hq] at e
    exact .inr ⟨k, hk, fun h => hq h.symm, by rw [getElem!_pos l k hk]; exact e⟩
/-- where a window that is kept lies -/
theorem at_pos {l : List Slot} {w : Int} {k : Nat} (h : okT l w) (hk : k < l.length) (hs : keep l[k]! = true) : l[k]!.w % (l.length : Int) = (k : Int) := by
  have oks := h.2.2 k hk
  unfold okS at oks
  obtain ⟨e1, e2⟩ := oks.resolve_left (keep_ne.1 hs)
  rw [Fo.slotV_pos (Fo.fits_i e2).1 (by omega)] at e1
  exact e1
theorem Lv.put {w n o : Int} {es : List Ev} {l : List Slot} (h : Lv w n es o l) (hG : Good es) (hne : win w o es ≠ []) (hmax : ∀ e ∈ es, e.T / w ≤ o) :
    putE l w o (G w es o) = 0 ∧ ∀ c', o < c' → Lv w n es c' (putO l w o (G w es o)) := by
  have hw := h.ok.2.1
  have hf := G_fits hG hw hne
  have hcond : okT l w ∧ fits (G w es o) w o := ⟨h.ok, hf⟩
  refine ⟨if_pos hcond, fun c' hc => ?_⟩
  have e0 : putO l w o (G w es o) = l.set (Win.slotV o l.length).toNat ⟨o, G w es o⟩ := if_pos hcond
  rw [e0]
  have hn : 1 ≤ (l.length : Int) := by have := h.ok.1.1; omega
  have ho : 0 ≤ o := (Fo.fits_i hf).1
  have hq := slotV_lt (i := o) hn
  have hlen := h.len
  have hqo : (((Win.slotV o l.length).toNat : Nat) : Int) = o % (l.length : Int) := by
    rw [← Fo.slotV_pos ho hn]; omega
  refine ⟨Fo.okT_put h.ok hf, by rw [List.length_set]; exact h.len, fun s hs ks => ?_, fun s hs ks e he h1 h2 => ?_, fun e he h1 h2 => ?_⟩
  · rcases List.mem_or_eq_of_mem_set hs with hs | rfl
    · have := h.snd s hs ks
      exact ⟨by omega, this.2⟩
    · exact ⟨hc, rfl⟩
  · rcases mem_set_inv hs with rfl | ⟨k, hk, hkq, rfl⟩
    · have := hmax e he
      exact absurd h1 (by show ¬ o < _; omega)
    · by_cases heq : e.T / w = o
      · have e1 := at_pos h.ok hk ks
        rw [heq, ← hlen, e1, ← hqo]
        omega
      · exact h.own _ (Ls.mem! hk) ks e he h1 (by have := hmax e he; omega)
  · by_cases heq : e.T / w = o
    · rw [heq]
      exact List.mem_set (by omega) _
    · have hlt : e.T / w < o := by have := hmax e he; omega
      have hm := h.all e he hlt fun x hx h3 h4 => h2 x hx h3 (by omega)
      obtain ⟨k, hk, ek⟩ := List.mem_iff_getElem.1 hm
      have ek' : l[k]! = ⟨e.T / w, G w es (e.T / w)⟩ := by rw [getElem!_pos l k hk]; exact ek
      refine mem_set hk ek' fun hqk => ?_
      have hfe : Full (G w es (e.T / w)) := (cel_full (hG.sub (win_sub w _ es)) (List.ne_nil_of_mem (win_mem.2 ⟨he, rfl⟩))).1
      have e1 := at_pos h.ok hk (by rw [ek']; exact keep_full hfe)
      rw [ek'] at e1
      obtain ⟨y, hy⟩ := List.exists_mem_of_ne_nil _ hne
      obtain ⟨hy1, hy2⟩ := win_mem.1 hy
      have := h2 y hy1 (by omega) (by omega)
      rw [hy2, ← hlen, ← hqo] at this
      exact this (by rw [hqk]; exact e1.symm)
theorem Lv.later {w n c c' : Int} {es : List Ev} {l : List Slot} (h : Lv w n es c l) (hc : c ≤ c') (hmax : ∀ e ∈ es, e.T / w < c) : Lv w n es c' l :=
  ⟨h.ok, h.len, fun s hs ks => ⟨by have := (h.snd s hs ks).1; omega, (h.snd s hs ks).2⟩, fun s hs ks e he h1 _ => h.own s hs ks e he h1 (hmax e he), fun e he _ h2 => h.all e he (hmax e he) fun x hx h3 h4 => h2 x hx h3 (by omega)⟩
theorem win_snoc {w i : Int} {es : List Ev} {e : Ev} (h : e.T / w ≠ i) : win w i (es ++ [e]) = win w i es := by
  unfold win
  rw [List.filter_append, List.filter_cons_of_neg (by simpa using h), List.filter_nil, List.append_nil]
theorem Lv.add {w n c : Int} {es : List Ev} {l : List Slot} {e : Ev} (h : Lv w n es c l) (hc : c ≤ e.T / w) : Lv w n (es ++ [e]) c l :=
  ⟨h.ok, h.len, fun s hs ks => by
    obtain ⟨h1, h2⟩ := h.snd s hs ks
    exact ⟨h1, by unfold G; rw [win_snoc (by omega)]; exact h2⟩, fun s hs ks x hx h1 h2 => by
    rcases List.mem_append.1 hx with hx | hx
    · exact h.own s hs ks x hx h1 h2
    · rw [List.mem_singleton.1 hx] at h2
      omega, fun x hx h1 h2 => by
    rcases List.mem_append.1 hx with hx | hx
    · have := h.all x hx h1 fun y hy h3 h4 => h2 y (List.mem_append_left _ hy) h3 h4
      unfold G
      rw [win_snoc (by omega)]
      exact this
    · rw [List.mem_singleton.1 hx] at h1
      omega⟩
end Gr
end Go.Proofs.YtkoijdmlehkhbaaGreatDoor
/- The bytes of a text that may be written; an array as a slice. -/
set_option linter.unusedSimpArgs false
set_option linter.unusedVariables false
set_option linter.unusedSectionVars false
set_option maxRecDepth 20000
namespace Go.J
open Go
/-- the bytes of a text, that may be written -/
def Res.byt (E : TypeId) (p : Option Addr) (c : Nat) (L : List Int) : Res where
  p w s := ∃ g cur, p = some ⟨g, 0, none⟩ ∧ w.heap[g]? = some (.cells cur E (cur.size, cur.size + 1)) ∧ L.length ≤ c ∧ c ≤ maxLen ∧ c ≤ cur.size ∧ (∀ j, j < L.length → cur[j]? = some (.int .u8 L[j]!)) ∧ ∀ k, s k ↔ k = g
  loc := fun {w w' s} h he => by
    obtain ⟨g, cur, h1, h2, h3, h4, h5, h6, h7⟩ := h
    exact ⟨g, cur, h1, by rw [he g ((h7 g).2 rfl)]; exact h2, h3, h4, h5, h6, h7⟩
  dom := fun {w s k} h hk => by
    obtain ⟨g, cur, h1, h2, h3, h4, h5, h6, h7⟩ := h
    rw [(h7 k).1 hk]; exact (Array.getElem?_eq_some_iff.1 h2).1
section
variable {P : Program} {n : Nat} {w0 : World} {F : Fr} {m : Mem} {Rs Rs' : List Res} {Q : Exit → Act → World → Prop} {K : Act → World → Prop} {E : TypeId} {p : Option Addr} {c : Nat} {L : List Int}
theorem byt_rdb (hp : Pick Rs (.byt E p c L) Rs') : Rdb (HW w0 m Rs) fb 1 p c L := by
  refine ⟨inferInstance, fun w hw hl => ?_, fun w hw => ?_, fun w hw i j hi hj => ?_⟩
  · obtain ⟨_, g, cur, h1, _⟩ := hw.get hp
    exact ⟨g, 0, h1⟩
  · obtain ⟨_, g, cur, h1, h2, h3, _⟩ := hw.get hp
    exact h3
  · obtain ⟨_, g, cur, h1, h2, h3, h4, h5, h6, h7⟩ := hw.get hp
    subst h1
    have hj0 : j = 0 := by omega
    subst hj0
    show w.cell? ⟨g, 0 + (i * 1 + 0), none⟩ = _
    rw [World.cell_of h2, show 0 + (i * 1 + 0) = i by omega, h6 i hi]
    rfl
theorem At.byt_freeze (hp : Pick Rs (.byt E p c L) Rs') (h : ∀ m' : Mem, m.le m' → Sl m' fb 1 p c L → At n w0 F m' Rs' K) : At n w0 F m Rs K := fun a w ha hw => by
  obtain ⟨s, ⟨s1, s2, h1, h2, hd, he⟩, hm⟩ := (hw.ent (Ent.of_pick hp)).res
  obtain ⟨g, cur, rfl, h4, h5, h6, h7, h8, hg⟩ := h1
  have hmb : m g = none := hm g ((he g).2 (.inl ((hg g).2 rfl)))
  refine h (fun k => if k = g then some (.cells cur E (cur.size, cur.size + 1)) else m k) (fun k o hk => ?_) ⟨inferInstance, h5, h6, (fun e => by cases e), fun a' ha' _ => ?_⟩ a w ha
    ⟨hw.os, hw.tape, hw.output, hw.size, hw.dr, fun k o hk => ?_, s2, h2, fun k hk => ?_⟩
  · show (if k = g then _ else _) = _
    rw [if_neg (fun e => by subst e; rw [hmb] at hk; cases hk)]; exact hk
  · cases ha'
    refine ⟨rfl, E, cur, _, if_pos rfl, by show 0 + c * 1 ≤ _; omega, fun i j hi hj => ?_⟩
    have hj0 : j = 0 := by omega
    subst hj0
    show cur[0 + (i * 1 + 0)]? = _
    rw [show 0 + (i * 1 + 0) = i by omega, h8 i hi]
    rfl
  · by_cases e : k = g
    · subst e
      rw [if_pos rfl] at hk; cases hk; exact h4
    · rw [if_neg e] at hk; exact hw.mem k o hk
  · show (if k = g then _ else _) = _
    rw [if_neg (fun e => hd k ⟨(hg k).2 e, hk⟩)]
    exact hm k ((he k).2 (.inr hk))
theorem At.str_own {ops : Array Oper} {rest : List Oper} {d : Nat} {x : Operand} {s t e : TypeId} {ty : TypeId} {pos : String} {aft : Array Edge} {l : List UInt8}
    (hs : P.underlying s = some .string) (ht : P.underlying t = some (.slice e)) (he : P.underlying e = some (.int .u8)) (hx : ev F x = some (.string (str l))) (hl : l.length ≤ 34359738368) (hd : Nat.blt d n = true)
    (h : ∀ p c, At n w0 ((d, .slice p (l.map bI).length c) :: F) m (.byt e p c (l.map bI) :: Rs) (wpList P ops Q rest)) : At n w0 F m Rs (wpList P ops Q (⟨some d, .convert s t x, ty, pos, aft, none⟩ :: rest)) := fun a w ha hw =>
  wpList_plain rfl fun K hK => by
    have hrun := run_bytes_of_string (P := P) w s t e (str l) hs ht he
    have hge := grownCap_ge w (str l).size 0 e
    have hle := grownCap_le_maxLen w (str l).size 0 e (by rw [str_size]; simp only [maxLen]; omega)
    generalize grownCap w (str l).size 0 e = c at hrun hge hle
    rw [str_size] at hrun hge
    have hsize : (bytesRow (str l) c).size = c := by rw [bytesRow_str]; simp; omega
    unfold Oper.wp
    have hex : (execOp a.eval ⟨some d, .convert s t x, ty, pos, aft, none⟩).run P w = .ok (.value (.slice (some ⟨w.heap.size, 0, none⟩) l.length c)) (w.drew.alloc (.cells (bytesRow (str l) c) e ((bytesRow (str l) c).size, (bytesRow (str l) c).size + 1))) := by
      simp only [execOp, ha.ev hx, Sem.run_bind, hrun, Result.andThen]
      rfl
    rw [hex]
    refine hK _ _ (h (some ⟨w.heap.size, 0, none⟩) c _ _ (by rw [List.length_map]; exact ha.put hd) (hw.add rfl rfl rfl (by show w.heap.size ≤ (w.heap.push _).size; simp) (fun k hk => by show (w.heap.push _)[k]? = _; rw [Array.getElem?_push, if_neg (by omega)])
      ⟨fun k => k = w.heap.size, ⟨w.heap.size, bytesRow (str l) c, rfl, by show (w.heap.push _)[w.heap.size]? = _; simp, by simpa using hge, hle, by rw [hsize]; exact Nat.le_refl _, fun j hj => ?_, fun _ => Iff.rfl⟩, fun k hk => by omega⟩))
    have hj' : j < l.length := by simpa using hj
    rw [bytesRow_str, Array.getElem?_append_left (by simp; omega)]
    simp [hj']
theorem At.store_byt {ops : Array Oper} {rest : List Oper} {t : TypeId} {x y : Operand} {ty : TypeId} {pos : String} {aft : Array Edge} {k : Nat} {v : Int}
    (hx : ev F x = some (.pointer (some (at_ p (k * 1))))) (hy : ev F y = some (.int .u8 v)) (hp : Pick Rs (.byt E p c L) Rs') (hs : sizeB P t = some 1) (hk : k < L.length)
    (h : At n w0 F m (.byt E p c (L.set k v) :: Rs') (wpList P ops Q rest)) : At n w0 F m Rs (wpList P ops Q (⟨none, .store t x y, ty, pos, aft, none⟩ :: rest)) := fun a w ha hw =>
  wpList_plain rfl fun K hK => by
    have hrow : ∀ s, (Res.byt E p c L).p w s → ∃ w', (storeVar t (at_ p (k * 1)) (.int .u8 v)).run P w = .ok () w' ∧ (Res.byt E p c (L.set k v)).p w' s ∧ w'.os = w.os ∧ w'.tape = w.tape ∧ w'.output = w.output ∧ w.heap.size ≤ w'.heap.size ∧ (∀ k, k < w.heap.size → ¬ s k → w'.heap[k]? = w.heap[k]?) := fun s hown => by
      obtain ⟨g, cur, rfl, h4, h5, h6, h7, h8, hgs⟩ := hown
      have hkc : k < cur.size := by omega
      have e0 : at_ (some ⟨g, 0, none⟩) (k * 1) = ⟨g, k, none⟩ := by show (⟨g, 0 + k * 1, none⟩ : Addr) = _; congr 1; omega
      have hcell : w.cell? ⟨g, k, none⟩ = some cur[k] := by simp [World.cell?, h4, hkc]
      have hfro : w.frozen? ⟨g, k, none⟩ = false := by
        simp only [World.frozen?, h4, Bool.and_eq_false_iff, decide_eq_false_iff_not]
        left
        omega
      have hst : (storeVar t (at_ (some ⟨g, 0, none⟩) (k * 1)) (.int .u8 v)).run P w = .ok () (w.setRow g (cur.setIfInBounds k (.int .u8 v))) := by
        have hs1 : (_root_.Go.store (⟨g, k, none⟩ : Addr) (.int .u8 v)).run P w = .ok () (w.setRow g (cur.setIfInBounds k (.int .u8 v))) := by
          rw [run_store P w _ _ _ rfl, hcell]
          simp [hfro, setCell_eq_setRow w g k cur E _ (.int .u8 v) h4]
        have ha0 : (⟨g, k, none⟩ : Addr).add 0 = ⟨g, k, none⟩ := addr_add0 _
        rw [e0]
        simp only [storeVar, Sem.run_bind, run_sizeOf hs, Result.andThen]
        simp only [Value.cells, storeCells, Sem.run_bind, ha0, hs1, Result.andThen]
        rw [if_neg (show ¬ ((#[Value.int .u8 v] : Array Value).size ≠ 1) by simp)]
        simp only [Sem.run_bind, hs1, Result.andThen]
        rfl
      refine ⟨_, hst, ⟨g, cur.setIfInBounds k (.int .u8 v), rfl, by rw [Array.size_setIfInBounds]; exact setRow_heap w g cur _ E _ h4, by rw [List.length_set]; exact h5, h6, by rw [Array.size_setIfInBounds]; exact h7, fun j hj => ?_, hgs⟩, rfl, rfl, rfl, by simp, fun i _ hi => setRow_other w g i _ (fun e => hi ((hgs i).2 e))⟩
      rw [List.length_set] at hj
      by_cases e : j = k
      · subst e
        rw [Array.getElem?_setIfInBounds_self_of_lt hkc, List.getElem!_eq_getElem?_getD, List.getElem?_set_self hj]; rfl
      · rw [Array.getElem?_setIfInBounds_ne (Ne.symm e), h8 j hj, List.getElem!_eq_getElem?_getD, List.getElem!_eq_getElem?_getD, List.getElem?_set_ne (Ne.symm e)]
    obtain ⟨s0, hown⟩ := hw.get hp
    obtain ⟨w', hr', _⟩ := hrow s0 hown
    have hrun' : (execOp a.eval ⟨none, .store t x y, ty, pos, aft, none⟩).run P w = .ok .skip w' := by
      have e0 : (Pure.pure (at_ p (k * 1)) : Sem Addr).run P w = .ok (at_ p (k * 1)) w := rfl
      simp only [execOp, ha.ev hx, ha.ev hy, Instr.storeAt, Instr.sureAddr, Sem.run_bind, e0, Result.andThen, hr']
      rfl
    unfold Oper.wp
    rw [hrun']
    refine hK _ _ (h _ _ ha (hw.turn hp fun s hs => ?_))
    obtain ⟨w2, hr2, h2, g1, g2, g3, g4, g5⟩ := hrow s hs
    rw [hr'] at hr2
    injection hr2 with _ e2
    subst e2
    exact ⟨s, h2, g1, g2, g3, g4, g5, fun k hk => .inl hk⟩
theorem pr_index_byt {x y : Operand} {t : TypeId} {ln k : Nat} {ki : IntKind} (hx : ev F x = some (.slice p ln c)) (hy : ev F y = some (.int ki (k : Int))) (hp : Pick Rs (.byt E p c L) Rs')
    (ht : P.underlying t = some (.slice E)) (hs : sizeB P E = some 1) (hl : ln = L.length) (hk : k < L.length) : PR P n F (HW w0 m Rs) (.indexAddr t x y) (.pointer (some (at_ p (k * 1)))) :=
  pr_indexAddr (byt_rdb hp) ht hs hx hy hl hk
theorem pr_load_byt {x : Operand} {t : TypeId} {k : Nat} (hx : ev F x = some (.pointer (some (at_ p (k * 1))))) (hp : Pick Rs (.byt E p c L) Rs') (hk : k < L.length) (ht : isAggB P t = some false) : PR P n F (HW w0 m Rs) (.load t x) (.int .u8 L[k]!) :=
  pr_load_sl1 (byt_rdb hp) hk ht hx rfl
/-- an array that is a block, as a slice -/
theorem pr_slice_arr {C : World → Prop} {x : Operand} {t e : TypeId} {len b sz : Nat} (hx : ev F x = some (.pointer (some ⟨b, 0, none⟩))) (ht : P.underlying t = some (.array len e)) (hs : sizeB P e = some sz) :
    PR P n F C (.slice t x none none none) (.slice (some ⟨b, 0, none⟩) len len) := fun _ _ _ _ _ a w ha hC => by
  have hr : ∀ w, (underlying t).run P w = .ok (.array len e) w := fun w => by simp only [underlying, program, bind, Sem.bind, Sem.run, ht]; rfl
  have hb : (Instr.sliceBounds false len len none none none).run P w = .ok (0, len, len) w := by
    unfold Instr.sliceBounds Instr.sliceBound
    simp [pure, Sem.run, bind, Sem.bind]
  have e0 : (Pure.pure (⟨b, 0, none⟩ : Addr) : Sem Addr).run P w = .ok ⟨b, 0, none⟩ w := rfl
  have hz : (if len = 0 then (⟨b, 0, none⟩ : Addr) else (⟨b, 0, none⟩ : Addr).add (0 * sz)) = ⟨b, 0, none⟩ := by
    split
    · rfl
    · rw [Nat.zero_mul]; exact addr_add0 _
  simp only [execOp, ha.ev hx, Option.map_none, Sem.run_bind]
  unfold Instr.sliceAt
  simp only [Sem.run_bind, hr, Result.andThen, Instr.sureAddr, e0, hb, run_sizeOf hs, pure, Sem.run, hz, Nat.sub_zero]
/-- such a slice can be read -/
theorem blk_rdb {b c : Nat} {L : List Int} (hp : Pick Rs (.blk b E (L.map (fun x => Value.int .u8 x))) Rs') (hc : L.length = c) : Rdb (HW w0 m Rs) fb 1 (some ⟨b, 0, none⟩) c L := by
  refine ⟨inferInstance, fun w hw hl => ⟨b, 0, rfl⟩, fun w hw => by omega, fun w hw i j hi hj => ?_⟩
  have hj0 : j = 0 := by omega
  subst hj0
  have hb := hw.blk hp
  show w.cell? ⟨b, 0 + (i * 1 + 0), none⟩ = _
  rw [World.cell_of hb, show 0 + (i * 1 + 0) = i by omega]
  simp [hi, fb]
theorem Pu.ct {f : FuncId} {args : Array Value} {V : Value} (h : Pu P f args V) (m : Mem) : Ct P f args m [] (fun v m' B => v = V ∧ m = m' ∧ B = []) := (h m).mono fun _ _ _ _ ⟨a, b, c⟩ => ⟨a, b.symm, c⟩
end
end Go.J
/- The parts of the library's stable sort, at slots of a tier: sorting few by insertion, swapping and turning rows. -/
set_option linter.unusedSimpArgs false
set_option linter.unusedVariables false
set_option linter.unusedSectionVars false
set_option maxRecDepth 20000
set_option maxHeartbeats 4000000
namespace Go.Proofs.YtkoijdmlehkhbaaGreatDoor
open Go Go.J
attribute [local irreducible] At AtQ AtM AtM1 PR Ct Pu Rd Res.blk Res.own Res.ex RVs RV
namespace So
abbrev cells := Slot.cells
abbrev oS (p : Option Addr) (c : Nat) (l : List Slot) : Res := .own Slot.cells 15 61 p c l
abbrev fnS : Value := .func (.func 211) #[] #[]
def cmpI (x y : Int) : Int := if x < y then -1 else if y < x then 1 else 0
theorem cmpI_lt {x y : Int} : cmpI x y < 0 ↔ x < y := by
  unfold cmpI
  split
  · omega
  · split <;> omega
theorem compare_ (x y : Int) : Pu Tryz.prog 212 #[.int .i64 x, .int .i64 y] (.int .i64 (cmpI x y)) := Pu.intro fun m => by
  have hn : ∀ z : Int, Pu Tryz.prog 226 #[.int .i64 z] (.bool false) := fun z => Pu.intro fun m => by
    refine Ct.enterV (by rfl) Tryz.func226 rfl Tryz.ntmps226 rfl (fun w0 Rest => ?_)
    (repeat' (first | refine zss ?_ | refine zs0 ?_ | (refine zsp ?_ ?_ <;> (intro hc; (try simp only [zhcs, reduceCtorEq] at hc); (try (exfalso; first | contradiction | omega | exact absurd rfl hc | exact absurd (by decide) hc))))))
    all_goals ((with_reducible apply At.retB1 (B := [])); exact rfl; exact rfl; exact zml; exact zkp; exact ⟨by first | rfl | simp, rfl, rfl⟩)
  have n1 := hn x
  have n2 := hn y
  unfold cmpI
  by_cases h : x < y
  · rw [if_pos h]
    refine Ct.enterV (by rfl) Tryz.func212 rfl Tryz.ntmps212 rfl (fun w0 Rest => ?_)
    (repeat' (first | refine zss ?_ | refine zs0 ?_ | ((with_reducible first | apply AtM1.callp | apply AtQ.callp | apply At.callp); kernel_rfl; exact rfl; exact rfl; exact n1) | ((with_reducible first | apply AtM1.callp | apply AtQ.callp | apply At.callp); kernel_rfl; exact rfl; exact rfl; exact n2) | (refine zsp ?_ ?_ <;> (intro hc; (try simp only [zhcs, reduceCtorEq] at hc); (try (exfalso; first | omega | contradiction | omega | exact absurd rfl hc | exact absurd (by decide) hc))))))
    all_goals ((with_reducible apply At.retB1 (B := [])); exact rfl; exact rfl; exact zml; exact zkp; exact ⟨rfl, rfl, rfl⟩)
  · rw [if_neg h]
    by_cases h2 : y < x
    · rw [if_pos h2]
      refine Ct.enterV (by rfl) Tryz.func212 rfl Tryz.ntmps212 rfl (fun w0 Rest => ?_)
      (repeat' (first | refine zss ?_ | refine zs0 ?_ | ((with_reducible first | apply AtM1.callp | apply AtQ.callp | apply At.callp); kernel_rfl; exact rfl; exact rfl; exact n1) | ((with_reducible first | apply AtM1.callp | apply AtQ.callp | apply At.callp); kernel_rfl; exact rfl; exact rfl; exact n2) | (refine zsp ?_ ?_ <;> (intro hc; (try simp only [zhcs, reduceCtorEq] at hc); (try (exfalso; first | omega | contradiction | omega | exact absurd rfl hc | exact absurd (by decide) hc))))))
      all_goals ((with_reducible apply At.retB1 (B := [])); exact rfl; exact rfl; exact zml; exact zkp; exact ⟨rfl, rfl, rfl⟩)
    · rw [if_neg h2]
      refine Ct.enterV (by rfl) Tryz.func212 rfl Tryz.ntmps212 rfl (fun w0 Rest => ?_)
      (repeat' (first | refine zss ?_ | refine zs0 ?_ | ((with_reducible first | apply AtM1.callp | apply AtQ.callp | apply At.callp); kernel_rfl; exact rfl; exact rfl; exact n1) | ((with_reducible first | apply AtM1.callp | apply AtQ.callp | apply At.callp); kernel_rfl; exact rfl; exact rfl; exact n2) | (refine zsp ?_ ?_ <;> (intro hc; (try simp only [zhcs, reduceCtorEq] at hc); (try (exfalso; first | omega | contradiction | omega | exact absurd rfl hc | exact absurd (by decide) hc))))))
      all_goals ((with_reducible apply At.retB1 (B := [])); exact rfl; exact rfl; exact zml; exact zkp; exact ⟨rfl, rfl, rfl⟩)
theorem sortA {m : Mem} (a b : Slot) : Ct Tryz.prog 211 #[a.v, b.v] m [] (fun v m' B => v = .int .i64 (cmpI a.w b.w) ∧ m = m' ∧ B = []) := by
  have k1 := compare_ a.w b.w
  refine Ct.enterV (by rfl) Tryz.func211 rfl Tryz.ntmps211 rfl (fun w0 Rest => ?_)
  (repeat' (first | refine zss ?_ | refine zs0 ?_ | ((with_reducible first | apply AtM1.callp | apply AtQ.callp | apply At.callp); kernel_rfl; exact rfl; exact rfl; exact k1) | ((with_reducible apply At.box (d := 2)); exact rfl; exact rfl; exact rfl; intro b2) | ((with_reducible apply At.box (d := 3)); exact rfl; exact rfl; exact rfl; intro b3) | (refine zsp ?_ ?_ <;> (intro hc; (try simp only [zhcs, reduceCtorEq] at hc); (try (exfalso; first | contradiction | omega | exact absurd rfl hc | exact absurd (by decide) hc))))))
  all_goals ((with_reducible apply At.retB1 (B := [])); exact rfl; exact rfl; exact zml; exact zkp; exact ⟨rfl, rfl, rfl⟩)
/-- a row that is such -/
def PostR (p : Option Addr) (c : Nat) (Φ : List Slot → Prop) : Value → Mem → Mem → List Res → Prop := fun v m m' B => v = .tuple #[] ∧ m = m' ∧ ∃ L : List Slot, Φ L ∧ B = [oS p c L]
structure NS where
  (i : Nat) (L : List Slot)
set_option maxHeartbeats 1000000 in
theorem insG {m : Mem} (p : Option Addr) (c a b n : Nat) (l : List Slot) (hn : l.length = n) (hb : b ≤ n) (ha : a ≤ n) (hl : n ≤ 1000000) :
    Ct Tryz.prog 228 #[.slice p n c, .int .i64 (a : Int), .int .i64 (b : Int), fnS] m [oS p c l] (fun v m' B => PostR p c (fun L => Mv a b l L ∧ Srt Slot.w a b L) v m m' B) := by
  refine Ct.enterV (by rfl) Tryz.func228 rfl Tryz.ntmps228 rfl (fun w0 Rest => ?_)
  (repeat' (first | refine zss ?_ | refine zsO ?_ | (refine zsp ?_ ?_ <;> (intro hc; (try simp only [zhcs, reduceCtorEq] at hc); (try (exfalso; first | contradiction | omega | exact absurd rfl hc | exact absurd (by decide) hc))))))
  (refine At.loopk (σ := NS) [0, 1, 2, 3] (fun s F0 => (8, .int .i64 (s.i : Int)) :: F0) (fun s => m) (fun s => oS p c s.L :: Rest) (fun s => a + 1 ≤ s.i ∧ Mv a b l s.L ∧ Srt Slot.w a s.i s.L) (fun s => n - s.i) ⟨a + 1, l⟩ (by rfl) ?_ zsubs zml zente ?_)
  · exact ⟨Nat.le_refl _, Mv.refl _ _ _, fun i j h1 h2 h3 => by dsimp only at h3; omega⟩
  rintro ⟨i, L⟩ ⟨h1, hM, hS⟩
  dsimp only at h1 hM hS ⊢
  have h2 : L.length = n := hM.len.trans hn
  by_cases h : i < b
  · (repeat' (first | refine zss ?_ | refine zsO ?_ | (refine zsp ?_ ?_ <;> (intro hc; (try simp only [zhcs, reduceCtorEq] at hc); (try (exfalso; first | omega | contradiction | omega | exact absurd rfl hc | exact absurd (by decide) hc))))))
    (refine At.loopk (σ := NS) [0, 1, 2, 3, 8] (fun s F0 => (9, .int .i64 (s.i : Int)) :: F0) (fun s => m) (fun s => oS p c s.L :: Rest) (fun s => a ≤ s.i ∧ s.i ≤ i ∧ Mv a b l s.L ∧ (∀ q, s.L[q]! = shr s.i i (fun q => L[q]!) q) ∧ (s.i < i → L[i]!.w < L[s.i]!.w)) (fun s => s.i) ⟨i, L⟩ (by rfl) ?_ zsubs zml zente ?_)
    · exact ⟨by dsimp only; omega, Nat.le_refl _, hM, fun q => (shr_zero i (fun q => L[q]!) q).symm, fun h => absurd h (Nat.lt_irrefl _)⟩
    rintro ⟨j, W⟩ ⟨g0, g1, gM, gW, gL⟩
    dsimp only at g0 g1 gM gW gL ⊢
    have g2 : W.length = n := gM.len.trans hn
    by_cases hj : a < j
    · obtain ⟨k, rfl⟩ : ∃ k, j = k + 1 := ⟨j - 1, by omega⟩
      have hw : IntKind.wrap .i64 (((k + 1 : Nat) : Int) - 1) = (k : Int) := by rw [show ((k + 1 : Nat) : Int) - 1 = (k : Int) by omega]; exact IntWalk.i64_in _ (by omega)
      have hcm := fun (m : Mem) => sortA (m := m) (W[k + 1]!) (W[k]!)
      have eW1 : W[k + 1]! = L[i]! := by rw [gW]; unfold shr; rw [if_pos rfl]
      have eW0 : W[k]! = L[k]! := by rw [gW]; unfold shr; rw [if_neg (by omega), if_neg (by omega)]
      by_cases e : cmpI W[k + 1]!.w W[k]!.w < 0
      · have hlt := cmpI_lt.1 e
        rw [eW1, eW0] at hlt
        have hN : Mv a b l (swp W (k + 1) k) := gM.trans (Mv.swp (by omega) (by omega) (by omega))
        have hQ : ∀ q, (swp W (k + 1) k)[q]! = shr k i (fun q => L[q]!) q := fun q => by
          rw [swp_get (by omega) (by omega), shr_step (k := k) _ g1, gW, gW, gW]
        generalize cmpI W[k + 1]!.w W[k]!.w = r at hcm e
        clear gW gM hM hS eW0 eW1
        unfold swp at hN hQ
        (repeat' (first | ((with_reducible apply At.mixed (id := 4) 17 (.q 0 (.q 1 (.q 2 (.q 3 (.q 4 (.q 5 (.q 6 (.q 7 (.q 8 (.q 9 (.q 10 (.q 11 (.q 12 (.q 13 (.x 14 (.q 15 (.q 16 .done)))))))))))))))))); exact rfl; kernel_rfl; kernel_rfl; kernel_rfl) | ((with_reducible apply At.mixed (id := 6) 18 (.q 0 (.q 1 (.q 2 (.q 3 (.q 4 (.q 5 (.q 6 (.q 7 (.q 8 (.q 9 (.q 10 (.q 11 (.q 12 (.q 13 (.q 14 (.x 15 (.q 16 (.x 17 .done))))))))))))))))))); exact rfl; kernel_rfl; kernel_rfl; kernel_rfl) | refine zsx ?_ | refine zss ?_ | ((with_reducible apply AtM.bo); exact rfl; exact rfl; exact rfl) | ((first | (with_reducible first | apply At.val | apply AtQ.val) | ((with_reducible first | apply AtM1.valz | apply AtM1.val); exact rfl) | ((with_reducible apply AtM1.val); exact rfl)); (exact pr_sub (by rfl) (by rfl) hw); exact rfl) | refine zsO ?_ | refine zxO ?_ | ((with_reducible apply At.callf); exact rfl; kernel_rfl; exact rfl; exact rfl; exact hcm _; exact ztk; rintro v' m' B' hm' ⟨rfl, rfl, rfl⟩; skip) | ((with_reducible apply At.storeW (f := cells) (x' := (W[k]!))); (case hx => exact rfl); (case hy => exact rfl); (case hv => exact rfl); (case hp => exact (by repeat constructor)); (case hr => exact rfl); (case hf => exact inferInstance); (case hk => exact zom); (case hs => exact rfl); (case hq => exact rfl); (case h1 => exact rfl)) | ((with_reducible apply At.storeW (f := cells) (x' := (W[k + 1]!))); (case hx => exact rfl); (case hy => exact rfl); (case hv => exact rfl); (case hp => exact (by repeat constructor)); (case hr => exact rfl); (case hf => exact inferInstance); (case hk => exact zom); (case hs => exact rfl); (case hq => exact rfl); (case h1 => exact rfl)) | (refine zsp ?_ ?_ <;> (intro hc; (try simp only [zhcs, reduceCtorEq] at hc); (try (exfalso; first | omega | contradiction | omega | exact absurd rfl hc | exact absurd (by decide) hc))))))
        all_goals ((with_reducible refine At.reachk ((⟨k, (W.set (k + 1) (W[k]!)).set k (W[k + 1]!)⟩ : NS)) ?_ ?_ ?_ ?_); exact zsubs; exact zml; exact zente; exact ⟨⟨by dsimp only; omega, by dsimp only; omega, hN, hQ, fun _ => hlt⟩, by dsimp only; omega⟩)
      · have hge : L[k]!.w ≤ L[i]!.w := by
          have : ¬ W[k + 1]!.w < W[k]!.w := fun h => e (cmpI_lt.2 h)
          rw [eW1, eW0] at this
          omega
        have hsrt : Srt Slot.w a (i + 1) W := shr_srt (i := k + 1) (m := i) (by omega) g1 gW hS (fun _ => hge) gL
        generalize cmpI W[k + 1]!.w W[k]!.w = r at hcm e
        clear gW hM hS eW0 eW1 gL
        (repeat' (first | ((with_reducible apply At.mixed (id := 4) 17 (.q 0 (.q 1 (.q 2 (.q 3 (.q 4 (.q 5 (.q 6 (.q 7 (.q 8 (.q 9 (.q 10 (.q 11 (.q 12 (.q 13 (.x 14 (.q 15 (.q 16 .done)))))))))))))))))); exact rfl; kernel_rfl; kernel_rfl; kernel_rfl) | ((with_reducible apply At.mixed (id := 6) 18 (.q 0 (.q 1 (.q 2 (.q 3 (.q 4 (.q 5 (.q 6 (.q 7 (.q 8 (.q 9 (.q 10 (.q 11 (.q 12 (.q 13 (.q 14 (.x 15 (.q 16 (.x 17 .done))))))))))))))))))); exact rfl; kernel_rfl; kernel_rfl; kernel_rfl) | refine zsx ?_ | refine zss ?_ | ((with_reducible apply AtM.bo); exact rfl; exact rfl; exact rfl) | ((first | (with_reducible first | apply At.val | apply AtQ.val) | ((with_reducible first | apply AtM1.valz | apply AtM1.val); exact rfl) | ((with_reducible apply AtM1.val); exact rfl)); (exact pr_sub (by rfl) (by rfl) hw); exact rfl) | refine zsO ?_ | refine zxO ?_ | ((with_reducible apply At.callf); exact rfl; kernel_rfl; exact rfl; exact rfl; exact hcm _; exact ztk; rintro v' m' B' hm' ⟨rfl, rfl, rfl⟩; skip) | (refine zsp ?_ ?_ <;> (intro hc; (try simp only [zhcs, reduceCtorEq] at hc); (try (exfalso; first | omega | contradiction | omega | exact absurd rfl hc | exact absurd (by decide) hc))))))
        all_goals ((with_reducible refine At.reachk ((⟨i + 1, W⟩ : NS)) ?_ ?_ ?_ ?_); exact zsubs; exact zml; exact zente; exact ⟨⟨by dsimp only; omega, gM, hsrt⟩, by dsimp only; omega⟩)
    · have hja : j = a := by omega
      have hsrt : Srt Slot.w a (i + 1) W := shr_srt (i := j) (m := i) (by omega) g1 gW hS (fun h => absurd h (by omega)) gL
      clear gW hM hS gL
      (repeat' (first | ((with_reducible apply At.mixed (id := 4) 17 (.q 0 (.q 1 (.q 2 (.q 3 (.q 4 (.q 5 (.q 6 (.q 7 (.q 8 (.q 9 (.q 10 (.q 11 (.q 12 (.q 13 (.x 14 (.q 15 (.q 16 .done)))))))))))))))))); exact rfl; kernel_rfl; kernel_rfl; kernel_rfl) | ((with_reducible apply At.mixed (id := 6) 18 (.q 0 (.q 1 (.q 2 (.q 3 (.q 4 (.q 5 (.q 6 (.q 7 (.q 8 (.q 9 (.q 10 (.q 11 (.q 12 (.q 13 (.q 14 (.x 15 (.q 16 (.x 17 .done))))))))))))))))))); exact rfl; kernel_rfl; kernel_rfl; kernel_rfl) | refine zsx ?_ | refine zss ?_ | ((with_reducible apply AtM.bo); exact rfl; exact rfl; exact rfl) | refine zsO ?_ | refine zxO ?_ | (refine zsp ?_ ?_ <;> (intro hc; (try simp only [zhcs, reduceCtorEq] at hc); (try (exfalso; first | omega | contradiction | omega | exact absurd rfl hc | exact absurd (by decide) hc))))))
      all_goals ((with_reducible refine At.reachk ((⟨i + 1, W⟩ : NS)) ?_ ?_ ?_ ?_); exact zsubs; exact zml; exact zente; exact ⟨⟨by dsimp only; omega, gM, hsrt⟩, by dsimp only; omega⟩)
  · have hsrt : Srt Slot.w a b L := fun x y g1 g2 g3 => hS x y g1 g2 (by omega)
    clear hS
    (repeat' (first | refine zss ?_ | refine zsO ?_ | (refine zsp ?_ ?_ <;> (intro hc; (try simp only [zhcs, reduceCtorEq] at hc); (try (exfalso; first | omega | contradiction | omega | exact absurd rfl hc | exact absurd (by decide) hc))))))
    all_goals ((first | (with_reducible apply At.retB0 (B := [oS p c L])) | (with_reducible apply At.retR0 (B := [oS p c L]))); exact rfl; exact zml; exact zkp; exact ⟨rfl, rfl, _, ⟨hM, hsrt⟩, rfl⟩)
theorem swapR {m : Mem} (p : Option Addr) (c a b k n : Nat) (l : List Slot) (hn : l.length = n) (ha : a + k ≤ b) (hb : b + k ≤ n) (hl : n ≤ 1000000) :
    Ct Tryz.prog 231 #[.slice p n c, .int .i64 (a : Int), .int .i64 (b : Int), .int .i64 (k : Int), fnS] m [oS p c l] (fun v m' B => PostR p c (fun L => L.length = n ∧ L.Perm l ∧ ∀ q, L[q]! = sw a b k (fun q => l[q]!) q) v m m' B) := by
  refine Ct.enterV (by rfl) Tryz.func231 rfl Tryz.ntmps231 rfl (fun w0 Rest => ?_)
  (repeat' (first | refine zss ?_ | refine zsO ?_ | (refine zsp ?_ ?_ <;> (intro hc; (try simp only [zhcs, reduceCtorEq] at hc); (try (exfalso; first | contradiction | omega | exact absurd rfl hc | exact absurd (by decide) hc))))))
  (refine At.loopk (σ := NS) [0, 1, 2, 3] (fun s F0 => (10, .int .i64 (s.i : Int)) :: F0) (fun s => m) (fun s => oS p c s.L :: Rest) (fun s => s.i ≤ k ∧ s.L.length = n ∧ s.L.Perm l ∧ ∀ q, s.L[q]! = sw a b s.i (fun q => l[q]!) q) (fun s => k - s.i) ⟨0, l⟩ (by rfl) ?_ zsubs zml zente ?_)
  · exact ⟨Nat.zero_le _, hn, List.Perm.refl _, fun q => (sw_zero a b _ q).symm⟩
  rintro ⟨i, W⟩ ⟨h1, h2, hP, hW⟩
  dsimp only at h1 h2 hP hW ⊢
  by_cases h : i < k
  · have wa : IntKind.wrap .i64 ((a : Int) + (i : Int)) = ((a + i : Nat) : Int) := by rw [← Int.natCast_add]; exact IntWalk.i64_in _ (by omega)
    have wb : IntKind.wrap .i64 ((b : Int) + (i : Int)) = ((b + i : Nat) : Int) := by rw [← Int.natCast_add]; exact IntWalk.i64_in _ (by omega)
    have hL : (swp W (a + i) (b + i)).length = n := (swp_len W _ _).trans h2
    have hP2 : (swp W (a + i) (b + i)).Perm l := (swp_perm (by omega) (by omega)).trans hP
    have hQ : ∀ q, (swp W (a + i) (b + i))[q]! = sw a b (i + 1) (fun q => l[q]!) q := fun q => by
      rw [swp_get (by omega) (by omega), sw_step _ (by omega), hW, hW, hW]
    clear hW hP
    unfold swp at hL hP2 hQ
    (repeat' (first | ((with_reducible apply At.mixed (id := 3) 24 (.q 0 (.q 1 (.q 2 (.q 3 (.q 4 (.q 5 (.q 6 (.q 7 (.q 8 (.q 9 (.q 10 (.q 11 (.q 12 (.q 13 (.q 14 (.q 15 (.q 16 (.q 17 (.q 18 (.q 19 (.q 20 (.x 21 (.q 22 (.x 23 .done))))))))))))))))))))))))); exact rfl; kernel_rfl; kernel_rfl; kernel_rfl) | refine zsx ?_ | refine zss ?_ | ((with_reducible apply AtM.bo); exact rfl; exact rfl; exact rfl) | ((first | (with_reducible first | apply At.val | apply AtQ.val) | ((with_reducible first | apply AtM1.valz | apply AtM1.val); exact rfl) | ((with_reducible apply AtM1.val); exact rfl)); (first | exact pr_add (by rfl) (by rfl) wa | exact pr_add (by rfl) (by rfl) wb); exact rfl) | refine zsO ?_ | refine zxO ?_ | ((with_reducible apply At.storeW (f := cells) (x' := (W[b + i]!))); (case hx => exact rfl); (case hy => exact rfl); (case hv => exact rfl); (case hp => exact (by repeat constructor)); (case hr => exact rfl); (case hf => exact inferInstance); (case hk => exact zom); (case hs => exact rfl); (case hq => exact rfl); (case h1 => exact rfl)) | ((with_reducible apply At.storeW (f := cells) (x' := (W[a + i]!))); (case hx => exact rfl); (case hy => exact rfl); (case hv => exact rfl); (case hp => exact (by repeat constructor)); (case hr => exact rfl); (case hf => exact inferInstance); (case hk => exact zom); (case hs => exact rfl); (case hq => exact rfl); (case h1 => exact rfl)) | (refine zsp ?_ ?_ <;> (intro hc; (try simp only [zhcs, reduceCtorEq] at hc); (try (exfalso; first | omega | contradiction | omega | exact absurd rfl hc | exact absurd (by decide) hc))))))
    all_goals ((with_reducible refine At.reachk ((⟨i + 1, (W.set (a + i) (W[b + i]!)).set (b + i) (W[a + i]!)⟩ : NS)) ?_ ?_ ?_ ?_); exact zsubs; exact zml; exact zente; exact ⟨⟨h, hL, hP2, hQ⟩, by dsimp only; omega⟩)
  · have e : i = k := by omega
    subst e
    (repeat' (first | refine zss ?_ | refine zsO ?_ | (refine zsp ?_ ?_ <;> (intro hc; (try simp only [zhcs, reduceCtorEq] at hc); (try (exfalso; first | omega | contradiction | omega | exact absurd rfl hc | exact absurd (by decide) hc))))))
    all_goals ((first | (with_reducible apply At.retB0 (B := [oS p c W])) | (with_reducible apply At.retR0 (B := [oS p c W]))); exact rfl; exact zml; exact zkp; exact ⟨rfl, rfl, _, ⟨h2, hP, hW⟩, rfl⟩)
structure RoS where
  (i j : Nat) (L : List Slot)
theorem rotR {m : Mem} (p : Option Addr) (c a k b n : Nat) (l : List Slot) (hn : l.length = n) (h1 : a < k) (h2 : k < b) (hb : b ≤ n) (hl : n ≤ 1000000) :
    Ct Tryz.prog 230 #[.slice p n c, .int .i64 (a : Int), .int .i64 (k : Int), .int .i64 (b : Int), fnS] m [oS p c l] (fun v m' B => PostR p c (fun L => L.length = n ∧ L.Perm l ∧ ∀ q, L[q]! = rot a k b (fun q => l[q]!) q) v m m' B) := by
  have wi : IntKind.wrap .i64 ((k : Int) - (a : Int)) = ((k - a : Nat) : Int) := by rw [show (k : Int) - (a : Int) = ((k - a : Nat) : Int) by omega]; exact IntWalk.i64_in _ (by omega)
  have wj : IntKind.wrap .i64 ((b : Int) - (k : Int)) = ((b - k : Nat) : Int) := by rw [show (b : Int) - (k : Int) = ((b - k : Nat) : Int) by omega]; exact IntWalk.i64_in _ (by omega)
  refine Ct.enterV (by rfl) Tryz.func230 rfl Tryz.ntmps230 rfl (fun w0 Rest => ?_)
  (repeat' (first | refine zss ?_ | ((first | (with_reducible first | apply At.val | apply AtQ.val)); (first | exact pr_sub (by rfl) (by rfl) wi | exact pr_sub (by rfl) (by rfl) wj); exact rfl) | refine zsO ?_ | (refine zsp ?_ ?_ <;> (intro hc; (try simp only [zhcs, reduceCtorEq] at hc); (try (exfalso; first | contradiction | omega | exact absurd rfl hc | exact absurd (by decide) hc))))))
  (refine At.loopk (σ := RoS) [0, 2, 4] (fun s F0 => (10, .int .i64 (s.i : Int)) :: (11, .int .i64 (s.j : Int)) :: F0) (fun s => m) (fun s => oS p c s.L :: Rest) (fun s => 1 ≤ s.i ∧ s.i ≤ k ∧ 1 ≤ s.j ∧ k + s.j ≤ n ∧ s.L.length = n ∧ s.L.Perm l ∧ ∀ q, rot (k - s.i) k (k + s.j) (fun q => s.L[q]!) q = rot a k b (fun q => l[q]!) q) (fun s => s.i + s.j) ⟨k - a, b - k, l⟩ (by rfl) ?_ zsubs zml zente ?_)
  · exact ⟨by show 1 ≤ k - a; omega, by show k - a ≤ k; omega, by show 1 ≤ b - k; omega, by show k + (b - k) ≤ n; omega, hn, List.Perm.refl _, fun q => by dsimp only; rw [show k - (k - a) = a by omega, show k + (b - k) = b by omega]⟩
  rintro ⟨i, j, W⟩ ⟨g1, g2, g3, g4, g5, gP, gR⟩
  dsimp only at g1 g2 g3 g4 g5 gP gR ⊢
  have w1 : IntKind.wrap .i64 ((k : Int) - (i : Int)) = ((k - i : Nat) : Int) := by rw [show (k : Int) - (i : Int) = ((k - i : Nat) : Int) by omega]; exact IntWalk.i64_in _ (by omega)
  by_cases e : i = j
  · have s1 := fun (m : Mem) => swapR (m := m) p c (k - i) k i n W g5 (by omega) (by omega) hl
    have fin : ∀ W2 : List Slot, (W2.length = n ∧ W2.Perm W ∧ ∀ q, W2[q]! = sw (k - i) k i (fun q => W[q]!) q) → W2.length = n ∧ W2.Perm l ∧ ∀ q, W2[q]! = rot a k b (fun q => l[q]!) q := fun W2 ⟨f1, f2, f3⟩ => ⟨f1, f2.trans gP, fun q => by rw [f3, ← gR, ← e, rot_end _ g2]⟩
    clear gR gP
    (repeat' (first | refine zss ?_ | ((first | (with_reducible first | apply At.val | apply AtQ.val)); (exact pr_sub (by rfl) (by rfl) w1); exact rfl) | refine zsO ?_ | ((with_reducible first | apply At.c1 | apply At.c0); exact rfl; exact rfl; exact s1 _; exact ztk; kernel_rfl; rintro v' m' B' hm' ⟨rfl, rfl, W2, hW2, rfl⟩; skip; (try (have hq0 : hm' = Mem.le_refl _ := rfl; clear hq0 hm'))) | (refine zsp ?_ ?_ <;> (intro hc; (try simp only [zhcs, reduceCtorEq] at hc); (try (exfalso; first | omega | contradiction | omega | exact absurd rfl hc | exact absurd (by decide) hc))))))
    all_goals ((first | (with_reducible apply At.retB0 (B := [oS p c W2])) | (with_reducible apply At.retR0 (B := [oS p c W2]))); exact rfl; exact zml; exact zkp; exact ⟨rfl, rfl, _, fin W2 hW2, rfl⟩)
  by_cases e2 : j < i
  · have s1 := fun (m : Mem) => swapR (m := m) p c (k - i) k j n W g5 (by omega) (by omega) hl
    have w2 : IntKind.wrap .i64 ((i : Int) - (j : Int)) = ((i - j : Nat) : Int) := by rw [show (i : Int) - (j : Int) = ((i - j : Nat) : Int) by omega]; exact IntWalk.i64_in _ (by omega)
    have fin : ∀ W2 : List Slot, (W2.length = n ∧ W2.Perm W ∧ ∀ q, W2[q]! = sw (k - i) k j (fun q => W[q]!) q) → W2.Perm l ∧ ∀ q, rot (k - (i - j)) k (k + j) (fun q => W2[q]!) q = rot a k b (fun q => l[q]!) q := fun W2 ⟨f1, f2, f3⟩ => ⟨f2.trans gP, fun q => by rw [show (fun q => W2[q]!) = sw (k - i) k j (fun q => W[q]!) from funext f3, rot_left _ g2 e2, gR]⟩
    clear gR gP
    (repeat' (first | refine zss ?_ | ((first | (with_reducible first | apply At.val | apply AtQ.val)); (first | exact pr_sub (by rfl) (by rfl) w1 | exact pr_sub (by rfl) (by rfl) w2); exact rfl) | refine zsO ?_ | ((with_reducible first | apply At.c1 | apply At.c0); exact rfl; exact rfl; exact s1 _; exact ztk; kernel_rfl; rintro v' m' B' hm' ⟨rfl, rfl, W2, hW2, rfl⟩; skip; (try (have hq0 : hm' = Mem.le_refl _ := rfl; clear hq0 hm'))) | (refine zsp ?_ ?_ <;> (intro hc; (try simp only [zhcs, reduceCtorEq] at hc); (try (exfalso; first | omega | contradiction | omega | exact absurd rfl hc | exact absurd (by decide) hc))))))
    all_goals ((with_reducible refine At.reachk ((⟨i - j, j, W2⟩ : RoS)) ?_ ?_ ?_ ?_); exact zsubs; exact zml; exact zente; exact ⟨⟨by show 1 ≤ i - j; omega, by show i - j ≤ k; omega, g3, g4, hW2.1, fin W2 hW2⟩, by show i - j + j < i + j; omega⟩)
  · have s1 := fun (m : Mem) => swapR (m := m) p c (k - i) (k + j - i) i n W g5 (by omega) (by omega) hl
    have w2 : IntKind.wrap .i64 ((j : Int) - (i : Int)) = ((j - i : Nat) : Int) := by rw [show (j : Int) - (i : Int) = ((j - i : Nat) : Int) by omega]; exact IntWalk.i64_in _ (by omega)
    have w3 : IntKind.wrap .i64 ((k : Int) + (j : Int)) = ((k + j : Nat) : Int) := by rw [← Int.natCast_add]; exact IntWalk.i64_in _ (by omega)
    have w4 : IntKind.wrap .i64 (((k + j : Nat) : Int) - (i : Int)) = ((k + j - i : Nat) : Int) := by rw [show ((k + j : Nat) : Int) - (i : Int) = ((k + j - i : Nat) : Int) by omega]; exact IntWalk.i64_in _ (by omega)
    have fin : ∀ W2 : List Slot, (W2.length = n ∧ W2.Perm W ∧ ∀ q, W2[q]! = sw (k - i) (k + j - i) i (fun q => W[q]!) q) → W2.Perm l ∧ ∀ q, rot (k - i) k (k + (j - i)) (fun q => W2[q]!) q = rot a k b (fun q => l[q]!) q := fun W2 ⟨f1, f2, f3⟩ => ⟨f2.trans gP, fun q => by rw [show (fun q => W2[q]!) = sw (k - i) (k + j - i) i (fun q => W[q]!) from funext f3, rot_right _ g2 (by omega), gR]⟩
    clear gR gP
    (repeat' (first | refine zss ?_ | ((first | (with_reducible first | apply At.val | apply AtQ.val)); (first | exact pr_sub (by rfl) (by rfl) w1 | exact pr_sub (by rfl) (by rfl) w2 | exact pr_add (by rfl) (by rfl) w3 | exact pr_sub (by rfl) (by rfl) w4); exact rfl) | refine zsO ?_ | ((with_reducible first | apply At.c1 | apply At.c0); exact rfl; exact rfl; exact s1 _; exact ztk; kernel_rfl; rintro v' m' B' hm' ⟨rfl, rfl, W2, hW2, rfl⟩; skip; (try (have hq0 : hm' = Mem.le_refl _ := rfl; clear hq0 hm'))) | (refine zsp ?_ ?_ <;> (intro hc; (try simp only [zhcs, reduceCtorEq] at hc); (try (exfalso; first | omega | contradiction | omega | exact absurd rfl hc | exact absurd (by decide) hc))))))
    all_goals ((with_reducible refine At.reachk ((⟨i, j - i, W2⟩ : RoS)) ?_ ?_ ?_ ?_); exact zsubs; exact zml; exact zente; exact ⟨⟨g1, g2, by show 1 ≤ j - i; omega, by show k + (j - i) ≤ n; omega, hW2.1, fin W2 hW2⟩, by show i + (j - i) < i + j; omega⟩)
end So
end Go.Proofs.YtkoijdmlehkhbaaGreatDoor

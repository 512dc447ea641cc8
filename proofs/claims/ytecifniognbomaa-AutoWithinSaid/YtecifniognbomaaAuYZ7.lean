/- Part 7 of what the law's proof needs: rules of the walk, contracts of functions, plain laws. No condition. -/
import Derived.Test.YtecifniognbomaaAuYZ6
/- The contracts of labels: Check, Value, Same, Small; the document's. -/
set_option linter.unusedSimpArgs false
set_option linter.unusedVariables false
set_option linter.unusedSectionVars false
set_option maxRecDepth 20000
set_option maxHeartbeats 4000000
namespace Go.Proofs.Ytecifniognbomaa
open Go Go.J
attribute [local irreducible] At AtQ AtM AtM1 PR Ct Pu Rd Res.blk Res.own Res.ex RVs RV
namespace Lb
/-- texts no longer than any can be -/
def Mid (l : List Lab) : Prop := ∀ i, i < l.length → l[i]!.n.length ≤ 1000000000000 ∧ l[i]!.v.length ≤ 1000000000000
theorem check {m : Mem} (p : Option Addr) (c : Nat) (l : List Lab) (hb : Mid l) (sl0 : Sl m cells 2 p c l) :
    Rd Try.prog 53 #[.slice p l.length c] m [] (.int .i64 (chk l)) := by
  unfold Rd
  by_cases hlen : l.length < 1 ∨ 16 < l.length
  · rw [bad_len hlen]
    refine Ct.enterV (by rfl) Try.func53 rfl Try.ntmps53 rfl (fun w0 Rest => ?_)
    (repeat' (first | refine zss ?_ | refine zsM ?_ | ((with_reducible apply At.alloc (d := 5)); exact rfl; exact rfl; intro b5) | (refine zsp ?_ ?_ <;> (intro hc; (try simp only [zhcs, reduceCtorEq] at hc); (try (exfalso; first | omega | contradiction | omega | exact absurd rfl hc | exact absurd (by decide) hc))))))
    all_goals ((with_reducible apply At.retB1 (B := [])); exact rfl; exact rfl; exact zml; exact zkp; exact ⟨rfl, rfl, rfl⟩)
  refine Ct.enterV (by rfl) Try.func53 rfl Try.ntmps53 rfl (fun w0 Rest => ?_)
  (repeat' (first | refine zss ?_ | refine zsM ?_ | ((with_reducible apply At.alloc (d := 5)); exact rfl; exact rfl; intro b5) | (refine zsp ?_ ?_ <;> (intro hc; (try simp only [zhcs, reduceCtorEq] at hc); (try (exfalso; first | omega | contradiction | omega | exact absurd rfl hc | exact absurd (by decide) hc))))))
  all_goals
    (refine At.loopk (σ := Nat) [0, 14, 15] (fun s F0 => (3, .int .i64 (256 - (tot (l.take s) : Int))) :: (16, .int .i64 (s : Int)) :: F0) (fun s => m) (fun s => Rest) (fun s => s ≤ l.length ∧ (∀ i, i < s → okAt l i = true) ∧ tot (l.take s) ≤ 256) (fun s => l.length - s) 0 (by rfl) ?_ zsubs zml zente ?_)
    · exact ⟨Nat.zero_le _, fun i h => absurd h (Nat.not_lt_zero i), by simp [tot]⟩
    rintro j ⟨hj, hn, ht⟩
    by_cases h : j < l.length
    · have hp := name (l[j]!.n)
      have hb1 := (hb j h).1
      have hb2 := (hb j h).2
      have htt := tot_take h
      cases e1 : nameB l[j]!.n with
      | false =>
        rw [e1] at hp
        rw [bad_at h fun k => absurd (k.1.symm.trans e1) (by decide)]
        (repeat' (first | refine zss ?_ | refine zsM ?_ | ((with_reducible first | apply AtM1.callp | apply AtQ.callp | apply At.callp); kernel_rfl; exact rfl; exact rfl; exact hp) | ((with_reducible apply At.alloc (d := 5)); exact rfl; exact rfl; intro b5) | (refine zsp ?_ ?_ <;> (intro hc; (try simp only [zhcs, reduceCtorEq] at hc); (try (exfalso; first | omega | contradiction | omega | exact absurd rfl hc | exact absurd (by decide) hc))))))
        all_goals ((with_reducible apply At.retB1 (B := [])); exact rfl; exact rfl; exact zml; exact zkp; exact ⟨rfl, rfl, rfl⟩)
      | true =>
        rw [e1] at hp
        by_cases e2 : l[j]!.v.length ≤ 128
        · by_cases e3 : tot (l.take (j + 1)) ≤ 256
          · cases j with
            | zero =>
              (repeat' (first | refine zss ?_ | refine zsM ?_ | ((with_reducible first | apply AtM1.callp | apply AtQ.callp | apply At.callp); kernel_rfl; exact rfl; exact rfl; exact hp) | ((with_reducible apply At.alloc (d := 5)); exact rfl; exact rfl; intro b5) | (refine zsp ?_ ?_ <;> (intro hc; (try simp only [zhcs, reduceCtorEq] at hc); (try (exfalso; first | omega | contradiction | omega | exact absurd rfl hc | exact absurd (by decide) hc))))))
              all_goals ((with_reducible refine At.reachk ((0 + 1)) ?_ ?_ ?_ ?_); exact zsubs; exact zml; exact zente; exact ⟨⟨h, fun i hi => by
                obtain rfl : i = 0 := by omega
                exact decide_eq_true ⟨e1, e2, fun k => absurd k (Nat.lt_irrefl 0)⟩, e3⟩, by omega⟩)
            | succ k =>
              have hw : IntKind.wrap .i64 (((k + 1 : Nat) : Int) - 1) = (k : Int) := by rw [show ((k + 1 : Nat) : Int) - 1 = (k : Int) by omega]; exact IntWalk.i64_in _ (by omega)
              cases e4 : ltB l[k]!.n l[k + 1]!.n with
              | true =>
                (repeat' (first | refine zss ?_ | ((first | (with_reducible first | apply At.val | apply AtQ.val)); (first | exact pr_sub (by rfl) (by rfl) hw | exact pr_strgeq (by rfl) (by rfl) e4); exact rfl) | refine zsM ?_ | ((with_reducible first | apply AtM1.callp | apply AtQ.callp | apply At.callp); kernel_rfl; exact rfl; exact rfl; exact hp) | ((with_reducible apply At.alloc (d := 5)); exact rfl; exact rfl; intro b5) | (refine zsp ?_ ?_ <;> (intro hc; (try simp only [zhcs, reduceCtorEq] at hc); (try (exfalso; first | omega | contradiction | omega | exact absurd rfl hc | exact absurd (by decide) hc))))))
                all_goals ((with_reducible refine At.reachk ((k + 1 + 1)) ?_ ?_ ?_ ?_); exact zsubs; exact zml; exact zente; exact ⟨⟨h, fun i hi => by
                  by_cases e : i = k + 1
                  · subst e; exact decide_eq_true ⟨e1, e2, fun _ => e4⟩
                  · exact hn i (by omega), e3⟩, by omega⟩)
              | false =>
                rw [bad_at h fun q => absurd ((q.2.2 (by omega)).symm.trans e4) (by decide)]
                (repeat' (first | refine zss ?_ | ((first | (with_reducible first | apply At.val | apply AtQ.val)); (first | exact pr_sub (by rfl) (by rfl) hw | exact pr_strgeq (by rfl) (by rfl) e4); exact rfl) | refine zsM ?_ | ((with_reducible first | apply AtM1.callp | apply AtQ.callp | apply At.callp); kernel_rfl; exact rfl; exact rfl; exact hp) | ((with_reducible apply At.alloc (d := 5)); exact rfl; exact rfl; intro b5) | (refine zsp ?_ ?_ <;> (intro hc; (try simp only [zhcs, reduceCtorEq] at hc); (try (exfalso; first | omega | contradiction | omega | exact absurd rfl hc | exact absurd (by decide) hc))))))
                all_goals ((with_reducible apply At.retB1 (B := [])); exact rfl; exact rfl; exact zml; exact zkp; exact ⟨rfl, rfl, rfl⟩)
          · rw [bad_tot (show 256 < tot (l.take (j + 1)) by omega)]
            (repeat' (first | refine zss ?_ | refine zsM ?_ | ((with_reducible first | apply AtM1.callp | apply AtQ.callp | apply At.callp); kernel_rfl; exact rfl; exact rfl; exact hp) | ((with_reducible apply At.alloc (d := 5)); exact rfl; exact rfl; intro b5) | (refine zsp ?_ ?_ <;> (intro hc; (try simp only [zhcs, reduceCtorEq] at hc); (try (exfalso; first | omega | contradiction | omega | exact absurd rfl hc | exact absurd (by decide) hc))))))
            all_goals ((with_reducible apply At.retB1 (B := [])); exact rfl; exact rfl; exact zml; exact zkp; exact ⟨rfl, rfl, rfl⟩)
        · rw [bad_at h fun k => e2 k.2.1]
          (repeat' (first | refine zss ?_ | refine zsM ?_ | ((with_reducible first | apply AtM1.callp | apply AtQ.callp | apply At.callp); kernel_rfl; exact rfl; exact rfl; exact hp) | ((with_reducible apply At.alloc (d := 5)); exact rfl; exact rfl; intro b5) | (refine zsp ?_ ?_ <;> (intro hc; (try simp only [zhcs, reduceCtorEq] at hc); (try (exfalso; first | omega | contradiction | omega | exact absurd rfl hc | exact absurd (by decide) hc))))))
          all_goals ((with_reducible apply At.retB1 (B := [])); exact rfl; exact rfl; exact zml; exact zkp; exact ⟨rfl, rfl, rfl⟩)
    · have hlj : l.take j = l := List.take_of_length_le (by omega)
      rw [chk_ok ⟨by omega, by omega, fun i hi => hn i (by omega), by rw [← hlj]; exact ht⟩]
      (repeat' (first | refine zss ?_ | refine zsM ?_ | ((with_reducible apply At.alloc (d := 5)); exact rfl; exact rfl; intro b5) | (refine zsp ?_ ?_ <;> (intro hc; (try simp only [zhcs, reduceCtorEq] at hc); (try (exfalso; first | omega | contradiction | omega | exact absurd rfl hc | exact absurd (by decide) hc))))))
      all_goals ((with_reducible apply At.retB1 (B := [])); exact rfl; exact rfl; exact zml; exact zkp; exact ⟨rfl, rfl, rfl⟩)
abbrev pt (b : Nat) : Value := .pointer (some ⟨b, 0, none⟩)
abbrev bx (b : Nat) (t : List UInt8) : List Res := [.blk b 9 [.string (str t)]]
theorem small {m : Mem} (p : Option Addr) (c : Nat) (l : List Lab) (sl0 : Sl m cells 2 p c l) :
    Rd Try.prog 25 #[.slice p l.length c] m [] (.int .i64 (if few l then 1 else 0)) := by
  unfold Rd
  refine Ct.enterV (by rfl) Try.func25 rfl Try.ntmps25 rfl (fun w0 Rest => ?_)
  (repeat' (first | refine zss ?_ | refine zsM ?_ | ((with_reducible apply At.alloc (d := 4)); exact rfl; exact rfl; intro b4) | (refine zsp ?_ ?_ <;> (intro hc; (try simp only [zhcs, reduceCtorEq] at hc); (try (exfalso; first | contradiction | omega | exact absurd rfl hc | exact absurd (by decide) hc))))))
  (refine At.loopk (σ := Nat) [5, 6] (fun s F0 => (7, .int .i64 (s : Int)) :: F0) (fun s => m) (fun s => Rest) (fun s => s ≤ l.length ∧ s ≤ 40 ∧ ∀ i, i < s → l[i]!.n.length ≤ 1000 ∧ l[i]!.v.length ≤ 1000) (fun s => l.length - s) 0 (by rfl) ?_ zsubs zml zente ?_)
  · exact ⟨Nat.zero_le _, Nat.zero_le _, fun i h => absurd h (Nat.not_lt_zero i)⟩
  rintro j ⟨hj, h40, hn⟩
  by_cases h : j < l.length
  · by_cases e0 : j = 40
    · rw [if_neg (show ¬ few l from fun k => by have := k.1; omega)]
      (repeat' (first | refine zss ?_ | refine zsM ?_ | ((with_reducible apply At.alloc (d := 4)); exact rfl; exact rfl; intro b4) | (refine zsp ?_ ?_ <;> (intro hc; (try simp only [zhcs, reduceCtorEq] at hc); (try (exfalso; first | omega | contradiction | omega | exact absurd rfl hc | exact absurd (by decide) hc))))))
      all_goals ((with_reducible apply At.retB1 (B := [])); exact rfl; exact rfl; exact zml; exact zkp; exact ⟨rfl, rfl, rfl⟩)
    by_cases e : l[j]!.n.length ≤ 1000 ∧ l[j]!.v.length ≤ 1000
    · (repeat' (first | refine zss ?_ | refine zsM ?_ | ((with_reducible apply At.alloc (d := 4)); exact rfl; exact rfl; intro b4) | (refine zsp ?_ ?_ <;> (intro hc; (try simp only [zhcs, reduceCtorEq] at hc); (try (exfalso; first | omega | contradiction | omega | exact absurd rfl hc | exact absurd (by decide) hc))))))
      all_goals ((with_reducible refine At.reachk ((j + 1)) ?_ ?_ ?_ ?_); exact zsubs; exact zml; exact zente; exact ⟨⟨h, by omega, fun i hi => by
        by_cases e1 : i = j
        · subst e1; exact e
        · exact hn i (by omega)⟩, by omega⟩)
    · rw [if_neg (show ¬ few l from fun k => e (k.2 j h))]
      (repeat' (first | refine zss ?_ | refine zsM ?_ | ((with_reducible apply At.alloc (d := 4)); exact rfl; exact rfl; intro b4) | (refine zsp ?_ ?_ <;> (intro hc; (try simp only [zhcs, reduceCtorEq] at hc); (try (exfalso; first | omega | contradiction | omega | exact absurd rfl hc | exact absurd (by decide) hc))))))
      all_goals ((with_reducible apply At.retB1 (B := [])); exact rfl; exact rfl; exact zml; exact zkp; exact ⟨rfl, rfl, rfl⟩)
  · rw [if_pos (show few l from ⟨by omega, fun i hi => hn i (by omega)⟩)]
    (repeat' (first | refine zss ?_ | refine zsM ?_ | ((with_reducible apply At.alloc (d := 4)); exact rfl; exact rfl; intro b4) | (refine zsp ?_ ?_ <;> (intro hc; (try simp only [zhcs, reduceCtorEq] at hc); (try (exfalso; first | omega | contradiction | omega | exact absurd rfl hc | exact absurd (by decide) hc))))))
    all_goals ((with_reducible apply At.retB1 (B := [])); exact rfl; exact rfl; exact zml; exact zkp; exact ⟨rfl, rfl, rfl⟩)
theorem Mid.of {l : List Lab} (h : ∀ x ∈ l, x.n.length ≤ 1000000000000 ∧ x.v.length ≤ 1000000000000) : Mid l := fun i hi => h _ (Ls.mem! hi)
theorem few.mid {l : List Lab} (h : few l) : Mid l := fun i hi => by have := h.2 i hi; omega
end Lb
end Go.Proofs.Ytecifniognbomaa
/- Configurations: parts, place. -/
set_option linter.unusedSimpArgs false
set_option linter.unusedVariables false
set_option linter.unusedSectionVars false
set_option maxRecDepth 20000
set_option maxHeartbeats 4000000
namespace Go.Proofs.Ytecifniognbomaa
open Go Go.J
attribute [local irreducible] At AtQ AtM AtM1 PR Ct Pu Rd Res.blk Res.own Res.ex RVs RV
namespace Conf
abbrev gi : Int → Value := fun x => .int .i64 x
abbrev cv (L : List Int) : Value := .agg (L.map gi).toArray
theorem in_ (n a b : Int) : Pu Try.prog 37 #[.int .i64 n, .int .i64 a, .int .i64 b] (.bool (decide (a ≤ n ∧ n ≤ b))) := Pu.intro fun m => by
  refine Ct.enterV (by rfl) Try.func37 rfl Try.ntmps37 rfl (fun w0 Rest => ?_)
  (repeat' (first | refine zss ?_ | refine zs0 ?_ | (refine zsp ?_ ?_ <;> (intro hc; (try simp only [zhcs, reduceCtorEq] at hc); (try (exfalso; first | contradiction | omega | exact absurd rfl hc | exact absurd (by decide) hc))))))
  all_goals ((with_reducible apply At.retB1 (B := [])); exact rfl; exact rfl; exact zml; exact zkp; exact ⟨congrArg Value.bool (by simp [hc]), rfl, rfl⟩)
theorem in64 (n a b : Int) : Pu Try.prog 38 #[.int .i64 n, .int .i64 a, .int .i64 b] (.bool (decide (a ≤ n ∧ n ≤ b))) := Pu.intro fun m => by
  refine Ct.enterV (by rfl) Try.func38 rfl Try.ntmps38 rfl (fun w0 Rest => ?_)
  (repeat' (first | refine zss ?_ | refine zs0 ?_ | (refine zsp ?_ ?_ <;> (intro hc; (try simp only [zhcs, reduceCtorEq] at hc); (try (exfalso; first | contradiction | omega | exact absurd rfl hc | exact absurd (by decide) hc))))))
  all_goals ((with_reducible apply At.retB1 (B := [])); exact rfl; exact rfl; exact zml; exact zkp; exact ⟨congrArg Value.bool (by simp [hc]), rfl, rfl⟩)
theorem parts (n by_ : Int) (h1 : 1 ≤ n) (h2 : n ≤ 100000) (h3 : 1 ≤ by_) (h4 : by_ ≤ 1000) : Pu Try.prog 49 #[.int .i64 n, .int .i64 by_] (.int .i64 ((n + by_ - 1) / by_)) := Pu.intro fun m => by
  refine Ct.enterV (by rfl) Try.func49 rfl Try.ntmps49 rfl (fun w0 Rest => ?_)
  (repeat' (first | refine zss ?_ | refine zs0 ?_ | (refine zsp ?_ ?_ <;> (intro hc; (try simp only [zhcs, reduceCtorEq] at hc); (try (exfalso; first | omega | contradiction | omega | exact absurd rfl hc | exact absurd (by decide) hc))))))
  all_goals ((with_reducible apply At.retB1 (B := [])); exact rfl; exact rfl; exact zml; exact zkp; exact ⟨rfl, rfl, rfl⟩)
def acc (L : List Int) : Nat → Int
  | 0 => 1 + (L[0]! + 16 - 1) / 16
  | s + 1 => acc L s + (L[4 + s]! + 4 - 1) / 4
def plc (L : List Int) : Int := acc L 3
/-- numbers that may be -/
def okA (L : List Int) (s : Nat) : Prop := (1 ≤ L[0]! ∧ L[0]! ≤ 4096) ∧ (1 ≤ L[7]! ∧ L[7]! ≤ 65536) ∧ (1 ≤ L[8]! ∧ L[8]! ≤ 8192) ∧ ∀ i, i < s → (1 ≤ L[1 + i]! ∧ L[1 + i]! ≤ 1099511627776) ∧ (1 ≤ L[4 + i]! ∧ L[4 + i]! ≤ 4096)
instance (L : List Int) (s : Nat) : Decidable (okA L s) := by unfold okA; infer_instance
theorem okA_succ (L : List Int) (s : Nat) : okA L (s + 1) ↔ okA L s ∧ (1 ≤ L[1 + s]! ∧ L[1 + s]! ≤ 1099511627776) ∧ (1 ≤ L[4 + s]! ∧ L[4 + s]! ≤ 4096) := by
  unfold okA
  constructor
  · rintro ⟨h1, h2, h3, h4⟩
    exact ⟨⟨h1, h2, h3, fun i hi => h4 i (by omega)⟩, h4 s (by omega)⟩
  · rintro ⟨⟨h1, h2, h3, h4⟩, h5⟩
    refine ⟨h1, h2, h3, fun i hi => ?_⟩
    by_cases e : i = s
    · subst e; exact h5
    · exact h4 i (by omega)
theorem place (L : List Int) (hL : L.length = 9) (h : okA L 3) : Pu Try.prog 39 #[cv L] (.int .i64 (plc L)) := Pu.intro fun m => by
  obtain ⟨r, a, b, d, x, y, w, c, g, rfl⟩ := nine hL
  obtain ⟨⟨r1, r2⟩, _, _, h4⟩ := h
  obtain ⟨_, x1, x2⟩ := h4 0 (by decide)
  obtain ⟨_, y1, y2⟩ := h4 1 (by decide)
  obtain ⟨_, w1, w2⟩ := h4 2 (by decide)
  replace x1 : 1 ≤ x := x1
  replace x2 : x ≤ 4096 := x2
  replace y1 : 1 ≤ y := y1
  replace y2 : y ≤ 4096 := y2
  replace w1 : 1 ≤ w := w1
  replace w2 : w ≤ 4096 := w2
  replace r1 : 1 ≤ r := r1
  replace r2 : r ≤ 4096 := r2
  have e0 : acc [r, a, b, d, x, y, w, c, g] 0 = 1 + (r + 16 - 1) / 16 := rfl
  have e1 : acc [r, a, b, d, x, y, w, c, g] 1 = acc [r, a, b, d, x, y, w, c, g] 0 + (x + 4 - 1) / 4 := rfl
  have e2 : acc [r, a, b, d, x, y, w, c, g] 2 = acc [r, a, b, d, x, y, w, c, g] 1 + (y + 4 - 1) / 4 := rfl
  have e3 : acc [r, a, b, d, x, y, w, c, g] 3 = acc [r, a, b, d, x, y, w, c, g] 2 + (w + 4 - 1) / 4 := rfl
  have p0 := parts r 16 r1 (by omega) (by decide) (by decide)
  have p1 := parts x 4 x1 (by omega) (by decide) (by decide)
  have p2 := parts y 4 y1 (by omega) (by decide) (by decide)
  have p3 := parts w 4 w1 (by omega) (by decide) (by decide)
  show Ct _ _ _ _ _ (fun v m' B => v = .int .i64 (acc [r, a, b, d, x, y, w, c, g] 3) ∧ _ ∧ _)
  unfold cv
  simp only [List.map]
  refine Ct.enterV (by rfl) Try.func39 rfl Try.ntmps39 rfl (fun w0 Rest => ?_)
  (repeat' (first | refine zss ?_ | refine zs0 ?_ | ((with_reducible first | apply AtM1.callp | apply AtQ.callp | apply At.callp); kernel_rfl; exact rfl; exact rfl; exact p0) | ((with_reducible apply At.box (d := 1)); exact rfl; exact rfl; exact rfl; intro b1) | (refine zsp ?_ ?_ <;> (intro hc; (try simp only [zhcs, reduceCtorEq] at hc); (try (exfalso; first | omega | contradiction | omega | exact absurd rfl hc | exact absurd (by decide) hc))))))
  trace_state
  (refine At.loopk (σ := Nat) [11] (fun s F0 => (12, .int .i64 (s : Int)) :: (3, .int .i64 (acc [r, a, b, d, x, y, w, c, g] s)) :: F0) (fun s => m) (fun s => .blk b1 25 [gi r, gi a, gi b, gi d, gi x, gi y, gi w, gi c, gi g] :: Rest) (fun s => s ≤ 3) (fun s => 3 - s) 0 (by rfl) ?_ zsubs zml zente ?_)
  · exact Nat.zero_le _
  intro s hs
  rcases (show s = 0 ∨ s = 1 ∨ s = 2 ∨ s = 3 by omega) with rfl | rfl | rfl | rfl
  · (repeat' (first | refine zss ?_ | ((first | (with_reducible first | apply At.val | apply AtQ.val)); (exact pr_index_agg (k := 0) (by rfl) (by rfl) (by rfl) (by rfl) (by rfl) (by rfl) (by rfl)); exact rfl) | refine zs0 ?_ | ((with_reducible first | apply AtM1.callp | apply AtQ.callp | apply At.callp); kernel_rfl; exact rfl; exact rfl; exact p1) | ((with_reducible apply At.box (d := 1)); exact rfl; exact rfl; exact rfl; intro b1) | (refine zsp ?_ ?_ <;> (intro hc; (try simp only [zhcs, reduceCtorEq] at hc); (try (exfalso; first | omega | contradiction | omega | exact absurd rfl hc | exact absurd (by decide) hc))))))
    all_goals ((with_reducible refine At.reachk (1) ?_ ?_ ?_ ?_); exact zsubs; exact zml; exact zente; exact ⟨by decide, by decide⟩)
  · (repeat' (first | refine zss ?_ | ((first | (with_reducible first | apply At.val | apply AtQ.val)); (exact pr_index_agg (k := 1) (by rfl) (by rfl) (by rfl) (by rfl) (by rfl) (by rfl) (by rfl)); exact rfl) | refine zs0 ?_ | ((with_reducible first | apply AtM1.callp | apply AtQ.callp | apply At.callp); kernel_rfl; exact rfl; exact rfl; exact p2) | ((with_reducible apply At.box (d := 1)); exact rfl; exact rfl; exact rfl; intro b1) | (refine zsp ?_ ?_ <;> (intro hc; (try simp only [zhcs, reduceCtorEq] at hc); (try (exfalso; first | omega | contradiction | omega | exact absurd rfl hc | exact absurd (by decide) hc))))))
    all_goals ((with_reducible refine At.reachk (2) ?_ ?_ ?_ ?_); exact zsubs; exact zml; exact zente; exact ⟨by decide, by decide⟩)
  · (repeat' (first | refine zss ?_ | ((first | (with_reducible first | apply At.val | apply AtQ.val)); (exact pr_index_agg (k := 2) (by rfl) (by rfl) (by rfl) (by rfl) (by rfl) (by rfl) (by rfl)); exact rfl) | refine zs0 ?_ | ((with_reducible first | apply AtM1.callp | apply AtQ.callp | apply At.callp); kernel_rfl; exact rfl; exact rfl; exact p3) | ((with_reducible apply At.box (d := 1)); exact rfl; exact rfl; exact rfl; intro b1) | (refine zsp ?_ ?_ <;> (intro hc; (try simp only [zhcs, reduceCtorEq] at hc); (try (exfalso; first | omega | contradiction | omega | exact absurd rfl hc | exact absurd (by decide) hc))))))
    all_goals ((with_reducible refine At.reachk (3) ?_ ?_ ?_ ?_); exact zsubs; exact zml; exact zente; exact ⟨by decide, by decide⟩)
  · (repeat' (first | refine zss ?_ | refine zs0 ?_ | ((with_reducible apply At.box (d := 1)); exact rfl; exact rfl; exact rfl; intro b1) | (refine zsp ?_ ?_ <;> (intro hc; (try simp only [zhcs, reduceCtorEq] at hc); (try (exfalso; first | omega | contradiction | omega | exact absurd rfl hc | exact absurd (by decide) hc))))))
    all_goals ((with_reducible apply At.retB1 (B := [])); exact rfl; exact rfl; exact zml; exact zkp; exact ⟨rfl, rfl, rfl⟩)
end Conf
end Go.Proofs.Ytecifniognbomaa
/- Configurations: which are right. -/
set_option linter.unusedSimpArgs false
set_option linter.unusedVariables false
set_option linter.unusedSectionVars false
set_option maxRecDepth 20000
set_option maxHeartbeats 4000000
namespace Go.Proofs.Ytecifniognbomaa
open Go Go.J
attribute [local irreducible] At AtQ AtM AtM1 PR Ct Pu Rd Res.blk Res.own Res.ex RVs RV
namespace Conf
def okB (L : List Int) (s : Nat) : Prop := okA L 3 ∧ (1 < s → L[2]! % L[1]! = 0 ∧ L[2]! / L[1]! ≤ L[4]!) ∧ (2 < s → L[3]! % L[2]! = 0 ∧ L[3]! / L[2]! ≤ L[5]!)
instance (L : List Int) (s : Nat) : Decidable (okB L s) := by unfold okB; infer_instance
def okC (L : List Int) : Prop := okB L 3 ∧ plc L < L[8]!
instance (L : List Int) : Decidable (okC L) := by unfold okC; infer_instance
def chk (L : List Int) : Int := if okC L then 0 else 2
theorem okA_zero (r a b d x y w c g : Int) : okA [r, a, b, d, x, y, w, c, g] 0 ↔ (1 ≤ r ∧ r ≤ 4096) ∧ (1 ≤ c ∧ c ≤ 65536) ∧ (1 ≤ g ∧ g ≤ 8192) :=
  ⟨fun h => ⟨h.1, h.2.1, h.2.2.1⟩, fun h => ⟨h.1, h.2.1, h.2.2, fun i hi => absurd hi (Nat.not_lt_zero i)⟩⟩
theorem okB_one (L : List Int) : okB L 1 ↔ okA L 3 := ⟨fun h => h.1, fun h => ⟨h, fun h => absurd h (by decide), fun h => absurd h (by decide)⟩⟩
theorem okB_two (r a b d x y w c g : Int) : okB [r, a, b, d, x, y, w, c, g] 2 ↔ okB [r, a, b, d, x, y, w, c, g] 1 ∧ (b % a = 0 ∧ b / a ≤ x) :=
  ⟨fun h => ⟨(okB_one _).2 h.1, h.2.1 (by decide)⟩, fun h => ⟨h.1.1, fun _ => h.2, fun h => absurd h (by decide)⟩⟩
theorem okB_three (r a b d x y w c g : Int) : okB [r, a, b, d, x, y, w, c, g] 3 ↔ okB [r, a, b, d, x, y, w, c, g] 2 ∧ (d % b = 0 ∧ d / b ≤ y) :=
  ⟨fun h => ⟨⟨h.1, fun _ => h.2.1 (by decide), fun h => absurd h (by decide)⟩, h.2.2 (by decide)⟩, fun h => ⟨h.1.1, fun _ => h.1.2.1 (by decide), fun _ => h.2⟩⟩
theorem and_false' {p q r : Prop} [Decidable r] (h : r ↔ p ∧ q) (hp : ¬ p) : false = decide r := (decide_eq_false fun hr => hp (h.1 hr).1).symm
theorem and_right' {p q r : Prop} [Decidable r] [Decidable q] (h : r ↔ p ∧ q) (hp : p) : decide q = decide r := decide_eq_decide.2 ⟨fun hq => h.2 ⟨hp, hq⟩, fun hr => (h.1 hr).2⟩
theorem and_mid {p q s r : Prop} [Decidable r] (h : r ↔ p ∧ q ∧ s) (hq : ¬ q) : false = decide r := (decide_eq_false fun hr => hq (h.1 hr).2.1).symm
theorem and_last {p q s r : Prop} [Decidable r] [Decidable s] (h : r ↔ p ∧ q ∧ s) (hp : p) (hq : q) : decide s = decide r := decide_eq_decide.2 ⟨fun hs => h.2 ⟨hp, hq, hs⟩, fun hr => (h.1 hr).2.2⟩
set_option maxHeartbeats 2000000 in
theorem check (L : List Int) (hL : L.length = 9) : Pu Try.prog 27 #[cv L] (.int .i64 (chk L)) := Pu.intro fun m => by
  have hpl := place L hL
  obtain ⟨r, a, b, d, x, y, w, c, g, rfl⟩ := nine hL
  have z0 := okA_zero r a b d x y w c g
  have a1 : okA [r, a, b, d, x, y, w, c, g] 1 ↔ okA [r, a, b, d, x, y, w, c, g] 0 ∧ (1 ≤ a ∧ a ≤ 1099511627776) ∧ (1 ≤ x ∧ x ≤ 4096) := okA_succ _ 0
  have a2 : okA [r, a, b, d, x, y, w, c, g] 2 ↔ okA [r, a, b, d, x, y, w, c, g] 1 ∧ (1 ≤ b ∧ b ≤ 1099511627776) ∧ (1 ≤ y ∧ y ≤ 4096) := okA_succ _ 1
  have a3 : okA [r, a, b, d, x, y, w, c, g] 3 ↔ okA [r, a, b, d, x, y, w, c, g] 2 ∧ (1 ≤ d ∧ d ≤ 1099511627776) ∧ (1 ≤ w ∧ w ≤ 4096) := okA_succ _ 2
  have ob1 := okB_one [r, a, b, d, x, y, w, c, g]
  have ob2 := okB_two r a b d x y w c g
  have ob3 := okB_three r a b d x y w c g
  have hch : chk [r, a, b, d, x, y, w, c, g] = if okB [r, a, b, d, x, y, w, c, g] 3 ∧ plc [r, a, b, d, x, y, w, c, g] < g then 0 else 2 := rfl
  unfold cv at hpl ⊢
  simp only [List.map] at hpl ⊢
  generalize hL0 : [r, a, b, d, x, y, w, c, g] = L at z0 a1 a2 a3 ob1 ob2 ob3 hch hpl hL ⊢
  have v10 : IntKind.wrap .i64 (((1 : Nat) : Int) - 1) = ((0 : Nat) : Int) := rfl
  have v21 : IntKind.wrap .i64 (((2 : Nat) : Int) - 1) = ((1 : Nat) : Int) := rfl
  have hno : ∀ s, ¬ okB L s → chk L = 2 := fun s hs => by
    rw [hch]
    exact if_neg (fun h => hs ⟨h.1.1, fun _ => h.1.2.1 (by decide), fun _ => h.1.2.2 (by decide)⟩)
  have h2 : g ≤ plc L → chk L = 2 := fun h => by
    rw [hch]
    exact if_neg (fun hh => absurd hh.2 (by omega))
  have h0 : okB L 3 → ¬ g ≤ plc L → chk L = 0 := fun h1 h2 => by
    rw [hch]
    exact if_pos ⟨h1, by omega⟩
  have hbd : okA L 3 → (1 ≤ a ∧ a ≤ 1099511627776) ∧ (1 ≤ b ∧ b ≤ 1099511627776) ∧ (1 ≤ d ∧ d ≤ 1099511627776) := fun h => ⟨(a1.1 (a2.1 (a3.1 h).1).1).2.1, (a2.1 (a3.1 h).1).2.1, (a3.1 h).2.1⟩
  refine Ct.enterV (by rfl) Try.func27 rfl Try.ntmps27 rfl (fun w0 Rest => ?_)
  (repeat' (first | refine zss ?_ | refine zs0 ?_ | ((with_reducible first | apply AtM1.callp | apply AtQ.callp | apply At.callp); kernel_rfl; exact rfl; exact rfl; exact in_ _ _ _) | ((with_reducible apply At.box (d := 1)); exact rfl; exact rfl; exact rfl; intro b1) | (refine zsp ?_ ?_ <;> (intro hc; (try simp only [zhcs, reduceCtorEq] at hc); (try (exfalso; first | omega | contradiction | omega | exact absurd rfl hc | exact absurd (by decide) hc))))))
  all_goals (refine At.note (t := 3) (v' := .bool (decide (okA L 0))) (by rfl) (congrArg Value.bool (by first | exact and_false' z0 (by assumption) | exact and_mid z0 (by assumption) | exact and_last z0 (by assumption) (by assumption))) ?_)
  all_goals (refine At.loopk (σ := Nat) [1] (fun s F0 => (19, .int .i64 (s : Int)) :: (3, .bool (decide (okA L s))) :: F0) (fun s => m) (fun s => .blk b1 25 [gi r, gi a, gi b, gi d, gi x, gi y, gi w, gi c, gi g] :: Rest) (fun s => s ≤ 3) (fun s => 3 - s) 0 (by rfl) ?_ zsubs zml zente ?_)
  all_goals try exact Nat.zero_le _
  all_goals (intro s hs; rcases (show s = 0 ∨ s = 1 ∨ s = 2 ∨ s = 3 by omega) with rfl | rfl | rfl | rfl)
  all_goals (repeat' (first | refine zss ?_ | ((first | (with_reducible first | apply At.val | apply AtQ.val)); (exact pr_indexArr (by rfl) (by rfl) (by rfl) (by rfl) (by decide)); exact rfl) | refine zs0 ?_ | ((with_reducible first | apply AtM1.callp | apply AtQ.callp | apply At.callp); kernel_rfl; exact rfl; exact rfl; exact in64 _ _ _) | ((with_reducible first | apply AtM1.callp | apply AtQ.callp | apply At.callp); kernel_rfl; exact rfl; exact rfl; exact in_ _ _ _) | ((with_reducible apply At.box (d := 1)); exact rfl; exact rfl; exact rfl; intro b1) | (refine zsp ?_ ?_ <;> (intro hc; (try simp only [zhcs, reduceCtorEq] at hc); (try (exfalso; first | omega | contradiction | omega | exact absurd rfl hc | exact absurd (by decide) hc))))))
  all_goals try first
    | (refine At.note (t := 3) (v' := .bool (decide (okA L 1))) (by rfl) (congrArg Value.bool (by first | exact and_false' a1 (by assumption) | exact and_mid a1 (by assumption) | exact and_last a1 (by assumption) (by assumption))) ?_; ((with_reducible refine At.reachk (1) ?_ ?_ ?_ ?_); exact zsubs; exact zml; exact zente; exact ⟨by decide, by decide⟩))
    | (refine At.note (t := 3) (v' := .bool (decide (okA L 2))) (by rfl) (congrArg Value.bool (by first | exact and_false' a2 (by assumption) | exact and_mid a2 (by assumption) | exact and_last a2 (by assumption) (by assumption))) ?_; ((with_reducible refine At.reachk (2) ?_ ?_ ?_ ?_); exact zsubs; exact zml; exact zente; exact ⟨by decide, by decide⟩))
    | (refine At.note (t := 3) (v' := .bool (decide (okA L 3))) (by rfl) (congrArg Value.bool (by first | exact and_false' a3 (by assumption) | exact and_mid a3 (by assumption) | exact and_last a3 (by assumption) (by assumption))) ?_; ((with_reducible refine At.reachk (3) ?_ ?_ ?_ ?_); exact zsubs; exact zml; exact zente; exact ⟨by decide, by decide⟩))
  all_goals (refine At.note (t := 3) (v' := .bool (decide (okB L 1))) (by rfl) (congrArg Value.bool (decide_eq_decide.2 ob1.symm)) ?_)
  all_goals (refine At.loopk (σ := Nat) [1] (fun s F0 => (5, .int .i64 (s : Int)) :: (3, .bool (decide (okB L s))) :: F0) (fun s => m) (fun s => .blk b1 25 [gi r, gi a, gi b, gi d, gi x, gi y, gi w, gi c, gi g] :: Rest) (fun s => 1 ≤ s ∧ s ≤ 3) (fun s => 3 - s) 1 (by rfl) ?_ zsubs zml zente ?_)
  all_goals try exact ⟨by decide, by decide⟩
  all_goals (rintro s ⟨hs, hs2⟩; by_cases hB : okB L s)
  all_goals (try have hx := hbd hB.1)
  all_goals (try have hv := hno s hB)
  all_goals (rcases (show s = 1 ∨ s = 2 ∨ s = 3 by omega) with rfl | rfl | rfl)
  all_goals (repeat' (first | refine zss ?_ | ((first | (with_reducible first | apply At.val | apply AtQ.val)); (first | exact pr_sub (by rfl) (by rfl) v10 | exact pr_sub (by rfl) (by rfl) v21 | exact pr_indexArr (by rfl) (by rfl) (by rfl) (by rfl) (by decide)); exact rfl) | refine zs0 ?_ | ((with_reducible first | apply AtM1.callp | apply AtQ.callp | apply At.callp); kernel_rfl; exact rfl; exact rfl; exact hpl hB.1) | ((with_reducible apply At.box (d := 1)); exact rfl; exact rfl; exact rfl; intro b1) | (refine zsp ?_ ?_ <;> (intro hc; (try simp only [zhcs, reduceCtorEq] at hc); (try (exfalso; first | omega | contradiction | omega | exact absurd rfl hc | exact absurd (by decide) hc))))))
  all_goals first
    | (refine At.note (t := 3) (v' := .bool (decide (okB L 2))) (by rfl) (congrArg Value.bool (by first | exact and_false' ob2 (by assumption) | exact and_mid ob2 (by assumption) | exact and_last ob2 (by assumption) (by assumption))) ?_; ((with_reducible refine At.reachk (2) ?_ ?_ ?_ ?_); exact zsubs; exact zml; exact zente; exact ⟨⟨by decide, by decide⟩, by decide⟩))
    | (refine At.note (t := 3) (v' := .bool (decide (okB L 3))) (by rfl) (congrArg Value.bool (by first | exact and_false' ob3 (by assumption) | exact and_mid ob3 (by assumption) | exact and_last ob3 (by assumption) (by assumption))) ?_; ((with_reducible refine At.reachk (3) ?_ ?_ ?_ ?_); exact zsubs; exact zml; exact zente; exact ⟨⟨by decide, by decide⟩, by decide⟩))
    | ((with_reducible apply At.retB1 (B := [])); exact rfl; exact rfl; exact zml; exact zkp; exact ⟨congrArg (Value.int .i64) (Eq.symm (by first | assumption | exact h2 (by assumption) | exact h0 hB (by assumption))), rfl, rfl⟩)
end Conf
end Go.Proofs.Ytecifniognbomaa
/- Right configurations: places, the index, home, the size. -/
set_option linter.unusedSimpArgs false
set_option linter.unusedVariables false
set_option linter.unusedSectionVars false
set_option maxRecDepth 20000
set_option maxHeartbeats 4000000
namespace Go.Proofs.Ytecifniognbomaa
open Go Go.J
attribute [local irreducible] At AtQ AtM AtM1 PR Ct Pu Rd Res.blk Res.own Res.ex RVs RV
namespace Conf
abbrev kv (r a b d x y w c g : Int) : Value := .agg #[gi r, gi a, gi b, gi d, gi x, gi y, gi w, gi c, gi g]
/-- what a right one is -/
structure Ok (r a b d x y w c g : Int) : Prop where
  hr : 1 ≤ r ∧ r ≤ 4096
  ha : 1 ≤ a ∧ a ≤ 1099511627776
  hb : 1 ≤ b ∧ b ≤ 1099511627776
  hd : 1 ≤ d ∧ d ≤ 1099511627776
  hx : 1 ≤ x ∧ x ≤ 4096
  hy : 1 ≤ y ∧ y ≤ 4096
  hw : 1 ≤ w ∧ w ≤ 4096
  hc : 1 ≤ c ∧ c ≤ 65536
  hg : 1 ≤ g ∧ g ≤ 8192
  hba : b % a = 0 ∧ b / a ≤ x
  hdb : d % b = 0 ∧ d / b ≤ y
  hp : 1 + (r + 16 - 1) / 16 + (x + 4 - 1) / 4 + (y + 4 - 1) / 4 + (w + 4 - 1) / 4 < g
theorem okC_iff (r a b d x y w c g : Int) : okC [r, a, b, d, x, y, w, c, g] ↔ Ok r a b d x y w c g := by
  constructor
  · rintro ⟨⟨⟨h1, h2, h3, h4⟩, h5, h6⟩, h7⟩
    obtain ⟨a1, x1⟩ := h4 0 (by decide)
    obtain ⟨b1, y1⟩ := h4 1 (by decide)
    obtain ⟨d1, w1⟩ := h4 2 (by decide)
    exact ⟨h1, a1, b1, d1, x1, y1, w1, h2, h3, h5 (by decide), h6 (by decide), h7⟩
  · intro h
    refine ⟨⟨⟨h.hr, h.hc, h.hg, fun i hi => ?_⟩, fun _ => h.hba, fun _ => h.hdb⟩, h.hp⟩
    rcases (show i = 0 ∨ i = 1 ∨ i = 2 by omega) with rfl | rfl | rfl
    · exact ⟨h.ha, h.hx⟩
    · exact ⟨h.hb, h.hy⟩
    · exact ⟨h.hd, h.hw⟩
instance (r a b d x y w c g : Int) : Decidable (Ok r a b d x y w c g) := decidable_of_iff _ (okC_iff r a b d x y w c g)
section
variable {r a b d x y w c g : Int}
abbrev pl (r x y w : Int) : Int := 1 + (r + 16 - 1) / 16 + (x + 4 - 1) / 4 + (y + 4 - 1) / 4 + (w + 4 - 1) / 4
theorem checkK (h : Ok r a b d x y w c g) : Pu Try.prog 27 #[kv r a b d x y w c g] (.int .i64 0) := by
  have := check [r, a, b, d, x, y, w, c, g] rfl
  rw [show chk [r, a, b, d, x, y, w, c, g] = 0 from if_pos ((okC_iff ..).2 h)] at this
  exact this
theorem checkN (h : ¬ Ok r a b d x y w c g) : Pu Try.prog 27 #[kv r a b d x y w c g] (.int .i64 2) := by
  have := check [r, a, b, d, x, y, w, c, g] rfl
  rw [show chk [r, a, b, d, x, y, w, c, g] = 2 from if_neg (fun hh => h ((okC_iff ..).1 hh))] at this
  exact this
theorem placeK (h : Ok r a b d x y w c g) : Pu Try.prog 39 #[kv r a b d x y w c g] (.int .i64 (pl r x y w)) :=
  place [r, a, b, d, x, y, w, c, g] rfl ((okC_iff ..).2 h).1.1
theorem placeF (h : Ok r a b d x y w c g) : Pu Try.prog 36 #[kv r a b d x y w c g] (.int .i64 (pl r x y w)) := Pu.intro fun m => by
  have k1 := checkK h
  have k2 := placeK h
  generalize pl r x y w = q at k2
  refine Ct.enterV (by rfl) Try.func36 rfl Try.ntmps36 rfl (fun w0 Rest => ?_)
  (repeat' (first | refine zss ?_ | refine zs0 ?_ | ((with_reducible first | apply AtM1.callp | apply AtQ.callp | apply At.callp); kernel_rfl; exact rfl; exact rfl; exact k1) | ((with_reducible first | apply AtM1.callp | apply AtQ.callp | apply At.callp); kernel_rfl; exact rfl; exact rfl; exact k2) | ((with_reducible apply At.box (d := 1)); exact rfl; exact rfl; exact rfl; intro b1) | (refine zsp ?_ ?_ <;> (intro hc; (try simp only [zhcs, reduceCtorEq] at hc); (try (exfalso; first | omega | contradiction | omega | exact absurd rfl hc | exact absurd (by decide) hc))))))
  all_goals ((with_reducible apply At.retB1 (B := [])); exact rfl; exact rfl; exact zml; exact zkp; exact ⟨rfl, rfl, rfl⟩)
abbrev ixv (g : Int) : Int := (g + 120 - 1) / 120
theorem indexF (h : Ok r a b d x y w c g) : Pu Try.prog 48 #[kv r a b d x y w c g] (.int .i64 (ixv g)) := Pu.intro fun m => by
  have k1 := checkK h
  have k2 := parts g 120 h.hg.1 (by have := h.hg; omega) (by decide) (by decide)
  refine Ct.enterV (by rfl) Try.func48 rfl Try.ntmps48 rfl (fun w0 Rest => ?_)
  (repeat' (first | refine zss ?_ | refine zs0 ?_ | ((with_reducible first | apply AtM1.callp | apply AtQ.callp | apply At.callp); kernel_rfl; exact rfl; exact rfl; exact k1) | ((with_reducible first | apply AtM1.callp | apply AtQ.callp | apply At.callp); kernel_rfl; exact rfl; exact rfl; exact k2) | ((with_reducible apply At.box (d := 1)); exact rfl; exact rfl; exact rfl; intro b1) | (refine zsp ?_ ?_ <;> (intro hc; (try simp only [zhcs, reduceCtorEq] at hc); (try (exfalso; first | omega | contradiction | omega | exact absurd rfl hc | exact absurd (by decide) hc))))))
  all_goals ((with_reducible apply At.retB1 (B := [])); exact rfl; exact rfl; exact zml; exact zkp; exact ⟨rfl, rfl, rfl⟩)
abbrev hmv (g : Int) : Int := 1 + ixv g + g
theorem homeF (h : Ok r a b d x y w c g) : Pu Try.prog 35 #[kv r a b d x y w c g] (.int .i64 (hmv g)) := Pu.intro fun m => by
  have k1 := checkK h
  have k2 := indexF h
  have hg := h.hg
  have hq : 0 ≤ ixv g ∧ ixv g ≤ 100 := by show 0 ≤ (g + 120 - 1) / 120 ∧ (g + 120 - 1) / 120 ≤ 100; omega
  generalize hi : ixv g = q at k2 hq
  refine Ct.enterV (by rfl) Try.func35 rfl Try.ntmps35 rfl (fun w0 Rest => ?_)
  (repeat' (first | refine zss ?_ | refine zs0 ?_ | ((with_reducible first | apply AtM1.callp | apply AtQ.callp | apply At.callp); kernel_rfl; exact rfl; exact rfl; exact k1) | ((with_reducible first | apply AtM1.callp | apply AtQ.callp | apply At.callp); kernel_rfl; exact rfl; exact rfl; exact k2) | ((with_reducible apply At.box (d := 1)); exact rfl; exact rfl; exact rfl; intro b1) | (refine zsp ?_ ?_ <;> (intro hc; (try simp only [zhcs, reduceCtorEq] at hc); (try (exfalso; first | omega | contradiction | omega | exact absurd rfl hc | exact absurd (by decide) hc))))))
  all_goals ((with_reducible apply At.retB1 (B := [])); exact rfl; exact rfl; exact zml; exact zkp; exact ⟨by rw [← hi], rfl, rfl⟩)
def szv (r x y w c g : Int) : Int := hmv g + 1 + c * pl r x y w
theorem sizeF (h : Ok r a b d x y w c g) : Pu Try.prog 24 #[kv r a b d x y w c g] (if 16777216 < szv r x y w c g then .tuple #[.int .i64 0, .int .i64 1] else .tuple #[.int .i64 (szv r x y w c g), .int .i64 0]) := Pu.intro fun m => by
  have k1 := checkK h
  have k2 := homeF h
  have k3 := placeF h
  have hg := h.hg
  have hc1 := h.hc
  have hr := h.hr
  have hx := h.hx
  have hy := h.hy
  have hw := h.hw
  have hp := h.hp
  have hq : 0 ≤ hmv g ∧ hmv g ≤ 9000 := by show 0 ≤ 1 + (g + 120 - 1) / 120 + g ∧ 1 + (g + 120 - 1) / 120 + g ≤ 9000; omega
  have hP : 0 ≤ pl r x y w ∧ pl r x y w ≤ 8192 := by
    refine ⟨?_, by have : pl r x y w < g := hp; omega⟩
    show 0 ≤ 1 + (r + 16 - 1) / 16 + (x + 4 - 1) / 4 + (y + 4 - 1) / 4 + (w + 4 - 1) / 4
    omega
  have hs : szv r x y w c g = hmv g + 1 + c * pl r x y w := rfl
  clear hp
  generalize hmv g = H at k2 hq hs
  generalize pl r x y w = P at k3 hP hs
  have hm : 0 ≤ c * P ∧ c * P ≤ 65536 * 8192 := ⟨Int.mul_nonneg (by omega) hP.1, Int.mul_le_mul hc1.2 hP.2 hP.1 (by decide)⟩
  obtain ⟨M, eM⟩ : ∃ M, c * P = M := ⟨_, rfl⟩
  rw [hs, eM]
  rw [eM] at hm
  have hmul : IntKind.wrap .i64 (c * P) = M := by rw [eM]; exact IntWalk.i64_in _ (by omega)
  by_cases hb : 16777216 < H + 1 + M
  · rw [if_pos hb]
    refine Ct.enterV (by rfl) Try.func24 rfl Try.ntmps24 rfl (fun w0 Rest => ?_)
    (repeat' (first | refine zss ?_ | ((first | (with_reducible first | apply At.val | apply AtQ.val)); (exact pr_mul (by rfl) (by rfl) hmul); exact rfl) | refine zs0 ?_ | ((with_reducible first | apply AtM1.callp | apply AtQ.callp | apply At.callp); kernel_rfl; exact rfl; exact rfl; exact k1) | ((with_reducible first | apply AtM1.callp | apply AtQ.callp | apply At.callp); kernel_rfl; exact rfl; exact rfl; exact k2) | ((with_reducible first | apply AtM1.callp | apply AtQ.callp | apply At.callp); kernel_rfl; exact rfl; exact rfl; exact k3) | ((with_reducible apply At.box (d := 1)); exact rfl; exact rfl; exact rfl; intro b1) | (refine zsp ?_ ?_ <;> (intro hc; (try simp only [zhcs, reduceCtorEq] at hc); (try (exfalso; first | omega | contradiction | omega | exact absurd rfl hc | exact absurd (by decide) hc))))))
    all_goals ((with_reducible apply At.retV (B := [])); exact rfl; (repeat' (first | exact RVs.nil | (with_reducible apply RVs.cons) | exact rv_tmp (by rfl) | exact rv_cellN (by rfl) (by repeat constructor) (by rfl) (by rfl) (by rfl) | exact rv_cell1 (by rfl) (by repeat constructor) (by rfl) (by rfl))); exact zml; exact zkp; exact ⟨rfl, rfl, rfl⟩)
  · rw [if_neg hb]
    refine Ct.enterV (by rfl) Try.func24 rfl Try.ntmps24 rfl (fun w0 Rest => ?_)
    (repeat' (first | refine zss ?_ | ((first | (with_reducible first | apply At.val | apply AtQ.val)); (exact pr_mul (by rfl) (by rfl) hmul); exact rfl) | refine zs0 ?_ | ((with_reducible first | apply AtM1.callp | apply AtQ.callp | apply At.callp); kernel_rfl; exact rfl; exact rfl; exact k1) | ((with_reducible first | apply AtM1.callp | apply AtQ.callp | apply At.callp); kernel_rfl; exact rfl; exact rfl; exact k2) | ((with_reducible first | apply AtM1.callp | apply AtQ.callp | apply At.callp); kernel_rfl; exact rfl; exact rfl; exact k3) | ((with_reducible apply At.box (d := 1)); exact rfl; exact rfl; exact rfl; intro b1) | (refine zsp ?_ ?_ <;> (intro hc; (try simp only [zhcs, reduceCtorEq] at hc); (try (exfalso; first | omega | contradiction | omega | exact absurd rfl hc | exact absurd (by decide) hc))))))
    all_goals ((with_reducible apply At.retV (B := [])); exact rfl; (repeat' (first | exact RVs.nil | (with_reducible apply RVs.cons) | exact rv_tmp (by rfl) | exact rv_cellN (by rfl) (by repeat constructor) (by rfl) (by rfl) (by rfl) | exact rv_cell1 (by rfl) (by repeat constructor) (by rfl) (by rfl))); exact zml; exact zkp; exact ⟨rfl, rfl, rfl⟩)
theorem fit : Pu Try.prog 11 #[] (kv 20 10 20 60 4 5 6 3 9) := Pu.intro fun m => by
  refine Ct.enterV (by rfl) Try.func11 rfl Try.ntmps11 rfl (fun w0 Rest => ?_)
  (repeat' (first | refine zss ?_ | ((first | (with_reducible first | apply At.val | apply AtQ.val)); (exact pr_buildArr (by rfl) (by rfl)); exact rfl) | refine zs0 ?_ | ((with_reducible apply At.alloc (d := 0)); exact rfl; exact rfl; intro b0) | (refine zsp ?_ ?_ <;> (intro hc; (try simp only [zhcs, reduceCtorEq] at hc); (try (exfalso; first | contradiction | omega | exact absurd rfl hc | exact absurd (by decide) hc))))))
  all_goals ((with_reducible apply At.retV (B := [])); exact rfl; (repeat' (first | exact RVs.nil | (with_reducible apply RVs.cons) | exact rv_tmp (by rfl) | exact rv_cellN (by rfl) (by repeat constructor) (by rfl) (by rfl) (by rfl) | exact rv_cell1 (by rfl) (by repeat constructor) (by rfl) (by rfl))); exact zml; exact zkp; exact ⟨rfl, rfl, rfl⟩)
theorem fit_ok : Ok 20 10 20 60 4 5 6 3 9 := by decide
end
end Conf
end Go.Proofs.Ytecifniognbomaa
/- Series: what one is; the tiers' slots searched and held against one another. -/
set_option linter.unusedSimpArgs false
set_option linter.unusedVariables false
set_option linter.unusedSectionVars false
set_option maxRecDepth 20000
set_option maxHeartbeats 4000000
namespace Go.Proofs.Ytecifniognbomaa
open Go Go.J
attribute [local irreducible] At AtQ AtM AtM1 PR Ct Pu Rd Res.blk Res.own Res.ex RVs RV
/-- a slice: where it lies, and what it has -/
structure Lst (α : Type) where
  (p : Option Addr) (c : Nat) (l : List α)
abbrev Lst.v {α : Type} (x : Lst α) : Value := .slice x.p x.l.length x.c
abbrev Lst.nil {α : Type} : Lst α := ⟨none, 0, []⟩
/-- a configuration -/
structure Cfg where
  (r a b d x y w c g : Int)
namespace Cfg
abbrev cells (k : Cfg) : List Value := [.int .i64 k.r, .int .i64 k.a, .int .i64 k.b, .int .i64 k.d, .int .i64 k.x, .int .i64 k.y, .int .i64 k.w, .int .i64 k.c, .int .i64 k.g]
abbrev v (k : Cfg) : Value := .agg (cells k).toArray
def ok (k : Cfg) : Prop := Conf.Ok k.r k.a k.b k.d k.x k.y k.w k.c k.g
instance (k : Cfg) : Decidable k.ok := by unfold ok; infer_instance
def chk (k : Cfg) : Int := if k.ok then 0 else 2
theorem check (k : Cfg) : Pu Try.prog 27 #[k.v] (.int .i64 k.chk) := by
  unfold chk
  by_cases h : k.ok
  · rw [if_pos h]; exact Conf.checkK h
  · rw [if_neg h]; exact Conf.checkN h
end Cfg
/-- a series -/
structure Ser where
  (lab : Lst Lab) (last lost mark : Int) (raw : Lst Ev) (t0 t1 t2 : Lst Slot) (op : Slot)
namespace Ser
abbrev cells : Ser → List Value := fun s => s.lab.v :: .int .i64 s.last :: .int .i64 s.lost :: .int .i64 s.mark :: s.raw.v :: s.t0.v :: s.t1.v :: s.t2.v :: Slot.cells s.op
abbrev v (s : Ser) : Value := .agg (cells s).toArray
abbrev z : Ser := ⟨Lst.nil, 0, 0, 0, Lst.nil, Lst.nil, Lst.nil, Lst.nil, Slot.z⟩
instance : Inhabited Ser := ⟨z⟩
instance : Fl cells 23 := ⟨fun _ => rfl, fun x v h => by
  simp at h
  rcases h with rfl | rfl | rfl | rfl | rfl | rfl | rfl | rfl | rfl | rfl | rfl | rfl | rfl | rfl | rfl | rfl | rfl | rfl | rfl | rfl | rfl | rfl | rfl <;> rfl, by decide⟩
/-- what it has lies where it says; its numbers are numbers -/
structure Ok (m : Mem) (s : Ser) : Prop where
  sl : Sl m Lb.cells 2 s.lab.p s.lab.c s.lab.l
  sr : Sl m Ev.cells 4 s.raw.p s.raw.c s.raw.l
  s0 : Sl m Slot.cells 15 s.t0.p s.t0.c s.t0.l
  s1 : Sl m Slot.cells 15 s.t1.p s.t1.c s.t1.l
  s2 : Sl m Slot.cells 15 s.t2.p s.t2.c s.t2.l
  ml : Lb.Mid s.lab.l
  i0 : ∀ x ∈ s.t0.l, Slot.In x
  i1 : ∀ x ∈ s.t1.l, Slot.In x
  i2 : ∀ x ∈ s.t2.l, Slot.In x
  io : Slot.In s.op
  ir : ∀ e ∈ s.raw.l, e.V < 18446744073709551616
  nl : s.lab.l.length ≤ 1000000
  nr : s.raw.l.length ≤ 1000000
  n0 : s.t0.l.length ≤ 1000000
  n1 : s.t1.l.length ≤ 1000000
  n2 : s.t2.l.length ≤ 1000000
  bl : -9223372036854775808 ≤ s.last ∧ s.last ≤ 9223372036854775807
theorem Ok.mono {m m' : Mem} {s : Ser} (h : Ok m s) (hm : m.le m') : Ok m' s := ⟨h.sl.mono hm, h.sr.mono hm, h.s0.mono hm, h.s1.mono hm, h.s2.mono hm, h.ml, h.i0, h.i1, h.i2, h.io, h.ir, h.nl, h.nr, h.n0, h.n1, h.n2, h.bl⟩
end Ser
namespace Se
theorem equalS {m : Mem} (p : Option Addr) (c : Nat) (a : List Slot) (q : Option Addr) (d : Nat) (b : List Slot) (hl : a.length ≤ 1000000) (hlb : b.length ≤ 1000000) (sl0 : Sl m Slot.cells 15 p c a) (sl1 : Sl m Slot.cells 15 q d b) :
    Rd Try.prog 51 #[.slice p a.length c, .slice q b.length d] m [] (.bool (decide (a = b))) := by
  unfold Rd
  by_cases hlen : a.length = b.length
  · refine Ct.enterV (by rfl) Try.func51 rfl Try.ntmps51 rfl (fun w0 Rest => ?_)
    (repeat' (first | refine zss ?_ | refine zsM ?_ | (refine zsp ?_ ?_ <;> (intro hc; (try simp only [zhcs, reduceCtorEq] at hc); (try (exfalso; first | omega | contradiction | omega | exact absurd rfl hc | exact absurd (by decide) hc))))))
    (refine At.loopk (σ := Nat) [0, 1, 12] (fun s F0 => (13, .int .i64 (s : Int)) :: F0) (fun s => m) (fun s => Rest) (fun s => s ≤ a.length ∧ ∀ i, i < s → a[i]! = b[i]!) (fun s => a.length - s) 0 (by rfl) ?_ zsubs zml zente ?_)
    · exact ⟨Nat.zero_le _, fun i h => absurd h (Nat.not_lt_zero i)⟩
    rintro s ⟨hs, hn⟩
    by_cases h : s < a.length
    · by_cases e : a[s]! = b[s]!
      · have hnn : ∀ i, i < s + 1 → a[i]! = b[i]! := fun i hi => by
          by_cases e1 : i = s
          · subst e1; exact e
          · exact hn i (by omega)
        (repeat' (first | refine zss ?_ | ((first | (with_reducible first | apply At.val | apply AtQ.val)); (exact Ti.pr_slne (by rfl) (by rfl)); exact rfl) | refine zsM ?_ | (refine zsp ?_ ?_ <;> (intro hc; (try simp only [zhcs, reduceCtorEq] at hc); (try (exfalso; first | (first | omega | exact absurd e hc) | contradiction | omega | exact absurd rfl hc | exact absurd (by decide) hc))))))
        all_goals ((with_reducible refine At.reachk ((s + 1)) ?_ ?_ ?_ ?_); exact zsubs; exact zml; exact zente; exact ⟨⟨h, hnn⟩, by omega⟩)
      · rw [decide_eq_false (show ¬ a = b from fun h => e (by rw [h]))]
        (repeat' (first | refine zss ?_ | ((first | (with_reducible first | apply At.val | apply AtQ.val)); (exact Ti.pr_slne (by rfl) (by rfl)); exact rfl) | refine zsM ?_ | (refine zsp ?_ ?_ <;> (intro hc; (try simp only [zhcs, reduceCtorEq] at hc); (try (exfalso; first | (first | omega | exact absurd hc e) | contradiction | omega | exact absurd rfl hc | exact absurd (by decide) hc))))))
        all_goals ((with_reducible apply At.retB1 (B := [])); exact rfl; exact rfl; exact zml; exact zkp; exact ⟨rfl, rfl, rfl⟩)
    · rw [decide_eq_true (show a = b from Ls.ext! hlen fun i hi => hn i (by omega))]
      (repeat' (first | refine zss ?_ | refine zsM ?_ | (refine zsp ?_ ?_ <;> (intro hc; (try simp only [zhcs, reduceCtorEq] at hc); (try (exfalso; first | omega | contradiction | omega | exact absurd rfl hc | exact absurd (by decide) hc))))))
      all_goals ((with_reducible apply At.retB1 (B := [])); exact rfl; exact rfl; exact zml; exact zkp; exact ⟨rfl, rfl, rfl⟩)
  · rw [decide_eq_false (show ¬ a = b from fun h => hlen (by rw [h]))]
    refine Ct.enterV (by rfl) Try.func51 rfl Try.ntmps51 rfl (fun w0 Rest => ?_)
    (repeat' (first | refine zss ?_ | refine zsM ?_ | (refine zsp ?_ ?_ <;> (intro hc; (try simp only [zhcs, reduceCtorEq] at hc); (try (exfalso; first | omega | contradiction | omega | exact absurd rfl hc | exact absurd (by decide) hc))))))
    all_goals ((with_reducible apply At.retB1 (B := [])); exact rfl; exact rfl; exact zml; exact zkp; exact ⟨rfl, rfl, rfl⟩)
abbrev pt (b : Nat) : Value := .pointer (some ⟨b, 0, none⟩)
abbrev bi (b : Nat) (i : Int) : List Res := [.blk b 2 [.int .i64 i]]
def bh1 (i : Int) (s : Slot) : Bool := decide (0 < s.c.n ∧ i ≤ s.w)
/-- a tier has a slot of a window, or one behind it -/
def bhd (l : List Slot) (i : Int) : Bool := l.any (bh1 i)
theorem bhd_no {l : List Slot} {i : Int} (h : ∀ k, k < l.length → bh1 i l[k]! = false) : bhd l i = false := by
  unfold bhd
  rw [List.any_eq_false]
  intro x hx
  obtain ⟨k, hk, e⟩ := List.mem_iff_getElem.1 hx
  have := h k hk
  rw [getElem!_pos l k hk, e] at this
  rw [this]
  decide
theorem bhd_yes {l : List Slot} {i : Int} {k : Nat} (hk : k < l.length) (h : bh1 i l[k]! = true) : bhd l i = true := by
  unfold bhd
  rw [List.any_eq_true]
  exact ⟨l[k]!, Ls.mem! hk, h⟩
theorem behind1 {m : Mem} (b : Nat) (s : Slot) (i : Int) (q : Bool) (h : bh1 i s = q) : Ct Try.prog 79 #[s.v, pt b] m (bi b i) (fun v m' B => v = .bool q ∧ m = m' ∧ B = bi b i) := by
  subst h
  unfold bh1
  refine Ct.enterV (by rfl) Try.func79 rfl Try.ntmps79 rfl (fun w0 Rest => ?_)
  (repeat' (first | refine zss ?_ | refine zs0 ?_ | ((with_reducible apply At.box (d := 2)); exact rfl; exact rfl; exact rfl; intro b2) | (refine zsp ?_ ?_ <;> (intro hc; (try simp only [zhcs, reduceCtorEq] at hc); (try (exfalso; first | contradiction | omega | exact absurd rfl hc | exact absurd (by decide) hc))))))
  all_goals ((with_reducible apply At.retB1 (B := bi b i)); exact rfl; exact rfl; exact zml; exact zkp; exact ⟨congrArg Value.bool (by simp [hc]), rfl, rfl⟩)
theorem indexB {m : Mem} (b : Nat) (p : Option Addr) (c : Nat) (l : List Slot) (i : Int) (hl : l.length ≤ 1000000) (sl0 : Sl m Slot.cells 15 p c l) :
    Ct Try.prog 85 #[.slice p l.length c, .func (.func 79) #[] #[pt b]] m (bi b i) (fun v m' B => m = m' ∧ B = bi b i ∧
      ((v = .int .i64 (-1) ∧ bhd l i = false) ∨ (∃ k : Nat, v = .int .i64 (k : Int) ∧ bhd l i = true))) := by
  refine Ct.enterV (by rfl) Try.func85 rfl Try.ntmps85 rfl (fun w0 Rest => ?_)
  (repeat' (first | refine zss ?_ | refine zsM ?_ | (refine zsp ?_ ?_ <;> (intro hc; (try simp only [zhcs, reduceCtorEq] at hc); (try (exfalso; first | contradiction | omega | exact absurd rfl hc | exact absurd (by decide) hc))))))
  (refine At.loopk (σ := Nat) [0, 1, 7] (fun s F0 => (8, .int .i64 (s : Int)) :: F0) (fun s => m) (fun s => .blk b 2 [.int .i64 i] :: Rest) (fun s => s ≤ l.length ∧ ∀ k, k < s → bh1 i l[k]! = false) (fun s => l.length - s) 0 (by rfl) ?_ zsubs zml zente ?_)
  · exact ⟨Nat.zero_le _, fun i h => absurd h (Nat.not_lt_zero i)⟩
  rintro j ⟨hs, hn⟩
  by_cases h : j < l.length
  · cases e : bh1 i l[j]!
    · have hnn : ∀ k, k < j + 1 → bh1 i l[k]! = false := fun k hk => by
        by_cases e1 : k = j
        · subst e1; exact e
        · exact hn k (by omega)
      (repeat' (first | refine zss ?_ | refine zsM ?_ | ((with_reducible apply At.callf); exact rfl; kernel_rfl; exact rfl; exact rfl; exact behind1 b (l[j]!) i false e; exact ztk; rintro v' m' B' hm' ⟨rfl, rfl, rfl⟩; (try replace sl0 := sl0.mono hm')) | (refine zsp ?_ ?_ <;> (intro hc; (try simp only [zhcs, reduceCtorEq] at hc); (try (exfalso; first | omega | contradiction | omega | exact absurd rfl hc | exact absurd (by decide) hc))))))
      all_goals ((with_reducible refine At.reachk ((j + 1)) ?_ ?_ ?_ ?_); exact zsubs; exact zml; exact zente; exact ⟨⟨h, hnn⟩, by omega⟩)
    · (repeat' (first | refine zss ?_ | refine zsM ?_ | ((with_reducible apply At.callf); exact rfl; kernel_rfl; exact rfl; exact rfl; exact behind1 b (l[j]!) i true e; exact ztk; rintro v' m' B' hm' ⟨rfl, rfl, rfl⟩; (try replace sl0 := sl0.mono hm')) | (refine zsp ?_ ?_ <;> (intro hc; (try simp only [zhcs, reduceCtorEq] at hc); (try (exfalso; first | omega | contradiction | omega | exact absurd rfl hc | exact absurd (by decide) hc))))))
      all_goals ((with_reducible apply At.retB1 (B := bi b i)); exact rfl; exact rfl; exact zml; exact zkp; exact ⟨rfl, rfl, .inr ⟨j, rfl, bhd_yes h e⟩⟩)
  · (repeat' (first | refine zss ?_ | refine zsM ?_ | (refine zsp ?_ ?_ <;> (intro hc; (try simp only [zhcs, reduceCtorEq] at hc); (try (exfalso; first | omega | contradiction | omega | exact absurd rfl hc | exact absurd (by decide) hc))))))
    all_goals ((with_reducible apply At.retB1 (B := bi b i)); exact rfl; exact rfl; exact zml; exact zkp; exact ⟨rfl, rfl, .inl ⟨rfl, bhd_no fun k hk => hn k (by omega)⟩⟩)
theorem containsB {m : Mem} (b : Nat) (p : Option Addr) (c : Nat) (l : List Slot) (i : Int) (hl : l.length ≤ 1000000) (sl0 : Sl m Slot.cells 15 p c l) :
    Ct Try.prog 78 #[.slice p l.length c, .func (.func 79) #[] #[pt b]] m (bi b i) (fun v m' B => v = .bool (bhd l i) ∧ m = m' ∧ B = bi b i) := by
  refine Ct.enterV (by rfl) Try.func78 rfl Try.ntmps78 rfl (fun w0 Rest => ?_)
  (repeat' (first | refine zss ?_ | refine zsM ?_ | ((with_reducible first | apply At.c1 | apply At.c0); exact rfl; exact rfl; exact indexB b p c l i hl sl0; exact ztk; kernel_rfl; rintro v' m' B' hm' ⟨rfl, rfl, hv⟩; (try replace sl0 := sl0.mono hm'); (try (have hq0 : hm' = Mem.le_refl _ := rfl; clear hq0 hm'))) | (rcases hv with ⟨rfl, hv⟩ | ⟨k, rfl, hv⟩) | (refine zsp ?_ ?_ <;> (intro hc; (try simp only [zhcs, reduceCtorEq] at hc); (try (exfalso; first | omega | contradiction | omega | exact absurd rfl hc | exact absurd (by decide) hc))))))
  all_goals ((with_reducible apply At.retB1 (B := bi b i)); exact rfl; exact rfl; exact zml; exact zkp; exact ⟨congrArg Value.bool (by rw [hv]; first | rfl | (simp <;> omega)), rfl, rfl⟩)
theorem behind {m : Mem} (p : Option Addr) (c : Nat) (l : List Slot) (i : Int) (hl : l.length ≤ 1000000) (sl0 : Sl m Slot.cells 15 p c l) :
    Rd Try.prog 67 #[.slice p l.length c, .int .i64 i] m [] (.bool (bhd l i)) := by
  unfold Rd
  refine Ct.enterV (by rfl) Try.func67 rfl Try.ntmps67 rfl (fun w0 Rest => ?_)
  (repeat' (first | refine zss ?_ | refine zsM ?_ | ((with_reducible first | apply At.c1 | apply At.c0); exact rfl; exact rfl; exact containsB _ p c l i hl sl0; exact ztk; kernel_rfl; rintro v' m' B' hm' ⟨rfl, rfl, rfl⟩; (try replace sl0 := sl0.mono hm'); (try (have hq0 : hm' = Mem.le_refl _ := rfl; clear hq0 hm'))) | ((with_reducible apply At.box (d := 3)); exact rfl; exact rfl; exact rfl; intro b3) | (refine zsp ?_ ?_ <;> (intro hc; (try simp only [zhcs, reduceCtorEq] at hc); (try (exfalso; first | contradiction | omega | exact absurd rfl hc | exact absurd (by decide) hc))))))
  all_goals ((with_reducible apply At.retB1 (B := [])); exact rfl; exact rfl; exact zml; exact zkp; exact ⟨rfl, rfl, rfl⟩)
end Se
end Go.Proofs.Ytecifniognbomaa
/- The package fold opens tiers that are right; a series that is dead. -/
set_option linter.unusedSimpArgs false
set_option linter.unusedVariables false
set_option linter.unusedSectionVars false
set_option maxRecDepth 20000
set_option maxHeartbeats 4000000
namespace Go.Proofs.Ytecifniognbomaa
open Go Go.J
attribute [local irreducible] At AtQ AtM AtM1 PR Ct Pu Rd Res.blk Res.own Res.ex RVs RV
namespace Se
open Win
abbrev t3v (a b c : Lst Slot) : Value := .agg #[a.v, b.v, c.v]
/-- a tier of so many windows, of such a width -/
def tk (l : List Slot) (n w : Int) : Prop := (l.length : Int) = n ∧ Ti.okT l w
instance (l : List Slot) (n w : Int) : Decidable (tk l n w) := by unfold tk; infer_instance
def fok (k : Cfg) (a b c : List Slot) : Prop := k.ok ∧ tk a k.x k.a ∧ tk b k.y k.b ∧ tk c k.w k.d
instance (k : Cfg) (a b c : List Slot) : Decidable (fok k a b c) := by unfold fok; infer_instance
theorem tchk {l : List Slot} {w : Int} (h : Ti.okT l w) : Ti.chk l w = 0 := if_pos h
theorem tchkN {l : List Slot} {w : Int} (h : ¬ Ti.okT l w) : Ti.chk l w = 2 := if_neg h
set_option maxRecDepth 100000 in
theorem openF {m : Mem} (k : Cfg) (a b c : Lst Slot) (ha : a.l.length ≤ 1000000) (hb : b.l.length ≤ 1000000) (hc0 : c.l.length ≤ 1000000) (ia : ∀ s ∈ a.l, Slot.In s) (ib : ∀ s ∈ b.l, Slot.In s) (ic : ∀ s ∈ c.l, Slot.In s)
    (sl0 : Sl m Slot.cells 15 a.p a.c a.l) (sl1 : Sl m Slot.cells 15 b.p b.c b.l) (sl2 : Sl m Slot.cells 15 c.p c.c c.l) :
    Ct Try.prog 63 #[k.v, t3v a b c] m [] (fun v m' B => m = m' ∧ ((fok k a.l b.l c.l ∧ ∃ q, v = .tuple #[pt q, .int .i64 0] ∧ B = [.blk q 122 (k.cells ++ [a.v, b.v, c.v])]) ∨ (¬ fok k a.l b.l c.l ∧ v = .tuple #[.pointer none, .int .i64 2] ∧ B = []))) := by
  have k0 := Cfg.check k
  unfold Cfg.chk at k0
  by_cases h0 : k.ok
  rotate_left
  · rw [if_neg h0] at k0
    refine Ct.enterV (by rfl) Try.func63 rfl Try.ntmps63 rfl (fun w0 Rest => ?_)
    (repeat' (first | refine zss ?_ | refine zsM ?_ | ((with_reducible first | apply AtM1.callp | apply AtQ.callp | apply At.callp); kernel_rfl; exact rfl; exact rfl; exact k0) | ((with_reducible apply At.box (d := 2)); exact rfl; exact rfl; exact rfl; intro b2) | ((with_reducible apply At.box (d := 3)); exact rfl; exact rfl; exact rfl; intro b3) | ((with_reducible apply At.box (d := 39)); exact rfl; exact rfl; exact rfl; intro b39) | (refine zsp ?_ ?_ <;> (intro hc; (try simp only [zhcs, reduceCtorEq] at hc); (try (exfalso; first | omega | contradiction | omega | exact absurd rfl hc | exact absurd (by decide) hc))))))
    all_goals ((with_reducible apply At.retV (B := [])); exact rfl; (repeat' (first | exact RVs.nil | (with_reducible apply RVs.cons) | exact rv_tmp (by rfl) | exact rv_cellN (by rfl) (by repeat constructor) (by rfl) (by rfl) (by rfl) | exact rv_cell1 (by rfl) (by repeat constructor) (by rfl) (by rfl))); exact zml; exact zkp; exact ⟨rfl, .inr ⟨fun h => h0 h.1, rfl, rfl⟩⟩)
  rw [if_pos h0] at k0
  have k1 := fun (m' : Mem) (h : m.le m') => Ti.check a.p a.c a.l k.a ia (sl0.mono h)
  have k2 := fun (m' : Mem) (h : m.le m') => Ti.check b.p b.c b.l k.b ib (sl1.mono h)
  have k3 := fun (m' : Mem) (h : m.le m') => Ti.check c.p c.c c.l k.d ic (sl2.mono h)
  refine Ct.enterV (by rfl) Try.func63 rfl Try.ntmps63 rfl (fun w0 Rest => ?_)
  (repeat' (first | refine zss ?_ | refine zsM ?_ | ((with_reducible first | apply AtM1.callp | apply AtQ.callp | apply At.callp); kernel_rfl; exact rfl; exact rfl; exact k0) | ((with_reducible apply At.box (d := 2)); exact rfl; exact rfl; exact rfl; intro b2) | ((with_reducible apply At.box (d := 3)); exact rfl; exact rfl; exact rfl; intro b3) | ((with_reducible apply At.box (d := 39)); exact rfl; exact rfl; exact rfl; intro b39) | (refine zsp ?_ ?_ <;> (intro hc; (try simp only [zhcs, reduceCtorEq] at hc); (try (exfalso; first | omega | contradiction | omega | exact absurd rfl hc | exact absurd (by decide) hc))))))
  (refine At.loopk (σ := Nat) [2, 3, 14] (fun s F0 => (15, .int .i64 (s : Int)) :: F0) (fun s => m) (fun s => .blk b3 48 [a.v, b.v, c.v] :: .blk b2 25 k.cells :: Rest) (fun s => s ≤ 3 ∧ (0 < s → tk a.l k.x k.a) ∧ (1 < s → tk b.l k.y k.b) ∧ (2 < s → tk c.l k.w k.d)) (fun s => 3 - s) 0 (by rfl) ?_ zsubs zml zente ?_)
  · exact ⟨Nat.zero_le _, fun h => absurd h (by decide), fun h => absurd h (by decide), fun h => absurd h (by decide)⟩
  rintro s ⟨hs, g0, g1, g2⟩
  rcases (show s = 0 ∨ s = 1 ∨ s = 2 ∨ s = 3 by omega) with rfl | rfl | rfl | rfl
  · clear k2 k3
    by_cases e1 : (a.l.length : Int) = k.x
    rotate_left
    · (repeat' (first | refine zss ?_ | ((first | (with_reducible first | apply At.val | apply AtQ.val)); (first | exact pr_index_agg (k := 0) (by rfl) (by rfl) (by rfl) (by rfl) (by rfl) (by rfl) (by rfl) | exact pr_indexArr (k := 0) (by rfl) (by rfl) (by rfl) (by rfl) (by decide)); exact rfl) | refine zsM ?_ | ((with_reducible apply At.box (d := 2)); exact rfl; exact rfl; exact rfl; intro b2) | ((with_reducible apply At.box (d := 3)); exact rfl; exact rfl; exact rfl; intro b3) | ((with_reducible apply At.box (d := 39)); exact rfl; exact rfl; exact rfl; intro b39) | (refine zsp ?_ ?_ <;> (intro hc; (try simp only [zhcs, reduceCtorEq] at hc); (try (exfalso; first | (first | omega | exact absurd hc e1) | contradiction | omega | exact absurd rfl hc | exact absurd (by decide) hc))))))
      all_goals ((with_reducible apply At.retV (B := [])); exact rfl; (repeat' (first | exact RVs.nil | (with_reducible apply RVs.cons) | exact rv_tmp (by rfl) | exact rv_cellN (by rfl) (by repeat constructor) (by rfl) (by rfl) (by rfl) | exact rv_cell1 (by rfl) (by repeat constructor) (by rfl) (by rfl))); exact zml; exact zkp; exact ⟨rfl, .inr ⟨fun h => e1 h.2.1.1, rfl, rfl⟩⟩)
    by_cases e2 : Ti.okT a.l k.a
    · rw [tchk e2] at k1
      (repeat' (first | refine zss ?_ | ((first | (with_reducible first | apply At.val | apply AtQ.val)); (first | exact pr_index_agg (k := 0) (by rfl) (by rfl) (by rfl) (by rfl) (by rfl) (by rfl) (by rfl) | exact pr_indexArr (k := 0) (by rfl) (by rfl) (by rfl) (by rfl) (by decide)); exact rfl) | refine zsM ?_ | ((with_reducible first | apply AtM1.cr | apply AtQ.cr | apply At.cr); exact rfl; exact rfl; exact fun _ hmm => k1 _ hmm; exact ztk; kernel_rfl) | ((with_reducible apply At.box (d := 2)); exact rfl; exact rfl; exact rfl; intro b2) | ((with_reducible apply At.box (d := 3)); exact rfl; exact rfl; exact rfl; intro b3) | ((with_reducible apply At.box (d := 39)); exact rfl; exact rfl; exact rfl; intro b39) | (refine zsp ?_ ?_ <;> (intro hc; (try simp only [zhcs, reduceCtorEq] at hc); (try (exfalso; first | (first | omega | exact absurd e1 hc) | contradiction | omega | exact absurd rfl hc | exact absurd (by decide) hc))))))
      all_goals ((with_reducible refine At.reachk (1) ?_ ?_ ?_ ?_); exact zsubs; exact zml; exact zente; exact ⟨⟨by decide, fun _ => ⟨e1, e2⟩, fun h => absurd h (by decide), fun h => absurd h (by decide)⟩, by decide⟩)
    · rw [tchkN e2] at k1
      (repeat' (first | refine zss ?_ | ((first | (with_reducible first | apply At.val | apply AtQ.val)); (first | exact pr_index_agg (k := 0) (by rfl) (by rfl) (by rfl) (by rfl) (by rfl) (by rfl) (by rfl) | exact pr_indexArr (k := 0) (by rfl) (by rfl) (by rfl) (by rfl) (by decide)); exact rfl) | refine zsM ?_ | ((with_reducible first | apply AtM1.cr | apply AtQ.cr | apply At.cr); exact rfl; exact rfl; exact fun _ hmm => k1 _ hmm; exact ztk; kernel_rfl) | ((with_reducible apply At.box (d := 2)); exact rfl; exact rfl; exact rfl; intro b2) | ((with_reducible apply At.box (d := 3)); exact rfl; exact rfl; exact rfl; intro b3) | ((with_reducible apply At.box (d := 39)); exact rfl; exact rfl; exact rfl; intro b39) | (refine zsp ?_ ?_ <;> (intro hc; (try simp only [zhcs, reduceCtorEq] at hc); (try (exfalso; first | (first | omega | exact absurd e1 hc) | contradiction | omega | exact absurd rfl hc | exact absurd (by decide) hc))))))
      all_goals ((with_reducible apply At.retV (B := [])); exact rfl; (repeat' (first | exact RVs.nil | (with_reducible apply RVs.cons) | exact rv_tmp (by rfl) | exact rv_cellN (by rfl) (by repeat constructor) (by rfl) (by rfl) (by rfl) | exact rv_cell1 (by rfl) (by repeat constructor) (by rfl) (by rfl))); exact zml; exact zkp; exact ⟨rfl, .inr ⟨fun h => e2 h.2.1.2, rfl, rfl⟩⟩)
  · clear k1 k3
    by_cases e1 : (b.l.length : Int) = k.y
    rotate_left
    · (repeat' (first | refine zss ?_ | ((first | (with_reducible first | apply At.val | apply AtQ.val)); (first | exact pr_index_agg (k := 1) (by rfl) (by rfl) (by rfl) (by rfl) (by rfl) (by rfl) (by rfl) | exact pr_indexArr (k := 1) (by rfl) (by rfl) (by rfl) (by rfl) (by decide)); exact rfl) | refine zsM ?_ | ((with_reducible apply At.box (d := 2)); exact rfl; exact rfl; exact rfl; intro b2) | ((with_reducible apply At.box (d := 3)); exact rfl; exact rfl; exact rfl; intro b3) | ((with_reducible apply At.box (d := 39)); exact rfl; exact rfl; exact rfl; intro b39) | (refine zsp ?_ ?_ <;> (intro hc; (try simp only [zhcs, reduceCtorEq] at hc); (try (exfalso; first | (first | omega | exact absurd hc e1) | contradiction | omega | exact absurd rfl hc | exact absurd (by decide) hc))))))
      all_goals ((with_reducible apply At.retV (B := [])); exact rfl; (repeat' (first | exact RVs.nil | (with_reducible apply RVs.cons) | exact rv_tmp (by rfl) | exact rv_cellN (by rfl) (by repeat constructor) (by rfl) (by rfl) (by rfl) | exact rv_cell1 (by rfl) (by repeat constructor) (by rfl) (by rfl))); exact zml; exact zkp; exact ⟨rfl, .inr ⟨fun h => e1 h.2.2.1.1, rfl, rfl⟩⟩)
    by_cases e2 : Ti.okT b.l k.b
    · rw [tchk e2] at k2
      (repeat' (first | refine zss ?_ | ((first | (with_reducible first | apply At.val | apply AtQ.val)); (first | exact pr_index_agg (k := 1) (by rfl) (by rfl) (by rfl) (by rfl) (by rfl) (by rfl) (by rfl) | exact pr_indexArr (k := 1) (by rfl) (by rfl) (by rfl) (by rfl) (by decide)); exact rfl) | refine zsM ?_ | ((with_reducible first | apply AtM1.cr | apply AtQ.cr | apply At.cr); exact rfl; exact rfl; exact fun _ hmm => k2 _ hmm; exact ztk; kernel_rfl) | ((with_reducible apply At.box (d := 2)); exact rfl; exact rfl; exact rfl; intro b2) | ((with_reducible apply At.box (d := 3)); exact rfl; exact rfl; exact rfl; intro b3) | ((with_reducible apply At.box (d := 39)); exact rfl; exact rfl; exact rfl; intro b39) | (refine zsp ?_ ?_ <;> (intro hc; (try simp only [zhcs, reduceCtorEq] at hc); (try (exfalso; first | (first | omega | exact absurd e1 hc) | contradiction | omega | exact absurd rfl hc | exact absurd (by decide) hc))))))
      all_goals ((with_reducible refine At.reachk (2) ?_ ?_ ?_ ?_); exact zsubs; exact zml; exact zente; exact ⟨⟨by decide, fun _ => g0 (by decide), fun _ => ⟨e1, e2⟩, fun h => absurd h (by decide)⟩, by decide⟩)
    · rw [tchkN e2] at k2
      (repeat' (first | refine zss ?_ | ((first | (with_reducible first | apply At.val | apply AtQ.val)); (first | exact pr_index_agg (k := 1) (by rfl) (by rfl) (by rfl) (by rfl) (by rfl) (by rfl) (by rfl) | exact pr_indexArr (k := 1) (by rfl) (by rfl) (by rfl) (by rfl) (by decide)); exact rfl) | refine zsM ?_ | ((with_reducible first | apply AtM1.cr | apply AtQ.cr | apply At.cr); exact rfl; exact rfl; exact fun _ hmm => k2 _ hmm; exact ztk; kernel_rfl) | ((with_reducible apply At.box (d := 2)); exact rfl; exact rfl; exact rfl; intro b2) | ((with_reducible apply At.box (d := 3)); exact rfl; exact rfl; exact rfl; intro b3) | ((with_reducible apply At.box (d := 39)); exact rfl; exact rfl; exact rfl; intro b39) | (refine zsp ?_ ?_ <;> (intro hc; (try simp only [zhcs, reduceCtorEq] at hc); (try (exfalso; first | (first | omega | exact absurd e1 hc) | contradiction | omega | exact absurd rfl hc | exact absurd (by decide) hc))))))
      all_goals ((with_reducible apply At.retV (B := [])); exact rfl; (repeat' (first | exact RVs.nil | (with_reducible apply RVs.cons) | exact rv_tmp (by rfl) | exact rv_cellN (by rfl) (by repeat constructor) (by rfl) (by rfl) (by rfl) | exact rv_cell1 (by rfl) (by repeat constructor) (by rfl) (by rfl))); exact zml; exact zkp; exact ⟨rfl, .inr ⟨fun h => e2 h.2.2.1.2, rfl, rfl⟩⟩)
  · clear k1 k2
    by_cases e1 : (c.l.length : Int) = k.w
    rotate_left
    · (repeat' (first | refine zss ?_ | ((first | (with_reducible first | apply At.val | apply AtQ.val)); (first | exact pr_index_agg (k := 2) (by rfl) (by rfl) (by rfl) (by rfl) (by rfl) (by rfl) (by rfl) | exact pr_indexArr (k := 2) (by rfl) (by rfl) (by rfl) (by rfl) (by decide)); exact rfl) | refine zsM ?_ | ((with_reducible apply At.box (d := 2)); exact rfl; exact rfl; exact rfl; intro b2) | ((with_reducible apply At.box (d := 3)); exact rfl; exact rfl; exact rfl; intro b3) | ((with_reducible apply At.box (d := 39)); exact rfl; exact rfl; exact rfl; intro b39) | (refine zsp ?_ ?_ <;> (intro hc; (try simp only [zhcs, reduceCtorEq] at hc); (try (exfalso; first | (first | omega | exact absurd hc e1) | contradiction | omega | exact absurd rfl hc | exact absurd (by decide) hc))))))
      all_goals ((with_reducible apply At.retV (B := [])); exact rfl; (repeat' (first | exact RVs.nil | (with_reducible apply RVs.cons) | exact rv_tmp (by rfl) | exact rv_cellN (by rfl) (by repeat constructor) (by rfl) (by rfl) (by rfl) | exact rv_cell1 (by rfl) (by repeat constructor) (by rfl) (by rfl))); exact zml; exact zkp; exact ⟨rfl, .inr ⟨fun h => e1 h.2.2.2.1, rfl, rfl⟩⟩)
    by_cases e2 : Ti.okT c.l k.d
    · rw [tchk e2] at k3
      (repeat' (first | refine zss ?_ | ((first | (with_reducible first | apply At.val | apply AtQ.val)); (first | exact pr_index_agg (k := 2) (by rfl) (by rfl) (by rfl) (by rfl) (by rfl) (by rfl) (by rfl) | exact pr_indexArr (k := 2) (by rfl) (by rfl) (by rfl) (by rfl) (by decide)); exact rfl) | refine zsM ?_ | ((with_reducible first | apply AtM1.cr | apply AtQ.cr | apply At.cr); exact rfl; exact rfl; exact fun _ hmm => k3 _ hmm; exact ztk; kernel_rfl) | ((with_reducible apply At.box (d := 2)); exact rfl; exact rfl; exact rfl; intro b2) | ((with_reducible apply At.box (d := 3)); exact rfl; exact rfl; exact rfl; intro b3) | ((with_reducible apply At.box (d := 39)); exact rfl; exact rfl; exact rfl; intro b39) | (refine zsp ?_ ?_ <;> (intro hc; (try simp only [zhcs, reduceCtorEq] at hc); (try (exfalso; first | (first | omega | exact absurd e1 hc) | contradiction | omega | exact absurd rfl hc | exact absurd (by decide) hc))))))
      all_goals ((with_reducible refine At.reachk (3) ?_ ?_ ?_ ?_); exact zsubs; exact zml; exact zente; exact ⟨⟨by decide, fun _ => g0 (by decide), fun _ => g1 (by decide), fun _ => ⟨e1, e2⟩⟩, by decide⟩)
    · rw [tchkN e2] at k3
      (repeat' (first | refine zss ?_ | ((first | (with_reducible first | apply At.val | apply AtQ.val)); (first | exact pr_index_agg (k := 2) (by rfl) (by rfl) (by rfl) (by rfl) (by rfl) (by rfl) (by rfl) | exact pr_indexArr (k := 2) (by rfl) (by rfl) (by rfl) (by rfl) (by decide)); exact rfl) | refine zsM ?_ | ((with_reducible first | apply AtM1.cr | apply AtQ.cr | apply At.cr); exact rfl; exact rfl; exact fun _ hmm => k3 _ hmm; exact ztk; kernel_rfl) | ((with_reducible apply At.box (d := 2)); exact rfl; exact rfl; exact rfl; intro b2) | ((with_reducible apply At.box (d := 3)); exact rfl; exact rfl; exact rfl; intro b3) | ((with_reducible apply At.box (d := 39)); exact rfl; exact rfl; exact rfl; intro b39) | (refine zsp ?_ ?_ <;> (intro hc; (try simp only [zhcs, reduceCtorEq] at hc); (try (exfalso; first | (first | omega | exact absurd e1 hc) | contradiction | omega | exact absurd rfl hc | exact absurd (by decide) hc))))))
      all_goals ((with_reducible apply At.retV (B := [])); exact rfl; (repeat' (first | exact RVs.nil | (with_reducible apply RVs.cons) | exact rv_tmp (by rfl) | exact rv_cellN (by rfl) (by repeat constructor) (by rfl) (by rfl) (by rfl) | exact rv_cell1 (by rfl) (by repeat constructor) (by rfl) (by rfl))); exact zml; exact zkp; exact ⟨rfl, .inr ⟨fun h => e2 h.2.2.2.2, rfl, rfl⟩⟩)
  · have hf : fok k a.l b.l c.l := ⟨h0, g0 (by decide), g1 (by decide), g2 (by decide)⟩
    clear k1 k2 k3
    (repeat' (first | refine zss ?_ | refine zsM ?_ | ((with_reducible apply At.box (d := 2)); exact rfl; exact rfl; exact rfl; intro b2) | ((with_reducible apply At.box (d := 3)); exact rfl; exact rfl; exact rfl; intro b3) | ((with_reducible apply At.box (d := 39)); exact rfl; exact rfl; exact rfl; intro b39) | (refine zsp ?_ ?_ <;> (intro hc; (try simp only [zhcs, reduceCtorEq] at hc); (try (exfalso; first | omega | contradiction | omega | exact absurd rfl hc | exact absurd (by decide) hc))))))
    all_goals ((with_reducible apply At.retV (B := [.blk b39 122 (k.cells ++ [a.v, b.v, c.v])])); exact rfl; (repeat' (first | exact RVs.nil | (with_reducible apply RVs.cons) | exact rv_tmp (by rfl) | exact rv_cellN (by rfl) (by repeat constructor) (by rfl) (by rfl) (by rfl) | exact rv_cell1 (by rfl) (by repeat constructor) (by rfl) (by rfl))); exact zml; exact zkp; exact ⟨rfl, .inl ⟨hf, b39, rfl, rfl⟩⟩)
def fchk (k : Cfg) (a b c : List Slot) : Int := if fok k a b c then 0 else 2
theorem checkF {m : Mem} (k : Cfg) (a b c : Lst Slot) (ha : a.l.length ≤ 1000000) (hb : b.l.length ≤ 1000000) (hc0 : c.l.length ≤ 1000000) (ia : ∀ s ∈ a.l, Slot.In s) (ib : ∀ s ∈ b.l, Slot.In s) (ic : ∀ s ∈ c.l, Slot.In s)
    (sl0 : Sl m Slot.cells 15 a.p a.c a.l) (sl1 : Sl m Slot.cells 15 b.p b.c b.l) (sl2 : Sl m Slot.cells 15 c.p c.c c.l) :
    Rd Try.prog 52 #[k.v, t3v a b c] m [] (.int .i64 (fchk k a.l b.l c.l)) := by
  unfold Rd
  have k0 := openF k a b c ha hb hc0 ia ib ic sl0 sl1 sl2
  unfold fchk
  refine Ct.enterV (by rfl) Try.func52 rfl Try.ntmps52 rfl (fun w0 Rest => ?_)
  (repeat' (first | refine zss ?_ | refine zsM ?_ | ((with_reducible first | apply At.c1 | apply At.c0); exact rfl; exact rfl; exact k0; exact ztk; kernel_rfl; rintro v' m' B' hm' ⟨rfl, hv⟩; (try replace sl0 := sl0.mono hm'); (try replace sl1 := sl1.mono hm'); (try replace sl2 := sl2.mono hm'); (try (have hq0 : hm' = Mem.le_refl _ := rfl; clear hq0 hm'))) | (rcases hv with ⟨hv, q', rfl, rfl⟩ | ⟨hv, rfl, rfl⟩) | ((with_reducible apply At.box (d := 2)); exact rfl; exact rfl; exact rfl; intro b2) | ((with_reducible apply At.box (d := 3)); exact rfl; exact rfl; exact rfl; intro b3) | (refine zsp ?_ ?_ <;> (intro hc; (try simp only [zhcs, reduceCtorEq] at hc); (try (exfalso; first | contradiction | omega | exact absurd rfl hc | exact absurd (by decide) hc))))))
  · rw [if_pos hv]
    ((with_reducible apply At.retB1 (B := [])); exact rfl; exact rfl; exact zml; exact zkp; exact ⟨rfl, rfl, rfl⟩)
  · rw [if_neg hv]
    ((with_reducible apply At.retB1 (B := [])); exact rfl; exact rfl; exact zml; exact zkp; exact ⟨rfl, rfl, rfl⟩)
/-- all of it is gone -/
def dead (k : Cfg) (last now : Int) : Bool := decide k.ok && goneV last now k.a k.x && goneV last now k.b k.y && goneV last now k.d k.w
structure DS where
  (j : Nat) (q : Bool)
/-- what is told so far -/
def ex3 (b q1 q2 q3 : Bool) : Nat → Bool
  | 0 => b
  | 1 => b && q1
  | 2 => b && q1 && q2
  | _ => b && q1 && q2 && q3
theorem deadF (k : Cfg) (last now : Int) : Pu Try.prog 57 #[k.v, .int .i64 last, .int .i64 now] (.bool (dead k last now)) := Pu.intro fun m => by
  have k0 := Cfg.check k
  unfold Cfg.chk at k0
  unfold dead
  by_cases h0 : k.ok
  rotate_left
  · rw [if_neg h0] at k0
    rw [decide_eq_false h0, Bool.false_and, Bool.false_and, Bool.false_and]
    refine Ct.enterV (by rfl) Try.func57 rfl Try.ntmps57 rfl (fun w0 Rest => ?_)
    (repeat' (first | refine zss ?_ | refine zs0 ?_ | ((with_reducible first | apply AtM1.callp | apply AtQ.callp | apply At.callp); kernel_rfl; exact rfl; exact rfl; exact k0) | ((with_reducible apply At.box (d := 3)); exact rfl; exact rfl; exact rfl; intro b3) | (refine zsp ?_ ?_ <;> (intro hc; (try simp only [zhcs, reduceCtorEq] at hc); (try (exfalso; first | omega | contradiction | omega | exact absurd rfl hc | exact absurd (by decide) hc))))))
    (refine At.loopk (σ := Nat) [1, 2, 3] (fun s F0 => (8, .int .i64 0) :: (7, .bool false) :: F0) (fun s => m) (fun s => .blk b3 25 k.cells :: Rest) (fun s => True) (fun s => 0) 0 (by rfl) ?_ zsubs zml zente ?_)
    · trivial
    intro _ _
    (repeat' (first | refine zss ?_ | refine zs0 ?_ | ((with_reducible apply At.box (d := 3)); exact rfl; exact rfl; exact rfl; intro b3) | (refine zsp ?_ ?_ <;> (intro hc; (try simp only [zhcs, reduceCtorEq] at hc); (try (exfalso; first | omega | contradiction | omega | exact absurd rfl hc | exact absurd (by decide) hc))))))
    all_goals ((with_reducible apply At.retB1 (B := [])); exact rfl; exact rfl; exact zml; exact zkp; exact ⟨rfl, rfl, rfl⟩)
  rw [if_pos h0] at k0
  rw [decide_eq_true h0, Bool.true_and]
  have k1 := win_gone last now k.a k.x
  have k2 := win_gone last now k.b k.y
  have k3 := win_gone last now k.d k.w
  generalize goneV last now k.a k.x = q1 at k1 ⊢
  generalize goneV last now k.b k.y = q2 at k2 ⊢
  generalize goneV last now k.d k.w = q3 at k3 ⊢
  clear h0
  refine Ct.enterV (by rfl) Try.func57 rfl Try.ntmps57 rfl (fun w0 Rest => ?_)
  (repeat' (first | refine zss ?_ | refine zs0 ?_ | ((with_reducible first | apply AtM1.callp | apply AtQ.callp | apply At.callp); kernel_rfl; exact rfl; exact rfl; exact k0) | ((with_reducible apply At.box (d := 3)); exact rfl; exact rfl; exact rfl; intro b3) | (refine zsp ?_ ?_ <;> (intro hc; (try simp only [zhcs, reduceCtorEq] at hc); (try (exfalso; first | omega | contradiction | omega | exact absurd rfl hc | exact absurd (by decide) hc))))))
  (refine At.loopk (σ := DS) [1, 2, 3] (fun s F0 => (8, .int .i64 (s.j : Int)) :: (7, .bool s.q) :: F0) (fun s => m) (fun s => .blk b3 25 k.cells :: Rest) (fun s => s.j ≤ 3 ∧ s.q = ex3 true q1 q2 q3 s.j) (fun s => 3 - s.j) ⟨0, true⟩ (by rfl) ?_ zsubs zml zente ?_)
  · exact ⟨Nat.zero_le _, rfl⟩
  rintro ⟨j, q⟩ ⟨hs, e⟩
  dsimp only at hs e ⊢
  rcases (show j = 0 ∨ j = 1 ∨ j = 2 ∨ j = 3 by omega) with rfl | rfl | rfl | rfl
  · obtain rfl : q = true := e
    (repeat' (first | refine zss ?_ | ((first | (with_reducible first | apply At.val | apply AtQ.val)); (exact pr_indexArr (k := 0) (by rfl) (by rfl) (by rfl) (by rfl) (by decide)); exact rfl) | refine zs0 ?_ | ((with_reducible first | apply AtM1.callp | apply AtQ.callp | apply At.callp); kernel_rfl; exact rfl; exact rfl; exact k1) | ((with_reducible apply At.box (d := 3)); exact rfl; exact rfl; exact rfl; intro b3) | (refine zsp ?_ ?_ <;> (intro hc; (try simp only [zhcs, reduceCtorEq] at hc); (try (exfalso; first | (first | omega | exact absurd rfl hc) | contradiction | omega | exact absurd rfl hc | exact absurd (by decide) hc))))))
    all_goals ((with_reducible refine At.reachk (⟨1, q1⟩) ?_ ?_ ?_ ?_); exact zsubs; exact zml; exact zente; exact ⟨⟨(by decide : 1 ≤ 3), rfl⟩, (by decide : 2 < 3)⟩)
  · obtain rfl : q = q1 := e
    cases q
    · (repeat' (first | refine zss ?_ | refine zs0 ?_ | ((with_reducible apply At.box (d := 3)); exact rfl; exact rfl; exact rfl; intro b3) | (refine zsp ?_ ?_ <;> (intro hc; (try simp only [zhcs, reduceCtorEq] at hc); (try (exfalso; first | (first | omega | exact absurd rfl hc) | contradiction | omega | exact absurd rfl hc | exact absurd (by decide) hc))))))
      all_goals ((with_reducible apply At.retB1 (B := [])); exact rfl; exact rfl; exact zml; exact zkp; exact ⟨rfl, rfl, rfl⟩)
    · (repeat' (first | refine zss ?_ | ((first | (with_reducible first | apply At.val | apply AtQ.val)); (exact pr_indexArr (k := 1) (by rfl) (by rfl) (by rfl) (by rfl) (by decide)); exact rfl) | refine zs0 ?_ | ((with_reducible first | apply AtM1.callp | apply AtQ.callp | apply At.callp); kernel_rfl; exact rfl; exact rfl; exact k2) | ((with_reducible apply At.box (d := 3)); exact rfl; exact rfl; exact rfl; intro b3) | (refine zsp ?_ ?_ <;> (intro hc; (try simp only [zhcs, reduceCtorEq] at hc); (try (exfalso; first | (first | omega | exact absurd rfl hc) | contradiction | omega | exact absurd rfl hc | exact absurd (by decide) hc))))))
      all_goals ((with_reducible refine At.reachk (⟨2, q2⟩) ?_ ?_ ?_ ?_); exact zsubs; exact zml; exact zente; exact ⟨⟨(by decide : 2 ≤ 3), rfl⟩, (by decide : 1 < 2)⟩)
  · replace e : q = (q1 && q2) := e
    rw [← e]
    cases q
    · (repeat' (first | refine zss ?_ | refine zs0 ?_ | ((with_reducible apply At.box (d := 3)); exact rfl; exact rfl; exact rfl; intro b3) | (refine zsp ?_ ?_ <;> (intro hc; (try simp only [zhcs, reduceCtorEq] at hc); (try (exfalso; first | (first | omega | exact absurd rfl hc) | contradiction | omega | exact absurd rfl hc | exact absurd (by decide) hc))))))
      all_goals ((with_reducible apply At.retB1 (B := [])); exact rfl; exact rfl; exact zml; exact zkp; exact ⟨rfl, rfl, rfl⟩)
    · (repeat' (first | refine zss ?_ | ((first | (with_reducible first | apply At.val | apply AtQ.val)); (exact pr_indexArr (k := 2) (by rfl) (by rfl) (by rfl) (by rfl) (by decide)); exact rfl) | refine zs0 ?_ | ((with_reducible first | apply AtM1.callp | apply AtQ.callp | apply At.callp); kernel_rfl; exact rfl; exact rfl; exact k3) | ((with_reducible apply At.box (d := 3)); exact rfl; exact rfl; exact rfl; intro b3) | (refine zsp ?_ ?_ <;> (intro hc; (try simp only [zhcs, reduceCtorEq] at hc); (try (exfalso; first | (first | omega | exact absurd rfl hc) | contradiction | omega | exact absurd rfl hc | exact absurd (by decide) hc))))))
      all_goals ((with_reducible refine At.reachk (⟨3, q3⟩) ?_ ?_ ?_ ?_); exact zsubs; exact zml; exact zente; exact ⟨⟨(by decide : 3 ≤ 3), by show q3 = (q1 && q2 && q3); rw [← e]; rfl⟩, (by decide : 0 < 1)⟩)
  · replace e : q = (q1 && q2 && q3) := e
    rw [← e]
    cases q
    · (repeat' (first | refine zss ?_ | refine zs0 ?_ | ((with_reducible apply At.box (d := 3)); exact rfl; exact rfl; exact rfl; intro b3) | (refine zsp ?_ ?_ <;> (intro hc; (try simp only [zhcs, reduceCtorEq] at hc); (try (exfalso; first | (first | omega | exact absurd rfl hc) | contradiction | omega | exact absurd rfl hc | exact absurd (by decide) hc))))))
      all_goals ((with_reducible apply At.retB1 (B := [])); exact rfl; exact rfl; exact zml; exact zkp; exact ⟨rfl, rfl, rfl⟩)
    · (repeat' (first | refine zss ?_ | refine zs0 ?_ | ((with_reducible apply At.box (d := 3)); exact rfl; exact rfl; exact rfl; intro b3) | (refine zsp ?_ ?_ <;> (intro hc; (try simp only [zhcs, reduceCtorEq] at hc); (try (exfalso; first | (first | omega | exact absurd rfl hc) | contradiction | omega | exact absurd rfl hc | exact absurd (by decide) hc))))))
      all_goals ((with_reducible apply At.retB1 (B := [])); exact rfl; exact rfl; exact zml; exact zkp; exact ⟨rfl, rfl, rfl⟩)
end Se
end Go.Proofs.Ytecifniognbomaa

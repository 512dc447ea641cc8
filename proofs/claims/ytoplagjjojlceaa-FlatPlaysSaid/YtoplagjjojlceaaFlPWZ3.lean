/- Part 3 of what the law's proof needs: rules of the walk, contracts of functions, plain laws. No condition. -/
import Derived.Test.YtoplagjjojlceaaFlPWZ2
import Derived.Test.YtoplagjjojlceaaRows
import Derived.MapKept
/- The contracts of labels: Check, Value, Same, Small; the document's. -/
set_option linter.unusedSimpArgs false
set_option linter.unusedVariables false
set_option linter.unusedSectionVars false
set_option maxRecDepth 20000
set_option maxHeartbeats 4000000
namespace Go.Proofs.Ytoplagjjojlceaa
open Go Go.J
attribute [local irreducible] At AtQ AtM AtM1 PR Ct Pu Rd Res.blk Res.own Res.ex RVs RV
namespace Lb
/-- texts no longer than any can be -/
def Mid (l : List Lab) : Prop := ∀ i, i < l.length → l[i]!.n.length ≤ 1000000000000 ∧ l[i]!.v.length ≤ 1000000000000
theorem check {m : Mem} (p : Option Addr) (c : Nat) (l : List Lab) (hb : Mid l) (sl0 : Sl m cells 2 p c l) :
    Rd Try.prog 24 #[.slice p l.length c] m [] (.int .i64 (chk l)) := by
  unfold Rd
  by_cases hlen : l.length < 1 ∨ 16 < l.length
  · rw [bad_len hlen]
    refine Ct.enterV (by rfl) Try.func24 rfl Try.ntmps24 rfl (fun w0 Rest => ?_)
    (repeat' (first | refine zss ?_ | refine zsM ?_ | ((with_reducible apply At.alloc (d := 5)); exact rfl; exact rfl; intro b5) | (refine zsp ?_ ?_ <;> (intro hc; (try simp only [zhcs, reduceCtorEq] at hc); (try (exfalso; first | omega | contradiction | omega | exact absurd rfl hc | exact absurd (by decide) hc))))))
    all_goals ((with_reducible apply At.retB1 (B := [])); exact rfl; exact rfl; exact zml; exact zkp; exact ⟨rfl, rfl, rfl⟩)
  refine Ct.enterV (by rfl) Try.func24 rfl Try.ntmps24 rfl (fun w0 Rest => ?_)
  (repeat' (first | refine zss ?_ | refine zsM ?_ | ((with_reducible apply At.alloc (d := 5)); exact rfl; exact rfl; intro b5) | (refine zsp ?_ ?_ <;> (intro hc; (try simp only [zhcs, reduceCtorEq] at hc); (try (exfalso; first | omega | contradiction | omega | exact absurd rfl hc | exact absurd (by decide) hc))))))
  all_goals
    (refine At.loopk (σ := Nat) [0, 14, 15] (fun s F0 => (3, .int .i64 (256 - (tot (l.take s) : Int))) :: (16, .int .i64 (s : Int)) :: F0) (fun s => m) (fun s => Rest) (fun s => s ≤ l.length ∧ (∀ i, i < s → okAt l i = true) ∧ tot (l.take s) ≤ 256) (fun s => l.length - s) 0 (by rfl) ?_ zsubs zml zente ?_)
    · exact ⟨Nat.zero_le _, fun i h => absurd h (Nat.not_lt_zero i), by simp [tot]⟩
    rintro j ⟨hj, hn, ht⟩
    by_cases h : j < l.length
    · have hp := name (l[j]!.n)
      have hb1 := (hb j h).1
      have hb2 := (hb j h).2
      have htt := tot_take h
      cases e1 : nameB l[j]!.n with
      | false =>
        rw [e1] at hp
        rw [bad_at h fun k => absurd (k.1.symm.trans e1) (by decide)]
        (repeat' (first | refine zss ?_ | refine zsM ?_ | ((with_reducible first | apply AtM1.callp | apply AtQ.callp | apply At.callp); kernel_rfl; exact rfl; exact rfl; exact hp) | ((with_reducible apply At.alloc (d := 5)); exact rfl; exact rfl; intro b5) | (refine zsp ?_ ?_ <;> (intro hc; (try simp only [zhcs, reduceCtorEq] at hc); (try (exfalso; first | omega | contradiction | omega | exact absurd rfl hc | exact absurd (by decide) hc))))))
        all_goals ((with_reducible apply At.retB1 (B := [])); exact rfl; exact rfl; exact zml; exact zkp; exact ⟨rfl, rfl, rfl⟩)
      | true =>
        rw [e1] at hp
        by_cases e2 : l[j]!.v.length ≤ 128
        · by_cases e3 : tot (l.take (j + 1)) ≤ 256
          · cases j with
            | zero =>
              (repeat' (first | refine zss ?_ | refine zsM ?_ | ((with_reducible first | apply AtM1.callp | apply AtQ.callp | apply At.callp); kernel_rfl; exact rfl; exact rfl; exact hp) | ((with_reducible apply At.alloc (d := 5)); exact rfl; exact rfl; intro b5) | (refine zsp ?_ ?_ <;> (intro hc; (try simp only [zhcs, reduceCtorEq] at hc); (try (exfalso; first | omega | contradiction | omega | exact absurd rfl hc | exact absurd (by decide) hc))))))
              all_goals ((with_reducible refine At.reachk ((0 + 1)) ?_ ?_ ?_ ?_); exact zsubs; exact zml; exact zente; exact ⟨⟨h, fun i hi => by
                obtain rfl : i = 0 := by omega
                exact decide_eq_true ⟨e1, e2, fun k => absurd k (Nat.lt_irrefl 0)⟩, e3⟩, by omega⟩)
            | succ k =>
              have hw : IntKind.wrap .i64 (((k + 1 : Nat) : Int) - 1) = (k : Int) := by rw [show ((k + 1 : Nat) : Int) - 1 = (k : Int) by omega]; exact IntWalk.i64_in _ (by omega)
              cases e4 : ltB l[k]!.n l[k + 1]!.n with
              | true =>
                (repeat' (first | refine zss ?_ | ((first | (with_reducible first | apply At.val | apply AtQ.val)); (first | exact pr_sub (by rfl) (by rfl) hw | exact pr_strgeq (by rfl) (by rfl) e4); exact rfl) | refine zsM ?_ | ((with_reducible first | apply AtM1.callp | apply AtQ.callp | apply At.callp); kernel_rfl; exact rfl; exact rfl; exact hp) | ((with_reducible apply At.alloc (d := 5)); exact rfl; exact rfl; intro b5) | (refine zsp ?_ ?_ <;> (intro hc; (try simp only [zhcs, reduceCtorEq] at hc); (try (exfalso; first | omega | contradiction | omega | exact absurd rfl hc | exact absurd (by decide) hc))))))
                all_goals ((with_reducible refine At.reachk ((k + 1 + 1)) ?_ ?_ ?_ ?_); exact zsubs; exact zml; exact zente; exact ⟨⟨h, fun i hi => by
                  by_cases e : i = k + 1
                  · subst e; exact decide_eq_true ⟨e1, e2, fun _ => e4⟩
                  · exact hn i (by omega), e3⟩, by omega⟩)
              | false =>
                rw [bad_at h fun q => absurd ((q.2.2 (by omega)).symm.trans e4) (by decide)]
                (repeat' (first | refine zss ?_ | ((first | (with_reducible first | apply At.val | apply AtQ.val)); (first | exact pr_sub (by rfl) (by rfl) hw | exact pr_strgeq (by rfl) (by rfl) e4); exact rfl) | refine zsM ?_ | ((with_reducible first | apply AtM1.callp | apply AtQ.callp | apply At.callp); kernel_rfl; exact rfl; exact rfl; exact hp) | ((with_reducible apply At.alloc (d := 5)); exact rfl; exact rfl; intro b5) | (refine zsp ?_ ?_ <;> (intro hc; (try simp only [zhcs, reduceCtorEq] at hc); (try (exfalso; first | omega | contradiction | omega | exact absurd rfl hc | exact absurd (by decide) hc))))))
                all_goals ((with_reducible apply At.retB1 (B := [])); exact rfl; exact rfl; exact zml; exact zkp; exact ⟨rfl, rfl, rfl⟩)
          · rw [bad_tot (show 256 < tot (l.take (j + 1)) by omega)]
            (repeat' (first | refine zss ?_ | refine zsM ?_ | ((with_reducible first | apply AtM1.callp | apply AtQ.callp | apply At.callp); kernel_rfl; exact rfl; exact rfl; exact hp) | ((with_reducible apply At.alloc (d := 5)); exact rfl; exact rfl; intro b5) | (refine zsp ?_ ?_ <;> (intro hc; (try simp only [zhcs, reduceCtorEq] at hc); (try (exfalso; first | omega | contradiction | omega | exact absurd rfl hc | exact absurd (by decide) hc))))))
            all_goals ((with_reducible apply At.retB1 (B := [])); exact rfl; exact rfl; exact zml; exact zkp; exact ⟨rfl, rfl, rfl⟩)
        · rw [bad_at h fun k => e2 k.2.1]
          (repeat' (first | refine zss ?_ | refine zsM ?_ | ((with_reducible first | apply AtM1.callp | apply AtQ.callp | apply At.callp); kernel_rfl; exact rfl; exact rfl; exact hp) | ((with_reducible apply At.alloc (d := 5)); exact rfl; exact rfl; intro b5) | (refine zsp ?_ ?_ <;> (intro hc; (try simp only [zhcs, reduceCtorEq] at hc); (try (exfalso; first | omega | contradiction | omega | exact absurd rfl hc | exact absurd (by decide) hc))))))
          all_goals ((with_reducible apply At.retB1 (B := [])); exact rfl; exact rfl; exact zml; exact zkp; exact ⟨rfl, rfl, rfl⟩)
    · have hlj : l.take j = l := List.take_of_length_le (by omega)
      rw [chk_ok ⟨by omega, by omega, fun i hi => hn i (by omega), by rw [← hlj]; exact ht⟩]
      (repeat' (first | refine zss ?_ | refine zsM ?_ | ((with_reducible apply At.alloc (d := 5)); exact rfl; exact rfl; intro b5) | (refine zsp ?_ ?_ <;> (intro hc; (try simp only [zhcs, reduceCtorEq] at hc); (try (exfalso; first | omega | contradiction | omega | exact absurd rfl hc | exact absurd (by decide) hc))))))
      all_goals ((with_reducible apply At.retB1 (B := [])); exact rfl; exact rfl; exact zml; exact zkp; exact ⟨rfl, rfl, rfl⟩)
theorem rcheck {m : Mem} (p : Option Addr) (c : Nat) (l : List Lab) (hb : Mid l) (sl0 : Sl m cells 2 p c l) :
    Rd Try.prog 21 #[.slice p l.length c] m [] (.int .i64 (chk l)) := by
  unfold Rd
  by_cases hlen : l.length < 1 ∨ 16 < l.length
  · rw [bad_len hlen]
    refine Ct.enterV (by rfl) Try.func21 rfl Try.ntmps21 rfl (fun w0 Rest => ?_)
    (repeat' (first | refine zss ?_ | refine zsM ?_ | ((with_reducible apply At.alloc (d := 5)); exact rfl; exact rfl; intro b5) | (refine zsp ?_ ?_ <;> (intro hc; (try simp only [zhcs, reduceCtorEq] at hc); (try (exfalso; first | omega | contradiction | omega | exact absurd rfl hc | exact absurd (by decide) hc))))))
    all_goals ((with_reducible apply At.retB1 (B := [])); exact rfl; exact rfl; exact zml; exact zkp; exact ⟨rfl, rfl, rfl⟩)
  refine Ct.enterV (by rfl) Try.func21 rfl Try.ntmps21 rfl (fun w0 Rest => ?_)
  (repeat' (first | refine zss ?_ | refine zsM ?_ | ((with_reducible apply At.alloc (d := 5)); exact rfl; exact rfl; intro b5) | (refine zsp ?_ ?_ <;> (intro hc; (try simp only [zhcs, reduceCtorEq] at hc); (try (exfalso; first | omega | contradiction | omega | exact absurd rfl hc | exact absurd (by decide) hc))))))
  all_goals
    (refine At.loopk (σ := Nat) [0, 14, 15] (fun s F0 => (3, .int .i64 (tot (l.take s) : Int)) :: (16, .int .i64 (s : Int)) :: F0) (fun s => m) (fun s => Rest) (fun s => s ≤ l.length ∧ (∀ i, i < s → okAt l i = true) ∧ tot (l.take s) ≤ 200 * s) (fun s => l.length - s) 0 (by rfl) ?_ zsubs zml zente ?_)
    · exact ⟨Nat.zero_le _, fun i h => absurd h (Nat.not_lt_zero i), by simp [tot]⟩
    rintro j ⟨hj, hn, ht⟩
    by_cases h : j < l.length
    · have hp := rname (l[j]!.n)
      have hb1 := (hb j h).1
      have hb2 := (hb j h).2
      have htt := tot_take h
      cases e1 : nameB l[j]!.n with
      | false =>
        rw [e1] at hp
        rw [bad_at h fun k => absurd (k.1.symm.trans e1) (by decide)]
        (repeat' (first | refine zss ?_ | refine zsM ?_ | ((with_reducible first | apply AtM1.callp | apply AtQ.callp | apply At.callp); kernel_rfl; exact rfl; exact rfl; exact hp) | ((with_reducible apply At.alloc (d := 5)); exact rfl; exact rfl; intro b5) | (refine zsp ?_ ?_ <;> (intro hc; (try simp only [zhcs, reduceCtorEq] at hc); (try (exfalso; first | omega | contradiction | omega | exact absurd rfl hc | exact absurd (by decide) hc))))))
        all_goals ((with_reducible apply At.retB1 (B := [])); exact rfl; exact rfl; exact zml; exact zkp; exact ⟨rfl, rfl, rfl⟩)
      | true =>
        rw [e1] at hp
        have e0 := (of_decide_eq_true e1).2.1
        by_cases e2 : l[j]!.v.length ≤ 128
        · cases j with
          | zero =>
            (repeat' (first | refine zss ?_ | refine zsM ?_ | ((with_reducible first | apply AtM1.callp | apply AtQ.callp | apply At.callp); kernel_rfl; exact rfl; exact rfl; exact hp) | ((with_reducible apply At.alloc (d := 5)); exact rfl; exact rfl; intro b5) | (refine zsp ?_ ?_ <;> (intro hc; (try simp only [zhcs, reduceCtorEq] at hc); (try (exfalso; first | omega | contradiction | omega | exact absurd rfl hc | exact absurd (by decide) hc))))))
            all_goals ((with_reducible refine At.reachk ((0 + 1)) ?_ ?_ ?_ ?_); exact zsubs; exact zml; exact zente; exact ⟨⟨h, fun i hi => by
              obtain rfl : i = 0 := by omega
              exact decide_eq_true ⟨e1, e2, fun k => absurd k (Nat.lt_irrefl 0)⟩, by omega⟩, by omega⟩)
          | succ k =>
            have hw : IntKind.wrap .i64 (((k + 1 : Nat) : Int) - 1) = (k : Int) := by rw [show ((k + 1 : Nat) : Int) - 1 = (k : Int) by omega]; exact IntWalk.i64_in _ (by omega)
            cases e4 : ltB l[k]!.n l[k + 1]!.n with
            | true =>
              (repeat' (first | refine zss ?_ | ((first | (with_reducible first | apply At.val | apply AtQ.val)); (first | exact pr_sub (by rfl) (by rfl) hw | exact pr_strgeq (by rfl) (by rfl) e4); exact rfl) | refine zsM ?_ | ((with_reducible first | apply AtM1.callp | apply AtQ.callp | apply At.callp); kernel_rfl; exact rfl; exact rfl; exact hp) | ((with_reducible apply At.alloc (d := 5)); exact rfl; exact rfl; intro b5) | (refine zsp ?_ ?_ <;> (intro hc; (try simp only [zhcs, reduceCtorEq] at hc); (try (exfalso; first | omega | contradiction | omega | exact absurd rfl hc | exact absurd (by decide) hc))))))
              all_goals ((with_reducible refine At.reachk ((k + 1 + 1)) ?_ ?_ ?_ ?_); exact zsubs; exact zml; exact zente; exact ⟨⟨h, fun i hi => by
                by_cases e : i = k + 1
                · subst e; exact decide_eq_true ⟨e1, e2, fun _ => e4⟩
                · exact hn i (by omega), by omega⟩, by omega⟩)
            | false =>
              rw [bad_at h fun q => absurd ((q.2.2 (by omega)).symm.trans e4) (by decide)]
              (repeat' (first | refine zss ?_ | ((first | (with_reducible first | apply At.val | apply AtQ.val)); (first | exact pr_sub (by rfl) (by rfl) hw | exact pr_strgeq (by rfl) (by rfl) e4); exact rfl) | refine zsM ?_ | ((with_reducible first | apply AtM1.callp | apply AtQ.callp | apply At.callp); kernel_rfl; exact rfl; exact rfl; exact hp) | ((with_reducible apply At.alloc (d := 5)); exact rfl; exact rfl; intro b5) | (refine zsp ?_ ?_ <;> (intro hc; (try simp only [zhcs, reduceCtorEq] at hc); (try (exfalso; first | omega | contradiction | omega | exact absurd rfl hc | exact absurd (by decide) hc))))))
              all_goals ((with_reducible apply At.retB1 (B := [])); exact rfl; exact rfl; exact zml; exact zkp; exact ⟨rfl, rfl, rfl⟩)
        · rw [bad_at h fun k => e2 k.2.1]
          (repeat' (first | refine zss ?_ | refine zsM ?_ | ((with_reducible first | apply AtM1.callp | apply AtQ.callp | apply At.callp); kernel_rfl; exact rfl; exact rfl; exact hp) | ((with_reducible apply At.alloc (d := 5)); exact rfl; exact rfl; intro b5) | (refine zsp ?_ ?_ <;> (intro hc; (try simp only [zhcs, reduceCtorEq] at hc); (try (exfalso; first | omega | contradiction | omega | exact absurd rfl hc | exact absurd (by decide) hc))))))
          all_goals ((with_reducible apply At.retB1 (B := [])); exact rfl; exact rfl; exact zml; exact zkp; exact ⟨rfl, rfl, rfl⟩)
    · have hlj : l.take j = l := List.take_of_length_le (by omega)
      by_cases e3 : tot (l.take j) ≤ 256
      · rw [chk_ok ⟨by omega, by omega, fun i hi => hn i (by omega), by rw [← hlj]; exact e3⟩]
        (repeat' (first | refine zss ?_ | refine zsM ?_ | ((with_reducible apply At.alloc (d := 5)); exact rfl; exact rfl; intro b5) | (refine zsp ?_ ?_ <;> (intro hc; (try simp only [zhcs, reduceCtorEq] at hc); (try (exfalso; first | omega | contradiction | omega | exact absurd rfl hc | exact absurd (by decide) hc))))))
        all_goals ((with_reducible apply At.retB1 (B := [])); exact rfl; exact rfl; exact zml; exact zkp; exact ⟨rfl, rfl, rfl⟩)
      · rw [bad_tot (show 256 < tot (l.take j) by omega)]
        (repeat' (first | refine zss ?_ | refine zsM ?_ | ((with_reducible apply At.alloc (d := 5)); exact rfl; exact rfl; intro b5) | (refine zsp ?_ ?_ <;> (intro hc; (try simp only [zhcs, reduceCtorEq] at hc); (try (exfalso; first | omega | contradiction | omega | exact absurd rfl hc | exact absurd (by decide) hc))))))
        all_goals ((with_reducible apply At.retB1 (B := [])); exact rfl; exact rfl; exact zml; exact zkp; exact ⟨rfl, rfl, rfl⟩)
abbrev pt (b : Nat) : Value := .pointer (some ⟨b, 0, none⟩)
abbrev bx (b : Nat) (t : List UInt8) : List Res := [.blk b 9 [.string (str t)]]
theorem rsame {m : Mem} (p : Option Addr) (c : Nat) (a : List Lab) (q : Option Addr) (d : Nat) (b : List Lab) (hl : a.length ≤ 1000000000) (hlb : b.length ≤ 1000000000) (sl0 : Sl m cells 2 p c a) (sl1 : Sl m cells 2 q d b) :
    Rd Try.prog 20 #[.slice p a.length c, .slice q b.length d] m [] (.bool (decide (a = b))) := by
  unfold Rd
  by_cases hlen : a.length = b.length
  · refine Ct.enterV (by rfl) Try.func20 rfl Try.ntmps20 rfl (fun w0 Rest => ?_)
    (repeat' (first | refine zss ?_ | refine zsM ?_ | (refine zsp ?_ ?_ <;> (intro hc; (try simp only [zhcs, reduceCtorEq] at hc); (try (exfalso; first | omega | contradiction | omega | exact absurd rfl hc | exact absurd (by decide) hc))))))
    (refine At.loopk (σ := Nat) [0, 1, 12] (fun s F0 => (13, .int .i64 (s : Int)) :: F0) (fun s => m) (fun s => Rest) (fun s => s ≤ a.length ∧ ∀ i, i < s → a[i]! = b[i]!) (fun s => a.length - s) 0 (by rfl) ?_ zsubs zml zente ?_)
    · exact ⟨Nat.zero_le _, fun i h => absurd h (Nat.not_lt_zero i)⟩
    rintro s ⟨hs, hn⟩
    by_cases h : s < a.length
    · by_cases e : a[s]! = b[s]!
      · have hnn : ∀ i, i < s + 1 → a[i]! = b[i]! := fun i hi => by
          by_cases e1 : i = s
          · subst e1; exact e
          · exact hn i (by omega)
        (repeat' (first | refine zss ?_ | ((first | (with_reducible first | apply At.val | apply AtQ.val)); (exact pr_lbne (by rfl) (by rfl)); exact rfl) | refine zsM ?_ | (refine zsp ?_ ?_ <;> (intro hc; (try simp only [zhcs, reduceCtorEq] at hc); (try (exfalso; first | (first | omega | exact absurd e hc) | contradiction | omega | exact absurd rfl hc | exact absurd (by decide) hc))))))
        all_goals ((with_reducible refine At.reachk ((s + 1)) ?_ ?_ ?_ ?_); exact zsubs; exact zml; exact zente; exact ⟨⟨h, hnn⟩, by omega⟩)
      · rw [decide_eq_false (show ¬ a = b from fun h => e (by rw [h]))]
        (repeat' (first | refine zss ?_ | ((first | (with_reducible first | apply At.val | apply AtQ.val)); (exact pr_lbne (by rfl) (by rfl)); exact rfl) | refine zsM ?_ | (refine zsp ?_ ?_ <;> (intro hc; (try simp only [zhcs, reduceCtorEq] at hc); (try (exfalso; first | (first | omega | exact absurd hc e) | contradiction | omega | exact absurd rfl hc | exact absurd (by decide) hc))))))
        all_goals ((with_reducible apply At.retB1 (B := [])); exact rfl; exact rfl; exact zml; exact zkp; exact ⟨rfl, rfl, rfl⟩)
    · rw [decide_eq_true (show a = b from Ls.ext! hlen fun i hi => hn i (by omega))]
      (repeat' (first | refine zss ?_ | refine zsM ?_ | (refine zsp ?_ ?_ <;> (intro hc; (try simp only [zhcs, reduceCtorEq] at hc); (try (exfalso; first | omega | contradiction | omega | exact absurd rfl hc | exact absurd (by decide) hc))))))
      all_goals ((with_reducible apply At.retB1 (B := [])); exact rfl; exact rfl; exact zml; exact zkp; exact ⟨rfl, rfl, rfl⟩)
  · rw [decide_eq_false (show ¬ a = b from fun h => hlen (by rw [h]))]
    refine Ct.enterV (by rfl) Try.func20 rfl Try.ntmps20 rfl (fun w0 Rest => ?_)
    (repeat' (first | refine zss ?_ | refine zsM ?_ | (refine zsp ?_ ?_ <;> (intro hc; (try simp only [zhcs, reduceCtorEq] at hc); (try (exfalso; first | omega | contradiction | omega | exact absurd rfl hc | exact absurd (by decide) hc))))))
    all_goals ((with_reducible apply At.retB1 (B := [])); exact rfl; exact rfl; exact zml; exact zkp; exact ⟨rfl, rfl, rfl⟩)
theorem small {m : Mem} (p : Option Addr) (c : Nat) (l : List Lab) (sl0 : Sl m cells 2 p c l) :
    Rd Try.prog 6 #[.slice p l.length c] m [] (.int .i64 (if few l then 1 else 0)) := by
  unfold Rd
  refine Ct.enterV (by rfl) Try.func6 rfl Try.ntmps6 rfl (fun w0 Rest => ?_)
  (repeat' (first | refine zss ?_ | refine zsM ?_ | ((with_reducible apply At.alloc (d := 4)); exact rfl; exact rfl; intro b4) | (refine zsp ?_ ?_ <;> (intro hc; (try simp only [zhcs, reduceCtorEq] at hc); (try (exfalso; first | contradiction | omega | exact absurd rfl hc | exact absurd (by decide) hc))))))
  (refine At.loopk (σ := Nat) [5, 6] (fun s F0 => (7, .int .i64 (s : Int)) :: F0) (fun s => m) (fun s => Rest) (fun s => s ≤ l.length ∧ s ≤ 40 ∧ ∀ i, i < s → l[i]!.n.length ≤ 1000 ∧ l[i]!.v.length ≤ 1000) (fun s => l.length - s) 0 (by rfl) ?_ zsubs zml zente ?_)
  · exact ⟨Nat.zero_le _, Nat.zero_le _, fun i h => absurd h (Nat.not_lt_zero i)⟩
  rintro j ⟨hj, h40, hn⟩
  by_cases h : j < l.length
  · by_cases e0 : j = 40
    · rw [if_neg (show ¬ few l from fun k => by have := k.1; omega)]
      (repeat' (first | refine zss ?_ | refine zsM ?_ | ((with_reducible apply At.alloc (d := 4)); exact rfl; exact rfl; intro b4) | (refine zsp ?_ ?_ <;> (intro hc; (try simp only [zhcs, reduceCtorEq] at hc); (try (exfalso; first | omega | contradiction | omega | exact absurd rfl hc | exact absurd (by decide) hc))))))
      all_goals ((with_reducible apply At.retB1 (B := [])); exact rfl; exact rfl; exact zml; exact zkp; exact ⟨rfl, rfl, rfl⟩)
    by_cases e : l[j]!.n.length ≤ 1000 ∧ l[j]!.v.length ≤ 1000
    · (repeat' (first | refine zss ?_ | refine zsM ?_ | ((with_reducible apply At.alloc (d := 4)); exact rfl; exact rfl; intro b4) | (refine zsp ?_ ?_ <;> (intro hc; (try simp only [zhcs, reduceCtorEq] at hc); (try (exfalso; first | omega | contradiction | omega | exact absurd rfl hc | exact absurd (by decide) hc))))))
      all_goals ((with_reducible refine At.reachk ((j + 1)) ?_ ?_ ?_ ?_); exact zsubs; exact zml; exact zente; exact ⟨⟨h, by omega, fun i hi => by
        by_cases e1 : i = j
        · subst e1; exact e
        · exact hn i (by omega)⟩, by omega⟩)
    · rw [if_neg (show ¬ few l from fun k => e (k.2 j h))]
      (repeat' (first | refine zss ?_ | refine zsM ?_ | ((with_reducible apply At.alloc (d := 4)); exact rfl; exact rfl; intro b4) | (refine zsp ?_ ?_ <;> (intro hc; (try simp only [zhcs, reduceCtorEq] at hc); (try (exfalso; first | omega | contradiction | omega | exact absurd rfl hc | exact absurd (by decide) hc))))))
      all_goals ((with_reducible apply At.retB1 (B := [])); exact rfl; exact rfl; exact zml; exact zkp; exact ⟨rfl, rfl, rfl⟩)
  · rw [if_pos (show few l from ⟨by omega, fun i hi => hn i (by omega)⟩)]
    (repeat' (first | refine zss ?_ | refine zsM ?_ | ((with_reducible apply At.alloc (d := 4)); exact rfl; exact rfl; intro b4) | (refine zsp ?_ ?_ <;> (intro hc; (try simp only [zhcs, reduceCtorEq] at hc); (try (exfalso; first | omega | contradiction | omega | exact absurd rfl hc | exact absurd (by decide) hc))))))
    all_goals ((with_reducible apply At.retB1 (B := [])); exact rfl; exact rfl; exact zml; exact zkp; exact ⟨rfl, rfl, rfl⟩)
theorem Mid.of {l : List Lab} (h : ∀ x ∈ l, x.n.length ≤ 1000000000000 ∧ x.v.length ≤ 1000000000000) : Mid l := fun i hi => h _ (Ls.mem! hi)
theorem few.mid {l : List Lab} (h : few l) : Mid l := fun i hi => by have := h.2 i hi; omega
end Lb
end Go.Proofs.Ytoplagjjojlceaa
/- Labels in their order (plain), as one by one is put in. -/
set_option linter.unusedSimpArgs false
set_option linter.unusedVariables false
set_option linter.unusedSectionVars false
set_option maxRecDepth 20000
set_option maxHeartbeats 4000000
namespace Go.Proofs.Ytoplagjjojlceaa
open Go Go.J
namespace Lb
/-- where a name goes, from so far down -/
def atF (P : List Lab) (t : List UInt8) : Nat → Nat
  | 0 => 0
  | k + 1 => if ltB t P[k]!.n = true then atF P t k else k + 1
theorem atF_le (P : List Lab) (t : List UInt8) : ∀ k, atF P t k ≤ k
  | 0 => Nat.le_refl 0
  | k + 1 => by
    unfold atF
    split
    · exact Nat.le_succ_of_le (atF_le P t k)
    · exact Nat.le_refl _
theorem atF_dn {P : List Lab} {t : List UInt8} {k : Nat} (h : ltB t P[k]!.n = true) : atF P t (k + 1) = atF P t k := by
  show (if _ then _ else _) = _; rw [if_pos h]
theorem atF_st {P : List Lab} {t : List UInt8} {k : Nat} (h : ltB t P[k]!.n = false) : atF P t (k + 1) = k + 1 := by
  show (if _ then _ else _) = _; rw [if_neg (by rw [h]; decide)]
def sins (P : List Lab) (x : Lab) : List Lab := P.take (atF P x.n P.length) ++ [x] ++ P.drop (atF P x.n P.length)
def srtL (l : List Lab) : List Lab := l.foldl sins []
theorem len_sins (P : List Lab) (x : Lab) : (sins P x).length = P.length + 1 := by
  have := atF_le P x.n P.length
  unfold sins; simp; omega
theorem len_fold : ∀ (l P : List Lab), (l.foldl sins P).length = P.length + l.length
  | [], _ => rfl
  | x :: l, P => by rw [List.foldl_cons, len_fold l, len_sins, List.length_cons]; omega
theorem len_srt (l : List Lab) : (srtL l).length = l.length := by unfold srtL; rw [len_fold]; simp
theorem srt_snoc {l : List Lab} {i : Nat} (h : i < l.length) : srtL (l.take (i + 1)) = sins (srtL (l.take i)) l[i]! := by
  unfold srtL; rw [Ls.take_snoc h, List.foldl_append]; rfl
/-- one that is on its way down -/
def way (P : List Lab) (x : Lab) (R : List Lab) (j : Nat) : List Lab := P.take j ++ x :: (P.drop j ++ R)
theorem len_way {P R : List Lab} {x : Lab} {j : Nat} : (way P x R j).length = P.length + 1 + R.length := by
  unfold way; simp; omega
theorem way_x {P R : List Lab} {x : Lab} {j : Nat} (h : j ≤ P.length) : (way P x R j)[j]! = x := by
  have hl : (P.take j).length = j := by rw [List.length_take]; omega
  rw [getElem!_pos _ j (by rw [len_way]; omega)]
  unfold way
  rw [List.getElem_append_right (by omega)]
  simp [hl]
theorem way_p {P R : List Lab} {x : Lab} {j : Nat} (h : j < P.length) : (way P x R (j + 1))[j]! = P[j]! := by
  have hl : (P.take (j + 1)).length = j + 1 := by rw [List.length_take]; omega
  rw [getElem!_pos _ j (by rw [len_way]; omega), getElem!_pos P j h]
  unfold way
  rw [List.getElem_append_left (by omega), List.getElem_take]
theorem way_sw {P R : List Lab} {x : Lab} {j : Nat} (h : j < P.length) : ((way P x R (j + 1)).set (j + 1) P[j]!).set j x = way P x R j := by
  have e1 : way P x R (j + 1) = P.take j ++ (P[j]! :: x :: (P.drop (j + 1) ++ R)) := by
    unfold way; rw [Ls.take_snoc h, List.append_assoc]; rfl
  have e2 : way P x R j = P.take j ++ (x :: P[j]! :: (P.drop (j + 1) ++ R)) := by
    unfold way; rw [Ls.drop_cons h]; rfl
  have hl : (P.take j).length = j := by rw [List.length_take]; omega
  rw [e1, e2, List.set_append_right _ _ (by omega), List.set_append_right _ _ (by omega), hl]
  simp
theorem way_top {P R : List Lab} {x : Lab} : way P x R P.length = P ++ x :: R := by unfold way; simp
theorem way_end {P R : List Lab} {x : Lab} {j : Nat} (h : atF P x.n P.length = j) : way P x R j = sins P x ++ R := by unfold way sins; rw [h]; simp
end Lb
end Go.Proofs.Ytoplagjjojlceaa
/- Labels (plain): what Sort makes of any order of right ones; bytes there and back. -/
set_option linter.unusedSimpArgs false
set_option linter.unusedVariables false
set_option linter.unusedSectionVars false
set_option maxRecDepth 20000
set_option maxHeartbeats 4000000
namespace Go.Proofs.Ytoplagjjojlceaa
open Go Go.J
namespace Lb
theorem perm_sins (P : List Lab) (x : Lab) : (sins P x).Perm (x :: P) := by
  unfold sins
  rw [List.append_assoc]
  refine List.Perm.trans (List.perm_middle (l₁ := P.take (atF P x.n P.length)) (a := x) (l₂ := P.drop (atF P x.n P.length))) ?_
  rw [List.take_append_drop]
theorem perm_fold : ∀ (l P : List Lab), (l.foldl sins P).Perm (l ++ P)
  | [], P => List.Perm.refl _
  | x :: l, P => by
    refine List.Perm.trans (perm_fold l (sins P x)) ?_
    refine List.Perm.trans (List.Perm.append_left l (perm_sins P x)) ?_
    exact List.perm_middle
theorem perm_srt (l : List Lab) : (srtL l).Perm l := by
  have := perm_fold l []
  rw [List.append_nil] at this
  exact this
/-- no name is above a later one's -/
def Asc (l : List Lab) : Prop := l.Pairwise fun a b => ltB b.n a.n = false
theorem le_lt {a b c : List UInt8} (h1 : ltB b a = false) (h2 : ltB b c = true) : ltB a c = true := by
  rcases ltB_tri a b with h | h | h
  · exact ltB_trans h h2
  · subst h; exact h2
  · rw [h] at h1; cases h1
theorem lt_le {a b c : List UInt8} (h1 : ltB a b = true) (h2 : ltB c b = false) : ltB a c = true := by
  rcases ltB_tri b c with h | h | h
  · exact ltB_trans h1 h
  · subst h; exact h1
  · rw [h] at h2; cases h2
theorem atF_hi (P : List Lab) (t : List UInt8) : ∀ k, ∀ j, atF P t k ≤ j → j < k → ltB t P[j]!.n = true
  | 0, _, _, h => absurd h (Nat.not_lt_zero _)
  | k + 1, j, h1, h2 => by
    cases e : ltB t P[k]!.n with
    | true =>
      rw [atF_dn e] at h1
      by_cases hj : j = k
      · subst hj; exact e
      · exact atF_hi P t k j h1 (by omega)
    | false =>
      rw [atF_st e] at h1
      omega
theorem atF_lo (P : List Lab) (t : List UInt8) : ∀ k, 0 < atF P t k → ltB t P[atF P t k - 1]!.n = false
  | 0, h => absurd h (Nat.lt_irrefl 0)
  | k + 1, h => by
    cases e : ltB t P[k]!.n with
    | true => rw [atF_dn e] at h ⊢; exact atF_lo P t k h
    | false => rw [atF_st e]; exact e
theorem asc_sins {P : List Lab} (h : Asc P) (x : Lab) : Asc (sins P x) := by
  have hle := atF_le P x.n P.length
  have hhi := atF_hi P x.n P.length
  have hlo := atF_lo P x.n P.length
  unfold sins
  generalize atF P x.n P.length = k at hle hhi hlo
  have hp : (P.take k ++ P.drop k).Pairwise fun a b => ltB b.n a.n = false := by rw [List.take_append_drop]; exact h
  rw [List.pairwise_append] at hp
  obtain ⟨h1, h2, h3⟩ := hp
  have hx1 : ∀ a ∈ P.take k, ltB x.n a.n = false := fun a ha => by
    obtain ⟨i, hi, rfl⟩ := List.mem_iff_getElem.1 ha
    rw [List.length_take] at hi
    have hi' : i < k := by omega
    have hl := hlo (by omega)
    cases e : ltB x.n (P.take k)[i].n with
    | false => rfl
    | true =>
      rw [List.getElem_take] at e
      by_cases hik : i = k - 1
      · subst hik; rw [getElem!_pos P (k - 1) (by omega), e] at hl; cases hl
      · have hq := (List.pairwise_iff_getElem.1 h) i (k - 1) (by omega) (by omega) (by omega)
        have := lt_le e hq
        rw [getElem!_pos P (k - 1) (by omega), this] at hl; cases hl
  have hx2 : ∀ b ∈ P.drop k, ltB b.n x.n = false := fun b hb => by
    obtain ⟨i, hi, rfl⟩ := List.mem_iff_getElem.1 hb
    rw [List.length_drop] at hi
    have := hhi (k + i) (by omega) (by omega)
    rw [List.getElem_drop]
    rw [getElem!_pos P (k + i) (by omega)] at this
    exact ltB_asymm this
  unfold Asc
  rw [List.append_assoc, List.pairwise_append]
  refine ⟨h1, ?_, fun a ha b hb => ?_⟩
  · rw [List.singleton_append, List.pairwise_cons]
    exact ⟨fun b hb => hx2 b hb, h2⟩
  · rw [List.singleton_append, List.mem_cons] at hb
    rcases hb with rfl | hb
    · exact hx1 a ha
    · exact h3 a ha b hb
theorem asc_fold : ∀ (l P : List Lab), Asc P → Asc (l.foldl sins P)
  | [], _, h => h
  | x :: l, P, h => asc_fold l (sins P x) (asc_sins h x)
theorem asc_srt (l : List Lab) : Asc (srtL l) := asc_fold l [] List.Pairwise.nil
theorem uniq : ∀ (l m : List Lab), l.Pairwise (fun a b => ltB a.n b.n = true) → Asc m → m.Perm l → m = l
  | [], m, _, _, hp => List.Perm.eq_nil hp
  | a :: l, [], _, _, hp => absurd (List.Perm.length_eq hp) (by simp)
  | a :: l, b :: m, h1, h2, hp => by
    have h1' := List.pairwise_cons.1 h1
    have h2' := List.pairwise_cons.1 h2
    have e : b = a := by
      by_cases e : b = a
      · exact e
      · have hb : b ∈ l := by
          have := hp.subset (List.mem_cons_self (a := b) (l := m))
          rcases List.mem_cons.1 this with k | k
          · exact absurd k e
          · exact k
        have ha : a ∈ m := by
          have := hp.symm.subset (List.mem_cons_self (a := a) (l := l))
          rcases List.mem_cons.1 this with k | k
          · exact absurd k.symm e
          · exact k
        have g1 := h1'.1 b hb
        have g2 := h2'.1 a ha
        rw [g1] at g2; cases g2
    subst e
    rw [uniq l m h1'.2 h2'.2 (List.Perm.cons_inv hp)]
theorem right_pw {l : List Lab} (h : right l) : l.Pairwise fun a b => ltB a.n b.n = true := by
  rw [List.pairwise_iff_getElem]
  intro i j hi hj hij
  have key : ∀ (d i : Nat), i + d + 1 < l.length → ltB l[i]!.n l[i + d + 1]!.n = true := by
    intro d
    induction d with
    | zero =>
      intro i hi
      have := (of_decide_eq_true (h.2.2.1 (i + 0 + 1) hi)).2.2 (by omega)
      rw [show i + 0 + 1 - 1 = i by omega] at this
      exact this
    | succ d ih =>
      intro i hi
      have h1 := ih i (by omega)
      have h2 := (of_decide_eq_true (h.2.2.1 (i + (d + 1) + 1) hi)).2.2 (by omega)
      rw [show i + (d + 1) + 1 - 1 = i + d + 1 by omega] at h2
      exact ltB_trans h1 h2
  have := key (j - i - 1) i (by omega)
  rw [show i + (j - i - 1) + 1 = j by omega, getElem!_pos l i hi, getElem!_pos l j hj] at this
  exact this
theorem srt_right {l m : List Lab} (h : right l) (hp : m.Perm l) : srtL m = l := uniq l (srtL m) (right_pw h) (asc_srt m) (List.Perm.trans (perm_srt m) hp)
/-- from one on, round -/
def rot (l : List Lab) (k : Nat) : List Lab := l.drop k ++ l.take k
theorem rot_perm (l : List Lab) (k : Nat) : (rot l k).Perm l := by
  have := List.perm_append_comm (l₁ := l.drop k) (l₂ := l.take k)
  rwa [List.take_append_drop] at this
theorem rot_len (l : List Lab) (k : Nat) : (rot l k).length = l.length := (rot_perm l k).length_eq
theorem rot_at {l : List Lab} {k i : Nat} (hk : k ≤ l.length) (hi : i < l.length) : l[(i + k) % l.length]! = (rot l k)[i]! := by
  have hr := rot_len l k
  rw [getElem!_pos (rot l k) i (by omega), getElem!_pos l ((i + k) % l.length) (Nat.mod_lt _ (by omega))]
  unfold rot
  by_cases h : i < l.length - k
  · rw [List.getElem_append_left (by rw [List.length_drop]; exact h), List.getElem_drop]
    congr 1
    rw [Nat.mod_eq_of_lt (by omega)]; omega
  · rw [List.getElem_append_right (by rw [List.length_drop]; omega), List.getElem_take]
    congr 1
    rw [List.length_drop, Nat.mod_eq_sub_mod (by omega), Nat.mod_eq_of_lt (by omega)]; omega
end Lb
end Go.Proofs.Ytoplagjjojlceaa
/- The contracts of the package codec and of its reference: what is written, what is read. -/
set_option linter.unusedSimpArgs false
set_option linter.unusedVariables false
set_option linter.unusedSectionVars false
set_option maxRecDepth 20000
set_option maxHeartbeats 4000000
namespace Go.Proofs.Ytoplagjjojlceaa
open Go Go.J
attribute [local irreducible] At AtQ AtM AtM1 PR Ct Pu Rd Res.blk Res.own Res.ex RVs RV

namespace Cod
abbrev ptr (b : Nat) : Value := .pointer (some ⟨b, 0, none⟩)
def uintB (n : Nat) : List UInt8 := if n < 128 then [UInt8.ofNat n] else UInt8.ofNat (n % 128 + 128) :: uintB (n / 128)
termination_by n
decreasing_by omega
theorem uintB_lt {n : Nat} (h : n < 128) : uintB n = [UInt8.ofNat n] := by rw [uintB, if_pos h]
theorem uintB_ge {n : Nat} (h : ¬ n < 128) : uintB n = UInt8.ofNat (n % 128 + 128) :: uintB (n / 128) := by rw [uintB, if_neg h]
theorem uintB_pos (n : Nat) : 1 ≤ (uintB n).length := by
  by_cases h : n < 128
  · rw [uintB_lt h]; simp
  · rw [uintB_ge h]; simp
theorem uintB_len : ∀ (k n : Nat), n < 128 ^ k → (uintB n).length ≤ max k 1
  | 0, n, h => by rw [uintB_lt (by simp at h; omega)]; exact Nat.le_refl 1
  | k + 1, n, h => by
    by_cases h1 : n < 128
    · rw [uintB_lt h1]; show 1 ≤ max (k + 1) 1; omega
    · rw [uintB_ge h1, List.length_cons]
      have := uintB_len k (n / 128) (by rw [Nat.pow_succ] at h; omega)
      by_cases hk : k = 0
      · subst hk; simp at h; omega
      · omega
theorem uintB_len10 {n : Nat} (h : n < 18446744073709551616) : (uintB n).length ≤ 10 := by
  have := uintB_len 10 n (by omega)
  omega
theorem bI_of {n : Nat} (h : n < 256) : bI (UInt8.ofNat n) = (n : Int) := by
  unfold bI
  rw [UInt8.toNat_ofNat_of_lt' (by show n < 256; omega)]
theorem or128 (n : Nat) : bits .or .u8 ((n : Int) % 256) 128 = bI (UInt8.ofNat (n % 128 + 128)) := by
  rw [bI_of (by omega), u8_or _ _ (by omega) (by omega) (by omega) (by omega)]
  have e : ((n : Int) % 256).toNat = n % 256 := by omega
  rw [e, show ((128 : Int)).toNat = 128 from rfl]
  have : n % 256 ||| 128 = n % 128 + 128 := by
    have h2 : n % 256 % 128 ||| 128 = n % 256 % 128 + 128 := by rw [Nat.or_comm, nat_join 7 128 (n % 256 % 128) (by decide) (by omega)]; omega
    rcases Nat.lt_or_ge (n % 256) 128 with h | h
    · rw [Nat.mod_eq_of_lt h] at h2; rw [h2]; omega
    · have h3 : n % 256 = 128 + n % 256 % 128 := by omega
      have h4 : 128 ||| (n % 256 % 128) = 128 + n % 256 % 128 := nat_join 7 128 _ (by decide) (by omega)
      rw [h3, ← h4, Nat.or_assoc, Nat.or_comm _ 128, ← Nat.or_assoc, Nat.or_self, h4]; omega
  rw [this]

/-- a writer's block, and its bytes -/
abbrev wr (b : Nat) (p : Option Addr) (c : Nat) (L : List Int) : List Res := [.blk b 94 [.slice p L.length c], .own fb 1 5 p c L]
def W (b : Nat) (l : List UInt8) : Res := .ex (σ := Option Addr × Nat) (fun _ => True) (fun s => wr b s.1 s.2 (l.map bI))
theorem W.open {m : Mem} {f : FuncId} {args : Array Value} {b : Nat} {l : List UInt8} {Q : Value → Mem → List Res → Prop} (h : ∀ p c, Ct Try.prog f args m (wr b p c (l.map bI)) Q) : Ct Try.prog f args m [W b l] Q := Ct.openx fun s _ => by rw [List.append_nil]; exact h s.1 s.2
theorem W.close {b : Nat} {l : List UInt8} (p : Option Addr) (c : Nat) (L : List Int) (e : L = l.map bI) (Rest : List Res) : Ent (wr b p c L ++ Rest) (W b l :: Rest) := by
  subst e
  exact Ent.closex (A := fun s : Option Addr × Nat => wr b s.1 s.2 (l.map bI)) (p, c) trivial
theorem W.conv {m : Mem} {f : FuncId} {args : Array Value} {A : List Res} {b : Nat} {l' : List UInt8} {V : Value} (h : Ct Try.prog f args m A (fun v m' B => v = V ∧ m = m' ∧ ∃ p' c', B = wr b p' c' (l'.map bI))) :
    Ct Try.prog f args m A (fun v m' B => v = V ∧ m = m' ∧ B = [W b l']) :=
  Ct.conv h fun v m' B _ ⟨h1, h2, p', c', h3⟩ => ⟨[W b l'], ⟨h1, h2, rfl⟩, fun Rest => by subst h3; exact W.close p' c' _ rfl Rest⟩
theorem own0 (b : Nat) (Rest : List Res) : Ent (.blk b 94 [.slice none 0 0] :: Rest) (W b [] :: Rest) :=
  (Ent.cons _ (own_nil_ent fb 1 5 Rest)).trans (W.close (b := b) (l := []) none 0 [] rfl Rest)

structure US where
  n : Nat
  L : List Int
  p : Option Addr
  c : Nat
theorem uint0 {m : Mem} (b n : Nat) (p : Option Addr) (c : Nat) (l : List UInt8) (hn : n < 18446744073709551616) (hl : l.length ≤ 30000000000) :
    Ct Try.prog 50 #[ptr b, .int .u64 (n : Int)] m (wr b p c (l.map bI)) (fun v m' B => v = .tuple #[] ∧ m = m' ∧ ∃ p' c', B = wr b p' c' ((l ++ uintB n).map bI)) := by
  have h10 := uintB_len10 hn
  refine Ct.enterV (by rfl) Try.func50 rfl Try.ntmps50 rfl (fun w0 Rest => ?_)
  (repeat' (first | refine zss ?_ | refine zsO ?_ | (refine zsp ?_ ?_ <;> (intro hc; (try simp only [zhcs, reduceCtorEq] at hc); (try (exfalso; first | contradiction | omega | exact absurd rfl hc | exact absurd (by decide) hc))))))
  (refine At.loopk (σ := US) [0] (fun s F0 => (1, .int .u64 (s.n : Int)) :: F0) (fun s => m) (fun s => .blk b 94 [.slice s.p s.L.length s.c] :: .own fb 1 5 s.p s.c s.L :: Rest) (fun s => s.n < 18446744073709551616 ∧ s.L ++ (uintB s.n).map bI = (l ++ uintB n).map bI) (fun s => s.n) ⟨n, l.map bI, p, c⟩ (by rfl) ?_ zsubs zml zente ?_)
  · exact ⟨hn, by simp⟩
  intro s ⟨hs, he⟩
  have hlen : s.L.length + (uintB s.n).length = l.length + (uintB n).length := by
    have := congrArg List.length he
    simpa using this
  have hp := uintB_pos s.n
  by_cases hlt : s.n < 128
  · (repeat' (first | refine zss ?_ | ((first | (with_reducible first | apply At.val | apply AtQ.val)); (exact pr_conv ⟨_, by rfl⟩ (by rfl) (by rfl) (IntWalk.u8_in _ (by omega))); exact rfl) | refine zsO ?_ | ((with_reducible apply At.lit fb [_]); exact inferInstance; (iterate 7 exact rfl); intro _) | ((with_reducible apply At.apW (f := fb)); exact rfl; exact rfl; exact (by repeat constructor); exact inferInstance; exact zrdl; (iterate 4 exact rfl); exact zom; exact rfl; intro _ _) | (refine zsp ?_ ?_ <;> (intro hc; (try simp only [zhcs, reduceCtorEq] at hc); (try (exfalso; first | omega | contradiction | omega | exact absurd rfl hc | exact absurd (by decide) hc))))))
    rw [uintB_lt hlt, List.map_cons, List.map_nil, bI_of (by omega)] at he
    all_goals ((first | (with_reducible apply At.retB0 (B := [.blk b _ _, .own fb 1 5 _ _ (s.L ++ [_])])) | (with_reducible apply At.retR0 (B := [.blk b _ _, .own fb 1 5 _ _ (s.L ++ [_])]))); exact rfl; exact zml; exact zkp; exact ⟨rfl, rfl, _, _, by rw [← he]⟩)
  · (repeat' (first | refine zss ?_ | ((first | (with_reducible first | apply At.val | apply AtQ.val)); (exact pr_or (by rfl) (by rfl) (or128 _)); exact rfl) | refine zsO ?_ | ((with_reducible apply At.lit fb [_]); exact inferInstance; (iterate 7 exact rfl); intro _) | ((with_reducible apply At.apW (f := fb)); exact rfl; exact rfl; exact (by repeat constructor); exact inferInstance; exact zrdl; (iterate 4 exact rfl); exact zom; exact rfl; intro p2 c2) | (refine zsp ?_ ?_ <;> (intro hc; (try simp only [zhcs, reduceCtorEq] at hc); (try (exfalso; first | omega | contradiction | omega | exact absurd rfl hc | exact absurd (by decide) hc))))))
    all_goals ((with_reducible refine At.reachk (⟨s.n / 128, s.L ++ [bI (UInt8.ofNat (s.n % 128 + 128))], p2, c2⟩) ?_ ?_ ?_ ?_); exact zsubs; exact zml; exact zente; exact ⟨⟨by show s.n / 128 < _; omega, by rw [uintB_ge hlt] at he; show _ ++ _ ++ (uintB (s.n / 128)).map bI = _; rw [← he]; simp⟩, by show s.n / 128 < s.n; omega⟩)
theorem uint {m : Mem} (b n : Nat) (l : List UInt8) (hn : n < 18446744073709551616) (hl : l.length ≤ 30000000000) :
    Ct Try.prog 50 #[ptr b, .int .u64 (n : Int)] m [W b l] (fun v m' B => v = .tuple #[] ∧ m = m' ∧ B = [W b (l ++ uintB n)]) :=
  W.open fun p c => W.conv (uint0 b n p c l hn hl)

theorem xor_ones {k y : Nat} (h : y < 2 ^ k) : y ^^^ (2 ^ k - 1) = 2 ^ k - 1 - y := by
  apply Nat.eq_of_testBit_eq
  intro i
  rw [Nat.testBit_xor, Nat.testBit_two_pow_sub_one, show 2 ^ k - 1 - y = 2 ^ k - (y + 1) by omega, Nat.testBit_two_pow_sub_succ h]
  by_cases hi : i < k
  · simp [hi]
  · simp [hi, Nat.testBit_lt_two_pow (Nat.lt_of_lt_of_le h (Nat.pow_le_pow_right (by decide) (by omega : k ≤ i)))]
def zig (n : Int) : Nat := if n < 0 then (2 * (-(n + 1)) + 1).toNat else (2 * n).toNat
theorem zig_lt {n : Int} (hn : -9223372036854775808 ≤ n ∧ n ≤ 9223372036854775807) : zig n < 18446744073709551616 := by unfold zig; split <;> omega
theorem zigx0 {n : Int} (h0 : ¬ n < 0) (h : n ≤ 9223372036854775807) : bits .xor .u64 (n * 2) (n / 9223372036854775808) = (zig n : Int) := by
  have e : n / 9223372036854775808 = 0 := by omega
  rw [e, u64_xor _ _ (by omega) (by omega) (by omega) (by omega)]
  unfold zig
  rw [if_neg h0, show ((0 : Int)).toNat = 0 from rfl, Nat.xor_zero, Int.mul_comm]
theorem zigx1 {n : Int} (h0 : n < 0) (h : -9223372036854775808 ≤ n) : bits .xor .u64 ((n % 18446744073709551616 * 2) % 18446744073709551616) (n / 9223372036854775808 % 18446744073709551616) = (zig n : Int) := by
  have e : n / 9223372036854775808 % 18446744073709551616 = 18446744073709551615 := by omega
  have e2 : (n % 18446744073709551616 * 2) % 18446744073709551616 = 18446744073709551616 + 2 * n := by omega
  rw [e, e2, u64_xor _ _ (by omega) (by omega) (by omega) (by omega)]
  unfold zig
  rw [if_pos h0, show ((18446744073709551615 : Int)).toNat = 2 ^ 64 - 1 from rfl, xor_ones (by omega)]
  omega
theorem raw0 {m : Mem} (b : Nat) (p : Option Addr) (c : Nat) (l t : List UInt8) (hl : l.length + t.length ≤ 30000000000) :
    Ct Try.prog 59 #[ptr b, .string (str t)] m (wr b p c (l.map bI)) (fun v m' B => v = .tuple #[] ∧ m = m' ∧ ∃ p' c', B = wr b p' c' ((l ++ t).map bI)) := by
  refine Ct.enterV (by rfl) Try.func59 rfl Try.ntmps59 rfl (fun w0 Rest => ?_)
  (repeat' (first | refine zss ?_ | refine zsO ?_ | ((with_reducible apply At.append_str); exact rfl; exact rfl; exact (by repeat constructor); (iterate 3 exact rfl); exact zlq; exact zom; exact rfl; intro _ _) | (refine zsp ?_ ?_ <;> (intro hc; (try simp only [zhcs, reduceCtorEq] at hc); (try (exfalso; first | contradiction | omega | exact absurd rfl hc | exact absurd (by decide) hc))))))
  all_goals ((first | (with_reducible apply At.retB0 (B := [.blk b _ _, .own fb 1 5 _ _ _])) | (with_reducible apply At.retR0 (B := [.blk b _ _, .own fb 1 5 _ _ _]))); exact rfl; exact zml; exact zkp; exact ⟨rfl, rfl, _, _, by rw [List.map_append]⟩)
theorem raw {m : Mem} (b : Nat) (l t : List UInt8) (hl : l.length + t.length ≤ 30000000000) :
    Ct Try.prog 59 #[ptr b, .string (str t)] m [W b l] (fun v m' B => v = .tuple #[] ∧ m = m' ∧ B = [W b (l ++ t)]) :=
  W.open fun p c => W.conv (raw0 b p c l t hl)
def textB (t : List UInt8) : List UInt8 := uintB t.length ++ t
theorem text {m : Mem} (b : Nat) (l t : List UInt8) (hl : l.length ≤ 10000000000) (ht : t.length ≤ 10000000000) :
    Ct Try.prog 51 #[ptr b, .string (str t)] m [W b l] (fun v m' B => v = .tuple #[] ∧ m = m' ∧ B = [W b (l ++ textB t)]) := by
  have h10 := uintB_len10 (n := t.length) (by omega)
  refine Ct.enterV (by rfl) Try.func51 rfl Try.ntmps51 rfl (fun w0 Rest => ?_)
  (repeat' (first | refine zss ?_ | refine zs0 ?_ | ((with_reducible first | apply At.c1 | apply At.c0); exact rfl; exact rfl; exact uint b t.length l (by omega) (by omega); exact ztk; kernel_rfl; rintro v' m' B' hm' ⟨rfl, rfl, rfl⟩; skip; (try (have hq0 : hm' = Mem.le_refl _ := rfl; clear hq0 hm'))) | ((with_reducible first | apply At.c1 | apply At.c0); exact rfl; exact rfl; exact raw b (l ++ uintB t.length) t (by simp; omega); exact ztk; kernel_rfl; rintro v' m' B' hm' ⟨rfl, rfl, rfl⟩; skip; (try (have hq0 : hm' = Mem.le_refl _ := rfl; clear hq0 hm'))) | (refine zsp ?_ ?_ <;> (intro hc; (try simp only [zhcs, reduceCtorEq] at hc); (try (exfalso; first | contradiction | omega | exact absurd rfl hc | exact absurd (by decide) hc))))))
  all_goals ((first | (with_reducible apply At.retB0 (B := [W b _])) | (with_reducible apply At.retR0 (B := [W b _]))); exact rfl; exact zml; exact zkp; exact ⟨rfl, rfl, by unfold textB; rw [List.append_assoc]⟩)
theorem out {m : Mem} (b : Nat) (l : List UInt8) : Rd Try.prog 52 #[ptr b] m [W b l] (.string (str l)) :=
  Rd.openx fun s _ => by
    rw [List.append_nil]
    unfold Rd
    refine Ct.enterV (by rfl) Try.func52 rfl Try.ntmps52 rfl (fun w0 Rest => ?_)
    (repeat' (first | refine zss ?_ | refine zsO ?_ | (refine zsp ?_ ?_ <;> (intro hc; (try simp only [zhcs, reduceCtorEq] at hc); (try (exfalso; first | contradiction | omega | exact absurd rfl hc | exact absurd (by decide) hc))))))
    all_goals ((with_reducible apply At.retB1 (B := wr b s.1 s.2 (l.map bI))); exact rfl; exact rfl; exact zml; exact zkp; exact ⟨by rw [u8_map], rfl, rfl⟩)

def fixB (w : Int) (n : Nat) : List UInt8 := if 1 ≤ w ∧ w ≤ 8 then (List.range w.toNat).map (fun i => UInt8.ofNat (n / 256 ^ (w.toNat - 1 - i))) else []
theorem bI_mod (n : Nat) : bI (UInt8.ofNat n) = ((n % 256 : Nat) : Int) := by unfold bI; rfl
theorem fix_step (n k w : Nat) (h : k < w) : ((n : Int) / 2 ^ (8 * ((w : Int) - 1 - k)).toNat) % 256 = bI (UInt8.ofNat (n / 256 ^ (w - 1 - k))) := by
  rw [bI_mod, show (8 * ((w : Int) - 1 - k)).toNat = 8 * (w - 1 - k) by omega, show (256 : Nat) ^ (w - 1 - k) = 2 ^ (8 * (w - 1 - k)) by rw [Nat.pow_mul], Int.natCast_emod, Int.natCast_ediv, Int.natCast_pow]
  rfl
structure FSt where
  k : Nat
  L : List Int
  p : Option Addr
  c : Nat
/-! ### the document's bytes -/
theorem zig_neg {n : Int} (h : n < 0) : (zig n : Int) = 2 * (0 - (n + 1)) + 1 := by unfold zig; rw [if_pos h]; omega
theorem zig_pos {n : Int} (h : ¬ n < 0) : (zig n : Int) = 2 * n := by unfold zig; rw [if_neg h]; omega
theorem fix_get (n w j : Nat) (h : j < w) (h1 : 1 ≤ w) (h8 : w ≤ 8) : ((fixB w n).map bI)[j]! = ((n / 256 ^ (w - 1 - j) % 256 : Nat) : Int) := by
  unfold fixB
  rw [if_pos (by omega), getElem!_pos _ j (by simp; omega)]
  simp [bI_mod]
theorem fix_len (n w : Nat) (h1 : 1 ≤ w) (h8 : w ≤ 8) : (fixB w n).length = w := by
  unfold fixB
  rw [if_pos (by omega)]; simp
structure GS where
  i : Nat
  d : Nat
  L : List Int
theorem fix_inv {n k d i : Nat} {L : List Int} (h0 : d = n / 256 ^ i) (h1 : i ≤ k) (h2 : L.length = k) (h3 : ∀ j, j < k → L[j]! = if k - i ≤ j then ((n / 256 ^ (k - 1 - j) % 256 : Nat) : Int) else 0) (h : i < k) :
    d / 256 = n / 256 ^ (i + 1) ∧ i + 1 ≤ k ∧ (L.set (k - 1 - i) ((d : Int) % 256)).length = k ∧ ∀ j, j < k → (L.set (k - 1 - i) ((d : Int) % 256))[j]! = if k - (i + 1) ≤ j then ((n / 256 ^ (k - 1 - j) % 256 : Nat) : Int) else 0 := by
  refine ⟨by rw [h0, Nat.div_div_eq_div_mul, Nat.pow_succ], h, by simpa using h2, fun j hj => ?_⟩
  by_cases e : j = k - 1 - i
  · subst e
    rw [getElem!_pos _ _ (by simp; omega), List.getElem_set_self, if_pos (by omega), show k - 1 - (k - 1 - i) = i by omega, ← h0]
    rfl
  · rw [getElem!_pos _ j (by simp; omega), List.getElem_set_ne (Ne.symm e), ← getElem!_pos L j (by omega), h3 j hj]
    by_cases e2 : k - i ≤ j
    · rw [if_pos e2, if_pos (by omega)]
    · rw [if_neg e2, if_neg (by omega)]
end Cod
end Go.Proofs.Ytoplagjjojlceaa
/- Labels as bytes: Bytes; Same. -/
set_option linter.unusedSimpArgs false
set_option linter.unusedVariables false
set_option linter.unusedSectionVars false
set_option maxRecDepth 20000
set_option maxHeartbeats 4000000
namespace Go.Proofs.Ytoplagjjojlceaa
open Go Go.J
attribute [local irreducible] At AtQ AtM AtM1 PR Ct Pu Rd Res.blk Res.own Res.ex RVs RV Cod.W
namespace Lb
open Cod
def oneL (x : Lab) : List UInt8 := textB x.n ++ textB x.v
def bodyL (l : List Lab) : List UInt8 := l.flatMap oneL
def bytesL (l : List Lab) : List UInt8 := uintB l.length ++ bodyL l
theorem body_snoc {l : List Lab} {i : Nat} (h : i < l.length) : bodyL (l.take (i + 1)) = bodyL (l.take i) ++ (textB l[i]!.n ++ textB l[i]!.v) := by
  unfold bodyL
  rw [Ls.take_snoc h, List.flatMap_append]
  simp [oneL]
theorem one_len {x : Lab} (h : x.n.length ≤ 64 ∧ x.v.length ≤ 128) : (oneL x).length ≤ 300 := by
  have h1 := uintB_len10 (n := x.n.length) (by omega)
  have h2 := uintB_len10 (n := x.v.length) (by omega)
  unfold oneL textB
  simp only [List.length_append]
  omega
theorem right_at {l : List Lab} (h : right l) {i : Nat} (hi : i < l.length) : l[i]!.n.length ≤ 64 ∧ l[i]!.v.length ≤ 128 := by
  have h1 := of_decide_eq_true (h.2.2.1 i hi)
  have h2 := of_decide_eq_true h1.1
  exact ⟨h2.2.1, h1.2.1⟩
theorem body_len {l : List Lab} (h : ∀ i, i < l.length → l[i]!.n.length ≤ 64 ∧ l[i]!.v.length ≤ 128) : ∀ i, i ≤ l.length → (bodyL (l.take i)).length ≤ 300 * i
  | 0, _ => by simp [bodyL]
  | i + 1, hi => by
    have := body_len h i (by omega)
    have h2 := one_len (h i (by omega))
    rw [body_snoc (by omega), List.length_append]
    unfold oneL at h2
    omega
theorem bytes {m : Mem} (p : Option Addr) (c : Nat) (l : List Lab) (hb : Mid l) (sl0 : Sl m cells 2 p c l) :
    Rd Try.prog 38 #[.slice p l.length c] m [] (.tuple #[.string (str (if right l then bytesL l else [])), .int .i64 (chk l)]) := by
  unfold Rd
  have hk := fun (m' : Mem) (hm' : m.le m') => check (m := m') p c l hb (sl0.mono hm')
  by_cases hr : right l
  · rw [if_pos hr, chk_ok hr]
    rw [chk_ok hr] at hk
    have hln : l.length ≤ 16 := hr.2.1
    have hbl := body_len (l := l) fun i hi => right_at hr hi
    have hu := uintB_len10 (n := l.length) (by omega)
    have k1 : ∀ (m : Mem) (b : Nat), Ct Try.prog 50 #[ptr b, .int .u64 (l.length : Int)] m [W b []] (fun v m' B => v = .tuple #[] ∧ m = m' ∧ B = [W b (uintB l.length ++ bodyL (l.take 0))]) := fun m b => by
      have := uint (m := m) b l.length [] (by omega) (by show 0 ≤ _; omega)
      rwa [show [] ++ uintB l.length = uintB l.length ++ bodyL (l.take 0) by simp [bodyL]] at this
    refine Ct.enterV (by rfl) Try.func38 rfl Try.ntmps38 rfl (fun w0 Rest => ?_)
    (repeat' (first | refine zss ?_ | refine zsM ?_ | (refine At.ent (own0 b5 _) ?_) | ((with_reducible first | apply AtM1.cr | apply AtQ.cr | apply At.cr); exact rfl; exact rfl; exact fun _ hmm => hk _ hmm; exact ztk; kernel_rfl) | ((with_reducible first | apply At.c1 | apply At.c0); exact rfl; exact rfl; exact k1 _ b5; exact ztk; kernel_rfl; rintro v' m' B' hm' ⟨rfl, rfl, rfl⟩; (try replace sl0 := sl0.mono hm'); (try (have hq0 : hm' = Mem.le_refl _ := rfl; clear hq0 hm'))) | ((with_reducible apply At.alloc (d := 5)); exact rfl; exact rfl; intro b5) | ((with_reducible apply At.alloc (d := 7)); exact rfl; exact rfl; intro b7) | (refine zsp ?_ ?_ <;> (intro hc; (try simp only [zhcs, reduceCtorEq] at hc); (try (exfalso; first | omega | contradiction | omega | exact absurd rfl hc | exact absurd (by decide) hc))))))
    (refine At.loopk (σ := Nat) [5, 17, 18] (fun s F0 => (19, .int .i64 (s : Int)) :: F0) (fun s => m) (fun s => W b5 (uintB l.length ++ bodyL (l.take s)) :: Rest) (fun s => s ≤ l.length) (fun s => l.length - s) 0 (by rfl) ?_ zsubs zml zente ?_)
    · exact Nat.zero_le _
    rintro s hs
    by_cases h : s < l.length
    · have hbs := hbl s (by omega)
      have hrr := right_at hr h
      have hu1 := uintB_len10 (n := l[s]!.n.length) (by omega)
      have e3 := body_snoc h
      have htl : (textB l[s]!.n).length ≤ 100 := by unfold textB; rw [List.length_append]; omega
      have k2 := fun m => text (m := m) b5 (uintB l.length ++ bodyL (l.take s)) (l[s]!.n) (by rw [List.length_append]; omega) (by omega)
      have k3 := fun m => text (m := m) b5 (uintB l.length ++ bodyL (l.take s) ++ textB l[s]!.n) (l[s]!.v) (by rw [List.length_append, List.length_append]; omega) (by omega)
      (repeat' (first | refine zss ?_ | refine zsM ?_ | ((with_reducible first | apply At.c1 | apply At.c0); exact rfl; exact rfl; exact k2 _; exact ztk; kernel_rfl; rintro v' m' B' hm' ⟨rfl, rfl, rfl⟩; (try replace sl0 := sl0.mono hm'); (try (have hq0 : hm' = Mem.le_refl _ := rfl; clear hq0 hm'))) | ((with_reducible first | apply At.c1 | apply At.c0); exact rfl; exact rfl; exact k3 _; exact ztk; kernel_rfl; rintro v' m' B' hm' ⟨rfl, rfl, rfl⟩; (try replace sl0 := sl0.mono hm'); (try (have hq0 : hm' = Mem.le_refl _ := rfl; clear hq0 hm'))) | ((with_reducible apply At.alloc (d := 5)); exact rfl; exact rfl; intro b5) | ((with_reducible apply At.alloc (d := 7)); exact rfl; exact rfl; intro b7) | (refine zsp ?_ ?_ <;> (intro hc; (try simp only [zhcs, reduceCtorEq] at hc); (try (exfalso; first | omega | contradiction | omega | exact absurd rfl hc | exact absurd (by decide) hc))))))
      all_goals rw [show uintB l.length ++ bodyL (l.take s) ++ textB l[s]!.n ++ textB l[s]!.v = uintB l.length ++ bodyL (l.take (s + 1)) by rw [e3]; simp only [List.append_assoc]]
      all_goals ((with_reducible refine At.reachk ((s + 1)) ?_ ?_ ?_ ?_); exact zsubs; exact zml; exact zente; exact ⟨h, by omega⟩)
    · rw [show l.take s = l from List.take_of_length_le (by omega)]
      (repeat' (first | refine zss ?_ | refine zsM ?_ | ((with_reducible first | apply AtM1.cr | apply AtQ.cr | apply At.cr); exact rfl; exact rfl; exact fun _ hmm => out b5 (uintB l.length ++ bodyL l); exact ztk; kernel_rfl) | ((with_reducible apply At.alloc (d := 5)); exact rfl; exact rfl; intro b5) | ((with_reducible apply At.alloc (d := 7)); exact rfl; exact rfl; intro b7) | (refine zsp ?_ ?_ <;> (intro hc; (try simp only [zhcs, reduceCtorEq] at hc); (try (exfalso; first | omega | contradiction | omega | exact absurd rfl hc | exact absurd (by decide) hc))))))
      all_goals ((with_reducible apply At.retV (B := [])); exact rfl; (repeat' (first | exact RVs.nil | (with_reducible apply RVs.cons) | exact rv_tmp (by rfl) | exact rv_cellN (by rfl) (by repeat constructor) (by rfl) (by rfl) (by rfl) | exact rv_cell1 (by rfl) (by repeat constructor) (by rfl) (by rfl))); exact zml; exact zkp; exact ⟨rfl, rfl, rfl⟩)
  · rw [if_neg hr]
    have hd : chk l ≠ 0 := fun k => hr (chk_right.1 k)
    generalize chk l = w at hk hd ⊢
    refine Ct.enterV (by rfl) Try.func38 rfl Try.ntmps38 rfl (fun w0 Rest => ?_)
    (repeat' (first | refine zss ?_ | refine zsM ?_ | ((with_reducible first | apply AtM1.cr | apply AtQ.cr | apply At.cr); exact rfl; exact rfl; exact fun _ hmm => hk _ hmm; exact ztk; kernel_rfl) | ((with_reducible apply At.alloc (d := 5)); exact rfl; exact rfl; intro b5) | ((with_reducible apply At.alloc (d := 7)); exact rfl; exact rfl; intro b7) | (refine zsp ?_ ?_ <;> (intro hc; (try simp only [zhcs, reduceCtorEq] at hc); (try (exfalso; first | (first | omega | exact absurd hc hd) | contradiction | omega | exact absurd rfl hc | exact absurd (by decide) hc))))))
    all_goals ((with_reducible apply At.retV (B := [])); exact rfl; (repeat' (first | exact RVs.nil | (with_reducible apply RVs.cons) | exact rv_tmp (by rfl) | exact rv_cellN (by rfl) (by repeat constructor) (by rfl) (by rfl) (by rfl) | exact rv_cell1 (by rfl) (by repeat constructor) (by rfl) (by rfl))); exact zml; exact zkp; exact ⟨rfl, rfl, rfl⟩)
end Lb
end Go.Proofs.Ytoplagjjojlceaa
/- What is read: the contracts of codec's reader and of the document's. -/
set_option linter.unusedSimpArgs false
set_option linter.unusedVariables false
set_option linter.unusedSectionVars false
set_option maxRecDepth 20000
set_option maxHeartbeats 4000000
namespace Go.Proofs.Ytoplagjjojlceaa
open Go Go.J
attribute [local irreducible] At AtQ AtM AtM1 PR Ct Pu Rd Res.blk Res.own Res.ex RVs RV Cod.W
namespace Cod
/-- a number's bytes, from the i-th one on -/
def dec : Nat → List UInt8 → Option (Nat × List UInt8)
  | _, [] => none
  | i, c :: r => if 9 < i ∨ (i = 9 ∧ 1 < c.toNat) then none else if 128 ≤ c.toNat then (match dec (i + 1) r with
      | some x => some (c.toNat % 128 + 128 * x.1, x.2)
      | none => none) else if c.toNat = 0 ∧ 0 < i then none else some (c.toNat, r)
theorem dec_ten (l : List UInt8) (i : Nat) (h : 9 < i) : dec i l = none := by
  cases l with
  | nil => rfl
  | cons c r => rw [dec, if_pos (.inl h)]
theorem ofNat_toNat (c : UInt8) : UInt8.ofNat c.toNat = c := by simp
theorem dec_spec : ∀ (l : List UInt8) (i n : Nat) (s : List UInt8), dec i l = some (n, s) → l = uintB n ++ s ∧ n < 2 ^ (64 - 7 * i) ∧ (0 < i → n ≠ 0) ∧ i ≤ 9
  | [], _, _, _, h => by cases h
  | c :: r, i, n, s, h => by
    have hc := c.toNat_lt
    unfold dec at h
    by_cases h1 : 9 < i ∨ (i = 9 ∧ 1 < c.toNat)
    · rw [if_pos h1] at h; cases h
    · rw [if_neg h1] at h
      by_cases h2 : 128 ≤ c.toNat
      · rw [if_pos h2] at h
        cases hd : dec (i + 1) r with
        | none => rw [hd] at h; cases h
        | some x =>
          obtain ⟨n', s'⟩ := x
          rw [hd] at h
          simp only [Option.some.injEq, Prod.mk.injEq] at h
          obtain ⟨h3, rfl⟩ := h
          obtain ⟨g1, g2, g3, g4⟩ := dec_spec r (i + 1) n' s' hd
          have g5 := g3 (by omega)
          have hpow : 2 ^ (64 - 7 * i) = 128 * 2 ^ (64 - 7 * (i + 1)) := by
            rw [show (128 : Nat) = 2 ^ 7 from rfl, ← Nat.pow_add]; congr 1; omega
          refine ⟨?_, by rw [hpow]; omega, fun _ => by omega, by omega⟩
          subst h3
          rw [uintB_ge (by omega), g1, show (c.toNat % 128 + 128 * n') % 128 + 128 = c.toNat by omega, show (c.toNat % 128 + 128 * n') / 128 = n' by omega, ofNat_toNat]
          rfl
      · rw [if_neg h2] at h
        by_cases h3 : c.toNat = 0 ∧ 0 < i
        · rw [if_pos h3] at h; cases h
        · rw [if_neg h3] at h
          simp only [Option.some.injEq, Prod.mk.injEq] at h
          obtain ⟨rfl, rfl⟩ := h
          refine ⟨by rw [uintB_lt (by omega), ofNat_toNat]; rfl, ?_, fun hi => by omega, by omega⟩
          by_cases h9 : i = 9
          · subst h9
            show _ < 2
            omega
          · have : 2 ^ 7 ≤ 2 ^ (64 - 7 * i) := Nat.pow_le_pow_right (by decide) (by omega)
            omega
theorem dec_back : ∀ (k n i : Nat) (s : List UInt8), 9 - i = k → i ≤ 9 → n < 2 ^ (64 - 7 * i) → (0 < i → n ≠ 0) → dec i (uintB n ++ s) = some (n, s)
  | 0, n, i, s, hk, h0, h1, h2 => by
    have h9 : i = 9 := by omega
    subst h9
    have hn : n < 2 := h1
    rw [uintB_lt (by omega), List.singleton_append, dec]
    have e : (UInt8.ofNat n).toNat = n := by
      have := bI_of (n := n) (by omega)
      unfold bI at this; omega
    rw [e, if_neg (by omega), if_neg (by omega), if_neg (by have := h2 (by omega); omega)]
  | k + 1, n, i, s, hk, h0, h1, h2 => by
    by_cases hn : n < 128
    · rw [uintB_lt hn, List.singleton_append, dec]
      have e : (UInt8.ofNat n).toNat = n := by
        have := bI_of (n := n) (by omega)
        unfold bI at this; omega
      rw [e, if_neg (by omega), if_neg (by omega), if_neg (by intro h; have := h2 h.2; omega)]
    · have hpow : 2 ^ (64 - 7 * i) = 128 * 2 ^ (64 - 7 * (i + 1)) := by
        rw [show (128 : Nat) = 2 ^ 7 from rfl, ← Nat.pow_add]; congr 1; omega
      have := dec_back k (n / 128) (i + 1) s (by omega) (by omega) (by rw [hpow] at h1; omega) (fun _ => by omega)
      rw [uintB_ge hn, List.cons_append, dec, this]
      have e : (UInt8.ofNat (n % 128 + 128)).toNat = n % 128 + 128 := by
        have := bI_of (n := n % 128 + 128) (by omega)
        unfold bI at this; omega
      rw [e, if_neg (by omega), if_pos (by omega)]
      simp only [Option.some.injEq, Prod.mk.injEq, and_true]
      omega
theorem dec_uint {n : Nat} (h : n < 18446744073709551616) (s : List UInt8) : dec 0 (uintB n ++ s) = some (n, s) := dec_back 9 n 0 s rfl (by decide) h (fun h => absurd h (by decide))

abbrev RS := List UInt8 × Bool
def rU (s : RS) : Nat × RS := match dec 0 s.1 with
  | some x => (x.1, (x.2, s.2))
  | none => (0, ([], true))
theorem rU_lt (s : RS) : (rU s).1 < 18446744073709551616 := by
  unfold rU
  cases h : dec 0 s.1 with
  | none => simp
  | some x =>
    obtain ⟨n, r⟩ := x
    have := (dec_spec _ _ _ _ h).2.1
    simpa using this
abbrev rv (s : RS) : Value := .agg #[.string (str s.1), .bool s.2]

/-- what is had of the first i bytes, none of which is the last one -/
structure Part (l : List UInt8) (i A : Nat) : Prop where
  le : i ≤ l.length
  lt : A < 128 ^ i
  dec : dec 0 l = (match dec i (l.drop i) with
    | some x => some (A + 128 ^ i * x.1, x.2)
    | none => none)
  pre : ∀ n', n' ≠ 0 ∨ i = 0 → uintB (A + 128 ^ i * n') = l.take i ++ uintB n'
theorem Part.zero (l : List UInt8) : Part l 0 0 := by
  refine ⟨Nat.zero_le _, by decide, ?_, fun n' _ => by simp⟩
  rw [List.drop_zero]
  cases Cod.dec 0 l with
  | none => rfl
  | some x => simp
theorem drop_cons {l : List UInt8} {i : Nat} (h : i < l.length) : l.drop i = l[i]! :: l.drop (i + 1) := by
  rw [getElem!_pos l i h, List.drop_eq_getElem_cons h]
theorem take_snoc {l : List UInt8} {i : Nat} (h : i < l.length) : l.take (i + 1) = l.take i ++ [l[i]!] := by
  rw [List.take_add_one, getElem!_pos l i h]; simp [h]
theorem Part.none1 {l : List UInt8} {i A : Nat} (h : Part l i A) (hi : l.length ≤ i ∨ 9 < i) : Cod.dec 0 l = none := by
  rw [h.dec]
  have : Cod.dec i (l.drop i) = none := by
    rcases hi with hi | hi
    · rw [List.drop_eq_nil_of_le hi]; rfl
    · exact dec_ten _ _ hi
  rw [this]
theorem Part.none2 {l : List UInt8} {i A : Nat} (h : Part l i A) (hi : i < l.length) (hc : (i = 9 ∧ 1 < (l[i]!).toNat) ∨ ((l[i]!).toNat = 0 ∧ 0 < i)) : Cod.dec 0 l = none := by
  rw [h.dec, drop_cons hi]
  have : Cod.dec i (l[i]! :: l.drop (i + 1)) = none := by
    unfold Cod.dec
    rcases hc with hc | hc
    · rw [if_pos (.inr hc)]
    · by_cases h9 : 9 < i ∨ (i = 9 ∧ 1 < (l[i]!).toNat)
      · rw [if_pos h9]
      · rw [if_neg h9, if_neg (by omega), if_pos hc]
  rw [this]
theorem Part.some1 {l : List UInt8} {i A : Nat} (h : Part l i A) (hi : i < l.length) (h9 : ¬ (9 < i ∨ (i = 9 ∧ 1 < (l[i]!).toNat))) (h1 : (l[i]!).toNat < 128) (h2 : ¬ ((l[i]!).toNat = 0 ∧ 0 < i)) :
    Cod.dec 0 l = some (A + 128 ^ i * (l[i]!).toNat, l.drop (i + 1)) ∧ uintB (A + 128 ^ i * (l[i]!).toNat) = l.take (i + 1) := by
  refine ⟨?_, ?_⟩
  · rw [h.dec, drop_cons hi]
    unfold Cod.dec
    rw [if_neg h9, if_neg (by omega), if_neg h2]
  · rw [h.pre _ (by omega), uintB_lt h1, take_snoc hi, ofNat_toNat]
theorem Part.more {l : List UInt8} {i A : Nat} (h : Part l i A) (hi : i < l.length) (h9 : ¬ (9 < i ∨ (i = 9 ∧ 1 < (l[i]!).toNat))) (h1 : 128 ≤ (l[i]!).toNat) : Part l (i + 1) (A + 128 ^ i * ((l[i]!).toNat % 128)) := by
  have hc := (l[i]!).toNat_lt
  refine ⟨hi, ?_, ?_, fun n' hn => ?_⟩
  · have := h.lt
    have h2 : 128 ^ i * ((l[i]!).toNat % 128) ≤ 128 ^ i * 127 := Nat.mul_le_mul_left _ (by omega)
    rw [Nat.pow_succ]; omega
  · rw [h.dec, drop_cons hi]
    conv => lhs; unfold Cod.dec
    rw [if_neg h9, if_pos h1]
    cases Cod.dec (i + 1) (l.drop (i + 1)) with
    | none => rfl
    | some x =>
      simp only [Option.some.injEq, Prod.mk.injEq, and_true]
      rw [Nat.pow_succ, Nat.mul_add, Nat.add_assoc, Nat.mul_assoc]
  · have hn' : n' ≠ 0 := by omega
    have := h.pre ((l[i]!).toNat % 128 + 128 * n') (by omega)
    rw [uintB_ge (n := (l[i]!).toNat % 128 + 128 * n') (by omega), show ((l[i]!).toNat % 128 + 128 * n') % 128 + 128 = (l[i]!).toNat by omega, show ((l[i]!).toNat % 128 + 128 * n') / 128 = n' by omega, ofNat_toNat] at this
    rw [Nat.pow_succ, Nat.add_assoc, Nat.mul_assoc, ← Nat.mul_add, this, take_snoc hi, List.append_assoc]
    rfl
theorem pow7 (i : Nat) : (2 : Nat) ^ (7 * i) = 128 ^ i := by rw [Nat.pow_mul]
theorem pow7I (i : Nat) : (2 : Int) ^ (7 * (i : Int)).toNat = ((128 ^ i : Nat) : Int) := by
  rw [show (7 * (i : Int)).toNat = 7 * i by omega, ← pow7, Int.natCast_pow]; rfl
theorem pow_le9 {i : Nat} (h : i ≤ 9) : 128 ^ i ≤ 9223372036854775808 := Nat.le_trans (Nat.pow_le_pow_right (by decide) h) (by decide)
theorem pow_le8 {i : Nat} (h : i ≤ 8) : 128 ^ i ≤ 72057594037927936 := Nat.le_trans (Nat.pow_le_pow_right (by decide) h) (by decide)
theorem part_bd {i c : Nat} (hi : i ≤ 9) (h9 : ¬ (i = 9 ∧ 1 < c)) (hc : c < 256) : 128 ^ i * (c % 128) ≤ 9223372036854775808 := by
  by_cases h : i ≤ 8
  · exact Nat.le_trans (Nat.mul_le_mul (pow_le8 h) (show c % 128 ≤ 127 by omega)) (by decide)
  · have e : i = 9 := by omega
    subst e
    exact Nat.le_trans (Nat.mul_le_mul (pow_le9 (Nat.le_refl 9)) (show c % 128 ≤ 1 by omega)) (by decide)
theorem shl7 {i c : Nat} (hi : i ≤ 9) (h9 : ¬ (i = 9 ∧ 1 < c)) (hc : c < 256) : IntKind.u64.wrap (((c % 128 : Nat) : Int) * 2 ^ (7 * (i : Int)).toNat) = ((128 ^ i * (c % 128) : Nat) : Int) := by
  rw [pow7I, IntKind.wrap_u64, ← Int.natCast_mul, Nat.mul_comm]
  have := part_bd hi h9 hc
  have hy : 128 ^ i * (c % 128) < 18446744073709551616 := by omega
  exact Int.emod_eq_of_lt (Int.natCast_nonneg _) (Int.ofNat_lt.2 hy)
theorem andnot128 (c : UInt8) : bits .andNot .u8 (bI c) 128 = ((c.toNat % 128 : Nat) : Int) := by
  have := bI_bd c
  rw [u8_andNot _ _ (by omega) (by omega) (by omega) (by omega)]
  have e : (bI c).toNat = c.toNat := by unfold bI; omega
  rw [e]
  congr 1
  exact Nat.and_two_pow_sub_one_eq_mod c.toNat 7
theorem and128 (c : UInt8) : bits .and .u8 (bI c) 128 = 128 * ((c.toNat / 128 : Nat) : Int) := by
  have := bI_bd c
  have hc := c.toNat_lt
  rw [u8_and _ _ (by omega) (by omega) (by omega) (by omega)]
  have e : (bI c).toNat = c.toNat := by unfold bI; omega
  rw [e, show ((128 : Int)).toNat = 2 ^ 7 from rfl, nat_bit]
  show ((c.toNat / 128 % 2 * 128 : Nat) : Int) = _
  omega
theorem or_part {i A x : Nat} (hi : i ≤ 9) (hA : A < 128 ^ i) (hx : 128 ^ i * x < 18446744073709551616) : bits .or .u64 (A : Int) ((128 ^ i * x : Nat) : Int) = ((A + 128 ^ i * x : Nat) : Int) := by
  have := pow_le9 hi
  rw [u64_or_nat _ _ (by omega) (by omega), Nat.or_comm, nat_join (7 * i) _ _ (by rw [pow7]; exact Nat.mul_mod_right _ _) (by rw [pow7]; exact hA), Nat.add_comm]

structure RI where
  i : Nat
  A : Nat
def rR (n : Int) (s : RS) : List UInt8 × RS := if s.2 = true ∨ n < 0 ∨ (s.1.length : Int) < n then ([], ([], true)) else (s.1.take n.toNat, (s.1.drop n.toNat, false))
def unzig (n : Nat) : Int := if n % 2 = 1 then -((n / 2 : Nat) : Int) - 1 else ((n / 2 : Nat) : Int)
def rI (s : RS) : Int × RS := (unzig (rU s).1, (rU s).2)
theorem unzig_bd {n : Nat} (h : n < 18446744073709551616) : -9223372036854775808 ≤ unzig n ∧ unzig n ≤ 9223372036854775807 := by unfold unzig; split <;> omega
theorem i64_xor0 {y : Int} (h0 : 0 ≤ y) (h1 : y < 9223372036854775808) : bits .xor .i64 y 0 = y := by
  unfold bits
  simp only
  have : (BitVec.ofInt IntKind.i64.bits y ^^^ BitVec.ofInt IntKind.i64.bits 0) = BitVec.ofInt IntKind.i64.bits y := by simp
  rw [this, BitVec.toNat_ofInt, IntKind.wrap_i64]
  simp only [IntKind.bits]
  omega
theorem i64_xorm {y : Int} (h0 : 0 ≤ y) (h1 : y < 9223372036854775808) : bits .xor .i64 y (-1) = -y - 1 := by
  unfold bits
  simp only
  have : (BitVec.ofInt IntKind.i64.bits y ^^^ BitVec.ofInt IntKind.i64.bits (-1)) = ~~~ BitVec.ofInt IntKind.i64.bits y := by
    have e : BitVec.ofInt IntKind.i64.bits (-1) = BitVec.allOnes IntKind.i64.bits := by show BitVec.ofInt 64 (-1) = BitVec.allOnes 64; decide
    rw [e]
    exact BitVec.xor_allOnes
  rw [this, BitVec.toNat_not, BitVec.toNat_ofInt, IntKind.wrap_i64]
  simp only [IntKind.bits]
  omega
theorem rU_le (s : RS) : (rU s).2.1.length ≤ s.1.length := by
  unfold rU
  cases h : dec 0 s.1 with
  | none => simp
  | some x =>
    obtain ⟨n, r⟩ := x
    have := congrArg List.length (dec_spec _ _ _ _ h).1
    simp at this ⊢; omega
def rT (most : Int) (s : RS) : List UInt8 × RS := if most < 0 ∨ most < ((rU s).1 : Int) ∨ ((rU s).2.1.length : Int) < ((rU s).1 : Int) then ([], ([], true)) else rR ((rU s).1 : Int) (rU s).2
/-- a fixed number out of its bytes -/
def num (l : List UInt8) : Nat := l.foldl (fun n c => 256 * n + c.toNat) 0
theorem num_snoc (l : List UInt8) (c : UInt8) : num (l ++ [c]) = 256 * num l + c.toNat := by simp [num]
theorem num_lt : ∀ l : List UInt8, num l < 256 ^ l.length := fun l => by
  have : ∀ (k : Nat) (l : List UInt8), l.length = k → num l < 256 ^ k := by
    intro k
    induction k with
    | zero => intro l h; rw [List.eq_nil_of_length_eq_zero h]; decide
    | succ k ih =>
      intro l h
      have hne : l ≠ [] := by intro e; subst e; simp at h
      have e := List.dropLast_concat_getLast hne
      rw [← e, num_snoc, Nat.pow_succ]
      have := ih l.dropLast (by simp [h])
      have := (l.getLast hne).toNat_lt
      omega
  exact this _ _ rfl
def rF (w : Int) (s : RS) : Nat × RS := if 1 ≤ w ∧ w ≤ 8 then (num (rR w s).1, (rR w s).2) else (0, ([], true))
structure FI where
  i : Nat
  a : Nat
theorem shl8_or {a c : Nat} (ha : a < 72057594037927936) (hc : c < 256) : bits .or .u64 ((a : Int) * 256) (c : Int) = ((256 * a + c : Nat) : Int) := by
  rw [show (a : Int) * 256 = ((256 * a : Nat) : Int) by omega, u64_or_nat _ _ (by omega) (by omega), nat_join 8 _ _ (by show 256 * a % 256 = 0; omega) (by show c < 256; omega)]
theorem shl8_or' {a c : Nat} {y : Int} (hy : y = (c : Int)) (ha : a < 72057594037927936) (hc : c < 256) : bits .or .u64 ((a : Int) * 2 ^ Int.toNat 8) y = ((256 * a + c : Nat) : Int) := by
  subst hy
  rw [show (2 : Int) ^ Int.toNat 8 = 256 from rfl]
  exact shl8_or ha hc
theorem num_take {l : List UInt8} {i : Nat} (h : i < l.length) : num (l.take (i + 1)) = 256 * num (l.take i) + (l[i]!).toNat := by rw [take_snoc h, num_snoc]
theorem num_bd {l : List UInt8} {i : Nat} (h : i < l.length) (h8 : l.length ≤ 8) : num (l.take i) < 72057594037927936 := by
  have h1 := num_lt (l.take i)
  have h2 : 256 ^ (l.take i).length ≤ 256 ^ 7 := Nat.pow_le_pow_right (by decide) (by simp; omega)
  exact Nat.lt_of_lt_of_le h1 (Nat.le_trans h2 (by decide))
theorem map_get {l : List UInt8} {i : Nat} (h : i < l.length) : (l.map bI)[i]! = ((l[i]!).toNat : Int) := by
  rw [getElem!_pos _ i (by simpa using h), getElem!_pos l i h, List.getElem_map]; rfl
theorem rR_len {w : Int} {s : RS} (hw : 1 ≤ w ∧ w ≤ 8) : (rR w s).1.length ≤ 8 := by
  unfold rR
  split
  · simp
  · simp; omega
/-! ### the document's reader -/
structure RJ where
  i : Nat
  A : Nat
end Cod
end Go.Proofs.Ytoplagjjojlceaa
/- Labels as bytes: Of. -/
set_option linter.unusedSimpArgs false
set_option linter.unusedVariables false
set_option linter.unusedSectionVars false
set_option maxRecDepth 20000
set_option maxHeartbeats 4000000
namespace Go.Proofs.Ytoplagjjojlceaa
open Go Go.J
attribute [local irreducible] At AtQ AtM AtM1 PR Ct Pu Rd Res.blk Res.own Res.ex RVs RV Cod.W
namespace Lb
open Cod
/-- one label, as it is read -/
def rdO (s : RS) : Lab := ⟨(rT 64 s).1, (rT 128 (rT 64 s).2).1⟩
def rdS (s : RS) : RS := (rT 128 (rT 64 s).2).2
def rdl : Nat → Nat → List Lab → RS → List Lab × RS
  | 0, _, o, s => (o, s)
  | f + 1, n, o, s => if 0 < n ∧ s.2 = false then rdl f (n - 1) (o ++ [rdO s]) (rdS s) else (o, s)
/-- the labels of bytes, or why there are none -/
def ofR (t : List UInt8) : List Lab × RS := rdl 17 (rU (t, false)).1 [] (rU (t, false)).2
def okOf (t : List UInt8) : Prop := (ofR t).2.2 = false ∧ (ofR t).2.1 = [] ∧ right (ofR t).1
instance (t : List UInt8) : Decidable (okOf t) := by unfold okOf; infer_instance
def ofL (t : List UInt8) : List Lab := if okOf t then (ofR t).1 else []
def ofE (t : List UInt8) : Int := if okOf t then 0 else 4
theorem rT_len (most : Int) (s : RS) (hm : 0 ≤ most) : ((rT most s).1.length : Int) ≤ most := by
  unfold rT
  split
  · exact hm
  · rename_i h
    unfold rR
    split
    · exact hm
    · rename_i h2
      dsimp only
      rw [List.length_take, Int.toNat_natCast]
      omega
theorem rT_le (n : Int) (s : RS) : (rT n s).2.1.length ≤ s.1.length := by
  unfold rT
  split
  · simp
  · unfold rR
    split
    · simp
    · have := rU_le s
      simp only [List.length_drop]
      omega
theorem rdS_le (s : RS) : (rdS s).1.length ≤ s.1.length := Nat.le_trans (rT_le _ _) (rT_le _ _)
structure OS where
  (f n : Nat) (o : List Lab) (s : RS) (p : Option Addr) (c : Nat)
def PostO (l : List Lab) (w : Int) : Value → Mem → List Res → Prop := fun v m' B => B = [] ∧ ∃ p c, v = .tuple #[.slice p l.length c, .int .i64 w] ∧ Sl m' cells 2 p c l
theorem rdO_bd (s : RS) : (rdO s).n.length ≤ 64 ∧ (rdO s).v.length ≤ 128 := by
  have h1 := rT_len 64 s (by decide)
  have h2 := rT_len 128 (rT 64 s).2 (by decide)
  unfold rdO
  exact ⟨by show (rT 64 s).1.length ≤ 64; omega, by show (rT 128 (rT 64 s).2).1.length ≤ 128; omega⟩
end Lb
end Go.Proofs.Ytoplagjjojlceaa
/- Labels' bytes there and back (plain). -/
set_option linter.unusedSimpArgs false
set_option linter.unusedVariables false
set_option linter.unusedSectionVars false
set_option maxRecDepth 20000
set_option maxHeartbeats 4000000
namespace Go.Proofs.Ytoplagjjojlceaa
open Go Go.J
namespace Lb
open Cod
theorem rU_bk {n : Nat} (h : n < 18446744073709551616) (r : List UInt8) : rU (uintB n ++ r, false) = (n, (r, false)) := by unfold rU; rw [dec_uint h r]
theorem rT_bk {t : List UInt8} {most : Int} (h : (t.length : Int) ≤ most) (h2 : t.length < 10000000000) (r : List UInt8) : rT most (textB t ++ r, false) = (t, (r, false)) := by
  unfold rT textB
  rw [List.append_assoc, rU_bk (by omega)]
  rw [if_neg (by simp only [List.length_append]; omega)]
  unfold rR
  rw [if_neg (by simp only [List.length_append]; exact fun h => h.elim (fun h => by cases h) (fun h => by omega))]
  simp
theorem rT_fwd {k : Int} {l : List UInt8} (h : (rT k (l, false)).2.2 = false) : l = textB (rT k (l, false)).1 ++ (rT k (l, false)).2.1 := by
  unfold rT at h ⊢
  split at h
  · cases h
  rename_i hc
  rw [if_neg hc]
  unfold rR at h ⊢
  split at h
  · cases h
  rename_i hr
  rw [if_neg hr]
  dsimp only
  cases hd : Cod.dec 0 l with
  | none =>
    exfalso
    have : (rU (l, false)).2.2 = true := by unfold rU; rw [hd]
    exact hr (.inl this)
  | some x =>
    obtain ⟨n, r⟩ := x
    have hs := dec_spec l 0 n r hd
    have e : rU (l, false) = (n, (r, false)) := by unfold rU; rw [hd]
    rw [e] at hc hr ⊢
    dsimp only at hc hr ⊢
    rw [Int.toNat_natCast]
    unfold textB
    rw [List.length_take, show min n r.length = n by omega, List.append_assoc, List.take_append_drop]
    exact hs.1
theorem rT_badin {k : Int} {l : List UInt8} : (rT k (l, true)).2.2 = true := by
  unfold rT
  split
  · rfl
  unfold rR
  have : (rU (l, true)).2.2 = true := by
    unfold rU
    cases Cod.dec 0 l <;> rfl
  rw [if_pos (.inl this)]
theorem rdS_fwd {l : List UInt8} (h : (rdS (l, false)).2 = false) : l = oneL (rdO (l, false)) ++ (rdS (l, false)).1 := by
  unfold rdS at h ⊢
  unfold rdO oneL
  cases hb : (rT 64 (l, false)).2.2 with
  | true =>
    have : (rT 64 (l, false)).2 = ((rT 64 (l, false)).2.1, true) := Prod.ext rfl hb
    rw [this, rT_badin] at h
    cases h
  | false =>
    have e1 := rT_fwd hb
    have e2 : (rT 64 (l, false)).2 = ((rT 64 (l, false)).2.1, false) := Prod.ext rfl hb
    have h2 := h
    rw [e2] at h2
    have e3 := rT_fwd h2
    rw [← e2] at e3
    dsimp only
    rw [List.append_assoc, ← e3, ← e1]
theorem rdl_fwd : ∀ (f n : Nat) (o : List Lab) (l : List UInt8), (rdl f n o (l, false)).2.2 = false →
    ∃ new, (rdl f n o (l, false)).1 = o ++ new ∧ l = bodyL new ++ (rdl f n o (l, false)).2.1 ∧ (new.length = n ∨ new.length = f)
  | 0, n, o, l, _ => ⟨[], by simp [rdl], by simp [rdl, bodyL], .inr rfl⟩
  | f + 1, n, o, l, h => by
    by_cases hn : 0 < n
    · have e : rdl (f + 1) n o (l, false) = rdl f (n - 1) (o ++ [rdO (l, false)]) (rdS (l, false)) := by show (if _ then _ else _) = _; rw [if_pos ⟨hn, rfl⟩]
      rw [e] at h ⊢
      cases hb : (rdS (l, false)).2 with
      | true =>
        exfalso
        have : (rdl f (n - 1) (o ++ [rdO (l, false)]) (rdS (l, false))).2.2 = true := by
          cases f with
          | zero => exact hb
          | succ f => show (if _ then _ else _ : List Lab × RS).2.2 = true; rw [if_neg fun k => by rw [hb] at k; cases k.2]; exact hb
        rw [this] at h; cases h
      | false =>
        have e2 : rdS (l, false) = ((rdS (l, false)).1, false) := Prod.ext rfl hb
        have e3 := rdS_fwd hb
        rw [e2] at h
        obtain ⟨new, g1, g2, g3⟩ := rdl_fwd f (n - 1) (o ++ [rdO (l, false)]) _ h
        rw [← e2] at g1 g2
        refine ⟨rdO (l, false) :: new, ?_, ?_, ?_⟩
        · rw [g1, List.append_assoc]; rfl
        · show l = (oneL (rdO (l, false)) ++ bodyL new) ++ _
          rw [List.append_assoc, ← g2, ← e3]
        · rw [List.length_cons]; omega
    · refine ⟨[], ?_, ?_, .inl (by simp; omega)⟩
      · show (if _ then _ else _ : List Lab × RS).1 = _
        rw [if_neg fun k => hn k.1, List.append_nil]
      · show l = _ ++ (if _ then _ else _ : List Lab × RS).2.1
        rw [if_neg fun k => hn k.1]; rfl
/-- what is had of bytes has these -/
theorem of_bytes {t : List UInt8} (h : okOf t) : bytesL (ofL t) = t ∧ right (ofL t) := by
  have e : ofL t = (ofR t).1 := if_pos h
  obtain ⟨h1, h2, h3⟩ := h
  rw [e]
  refine ⟨?_, h3⟩
  unfold ofR at *
  cases hd : Cod.dec 0 t with
  | none =>
    exfalso
    have e0 : rU (t, false) = (0, ([], true)) := by unfold rU; rw [hd]
    rw [e0] at h1
    have : (rdl 17 0 [] ([], true)).2.2 = true := rfl
    rw [this] at h1; cases h1
  | some x =>
    obtain ⟨n, r⟩ := x
    have hs := dec_spec t 0 n r hd
    have e0 : rU (t, false) = (n, (r, false)) := by unfold rU; rw [hd]
    rw [e0] at h1 h2 h3 ⊢
    dsimp only at h1 h2 h3 ⊢
    obtain ⟨new, g1, g2, g3⟩ := rdl_fwd 17 n [] r h1
    rw [h2, List.append_nil] at g2
    rw [List.nil_append] at g1
    rw [g1] at h3 ⊢
    have h16 := h3.2.1
    unfold bytesL
    rw [show new.length = n by omega, ← g2]
    exact hs.1.symm
theorem rdl_back : ∀ (new : List Lab) (f : Nat) (o : List Lab), new.length ≤ f → (∀ x ∈ new, x.n.length ≤ 64 ∧ x.v.length ≤ 128) → rdl f new.length o (bodyL new, false) = (o ++ new, ([], false))
  | [], f, o, _, _ => by
    rw [List.append_nil]
    cases f with
    | zero => rfl
    | succ f => show (if _ then _ else _) = _; rw [if_neg fun k => absurd k.1 (Nat.lt_irrefl 0)]; rfl
  | x :: new, 0, o, h, _ => absurd h (by simp)
  | x :: new, f + 1, o, h, hx => by
    have hb := hx x (List.mem_cons_self ..)
    have e1 : rT 64 (textB x.n ++ (textB x.v ++ bodyL new), false) = (x.n, (textB x.v ++ bodyL new, false)) := rT_bk (by omega) (by omega) _
    have e2 : rT 128 (textB x.v ++ bodyL new, false) = (x.v, (bodyL new, false)) := rT_bk (by omega) (by omega) _
    have e3 : bodyL (x :: new) = textB x.n ++ (textB x.v ++ bodyL new) := by
      show oneL x ++ bodyL new = _
      unfold oneL
      rw [List.append_assoc]
    rw [e3]
    show (if _ then _ else _) = _
    rw [if_pos ⟨by simp, rfl⟩, List.length_cons, Nat.add_sub_cancel]
    have e4 : rdO (textB x.n ++ (textB x.v ++ bodyL new), false) = x := by unfold rdO; rw [e1]; dsimp only; rw [e2]
    have e5 : rdS (textB x.n ++ (textB x.v ++ bodyL new), false) = (bodyL new, false) := by unfold rdS; rw [e1]; dsimp only; rw [e2]
    rw [e4, e5, rdl_back new f (o ++ [x]) (by simpa using h) (fun y hy => hx y (List.mem_cons_of_mem _ hy)), List.append_assoc]
    rfl
/-- right labels are had of their bytes -/
theorem of_back {l : List Lab} (h : right l) : ofL (bytesL l) = l ∧ ofE (bytesL l) = 0 := by
  have hln := h.2.1
  have e : ofR (bytesL l) = (l, ([], false)) := by
    unfold ofR bytesL
    rw [rU_bk (by omega)]
    dsimp only
    rw [rdl_back l 17 [] (by omega) (fun x hx => by
      obtain ⟨i, hi, rfl⟩ := List.mem_iff_getElem.1 hx
      have := right_at h hi
      rwa [getElem!_pos l i hi] at this)]
    rfl
  have hok : okOf (bytesL l) := by unfold okOf; rw [e]; exact ⟨rfl, rfl, h⟩
  exact ⟨by show (if _ then _ else _) = _; rw [if_pos hok, e], if_pos hok⟩
theorem bytes_inj {a b : List Lab} (ha : right a) (hb : right b) (h : bytesL a = bytesL b) : a = b := by
  rw [← (of_back ha).1, ← (of_back hb).1, h]
end Lb
end Go.Proofs.Ytoplagjjojlceaa
/- Names with places, in order (plain): where a name stands, what is put, dropped and found. -/
set_option linter.unusedSimpArgs false
set_option linter.unusedVariables false
set_option linter.unusedSectionVars false
set_option maxRecDepth 20000
set_option maxHeartbeats 4000000
namespace Go.Proofs.Ytoplagjjojlceaa
open Go Go.J
/-- a name with a place -/
structure Nmd where
  (s : List UInt8) (p : Int)
deriving DecidableEq, Inhabited
abbrev Nmd.v (x : Nmd) : Value := .agg #[.string (str x.s), .int .i64 x.p]
namespace Nm
abbrev cells : Nmd → List Value := fun x => [.string (str x.s), .int .i64 x.p]
instance : Fl cells 2 := ⟨fun _ => rfl, fun _ v h => by simp at h; rcases h with rfl | rfl <;> rfl, by decide⟩
def srt (l : List Nmd) : Prop := ∀ i j, i < j → j < l.length → ltB (l[i]!).s (l[j]!).s = true
def cmpS (a b : List UInt8) : Int := if ltB a b = true then -1 else if ltB b a = true then 1 else 0
def pos (l : List Nmd) (t : List UInt8) : Nat := (l.takeWhile fun x => ltB x.s t).length
def has (l : List Nmd) (t : List UInt8) : Bool := l.any fun x => decide (x.s = t)
theorem cmpS_lt {a b : List UInt8} (h : ltB a b = true) : cmpS a b = -1 := if_pos h
theorem cmpS_eq (a : List UInt8) : cmpS a a = 0 := by unfold cmpS; simp [ltB_irrefl]
theorem cmpS_ge {a b : List UInt8} (h : ltB a b = false) : 0 ≤ cmpS a b := by unfold cmpS; rw [h]; simp; split <;> decide
theorem cmpS_ne {a b : List UInt8} (h : a ≠ b) : cmpS a b ≠ 0 := by
  unfold cmpS
  rcases ltB_tri a b with k | k | k
  · rw [if_pos k]; decide
  · exact absurd k h
  · rw [if_neg (by rw [ltB_asymm k]; decide), if_pos k]; decide
theorem pos_eq {l : List Nmd} {t : List UInt8} {i : Nat} (hi : i ≤ l.length) (h1 : ∀ k, k < i → ltB (l[k]!).s t = true) (h2 : i < l.length → ltB (l[i]!).s t = false) : pos l t = i := by
  induction l generalizing i with
  | nil => simp only [List.length_nil] at hi; have : i = 0 := by omega
           subst this; rfl
  | cons x l ih =>
    cases i with
    | zero =>
      have := h2 (by simp)
      show (List.takeWhile (fun x => ltB x.s t) (x :: l)).length = 0
      rw [List.takeWhile_cons, if_neg (by simpa using this)]; rfl
    | succ i =>
      have h0 := h1 0 (by omega)
      show (List.takeWhile (fun x => ltB x.s t) (x :: l)).length = i + 1
      rw [List.takeWhile_cons, if_pos (by simpa using h0), List.length_cons]
      congr 1
      exact ih (by simpa using hi) (fun k hk => by simpa using h1 (k + 1) (by omega)) (fun hl => by simpa using h2 (by simpa using hl))
theorem pos_le (l : List Nmd) (t : List UInt8) : pos l t ≤ l.length := by
  unfold pos; exact (List.takeWhile_prefix _).length_le
theorem pos_lt {l : List Nmd} {t : List UInt8} {k : Nat} (h : k < pos l t) : ltB (l[k]!).s t = true := by
  induction l generalizing k with
  | nil => cases h
  | cons x l ih =>
    unfold pos at h
    rw [List.takeWhile_cons] at h
    split at h
    · rename_i hx
      cases k with
      | zero => simpa using hx
      | succ k => simpa using ih (k := k) (by simpa [pos] using h)
    · simp at h
theorem pos_ge {l : List Nmd} {t : List UInt8} (h : pos l t < l.length) : ltB (l[pos l t]!).s t = false := by
  induction l with
  | nil => cases h
  | cons x l ih =>
    unfold pos at h ⊢
    rw [List.takeWhile_cons] at h ⊢
    split
    · rename_i hx
      rw [if_pos hx] at h
      have := ih (by simpa [pos] using h)
      simpa [pos] using this
    · rename_i hx
      simpa using hx
theorem srt_lt {l : List Nmd} (h : srt l) {i j : Nat} (hj : j < l.length) (hij : ltB (l[i]!).s (l[j]!).s = true) (hi : i < l.length) : i < j := by
  rcases Nat.lt_trichotomy i j with k | k | k
  · exact k
  · subst k; rw [ltB_irrefl] at hij; cases hij
  · have := ltB_trans (h j i k hi) hij; rw [ltB_irrefl] at this; cases this
theorem has_iff {l : List Nmd} {t : List UInt8} : has l t = true ↔ ∃ i, i < l.length ∧ (l[i]!).s = t := by
  unfold has
  rw [List.any_eq_true]
  constructor
  · rintro ⟨x, hx, h⟩
    obtain ⟨i, hi, rfl⟩ := List.mem_iff_getElem.1 hx
    exact ⟨i, hi, by rw [getElem!_pos l i hi]; exact of_decide_eq_true h⟩
  · rintro ⟨i, hi, h⟩
    exact ⟨l[i]!, Ls.mem! hi, decide_eq_true h⟩
/-- where it stands, if it does -/
theorem at_has {l : List Nmd} (hs : srt l) {t : List UInt8} {i : Nat} (hi : i < l.length) (h : (l[i]!).s = t) : pos l t = i :=
  pos_eq (Nat.le_of_lt hi) (fun k hk => by rw [← h]; exact hs k i hk hi) (fun _ => by rw [h]; exact ltB_irrefl t)
theorem has_pos {l : List Nmd} (hs : srt l) (t : List UInt8) : has l t = decide (pos l t < l.length ∧ (l[pos l t]!).s = t) := by
  cases h : has l t with
  | true =>
    obtain ⟨i, hi, e⟩ := has_iff.1 h
    rw [at_has hs hi e, decide_eq_true ⟨hi, e⟩]
  | false =>
    symm; refine decide_eq_false fun ⟨h1, h2⟩ => ?_
    rw [has_iff.2 ⟨_, h1, h2⟩] at h; cases h
/-- what is put -/
def ins (l : List Nmd) (x : Nmd) : List Nmd := l.take (pos l x.s) ++ [x] ++ l.drop (pos l x.s)
def putL (l : List Nmd) (t : List UInt8) (p : Int) : List Nmd := if has l t then l else ins l ⟨t, p⟩
def dropL (l : List Nmd) (t : List UInt8) : List Nmd := l.filter fun x => decide (x.s ≠ t)
def getP (l : List Nmd) (t : List UInt8) : Int := if has l t then (l[pos l t]!).p else 0
def begs (l : List Nmd) (t : List UInt8) : List Nmd := l.filter fun x => decide (t <+: x.s)
theorem get_take {l : List Nmd} {i k : Nat} (h : k < i) : (l.take i)[k]! = l[k]! := by
  rw [List.getElem!_eq_getElem?_getD, List.getElem!_eq_getElem?_getD, List.getElem?_take, if_pos h]
theorem get_drop (l : List Nmd) (i k : Nat) : (l.drop i)[k]! = l[i + k]! := by
  rw [List.getElem!_eq_getElem?_getD, List.getElem!_eq_getElem?_getD, List.getElem?_drop]
theorem srt_pw {l : List Nmd} : srt l ↔ l.Pairwise fun a b => ltB a.s b.s = true := by
  rw [List.pairwise_iff_getElem]
  constructor
  · intro h i j hi hj hij
    have := h i j hij hj
    rwa [getElem!_pos l i hi, getElem!_pos l j hj] at this
  · intro h i j hij hj
    rw [getElem!_pos l i (by omega), getElem!_pos l j hj]
    exact h i j (by omega) hj hij
theorem srt_filter {l : List Nmd} (h : srt l) (f : Nmd → Bool) : srt (l.filter f) := srt_pw.2 ((srt_pw.1 h).filter f)
/-- a list in order, cut at a name: those ahead of it, and those behind it -/
theorem cut_take {l : List Nmd} (h : srt l) (t : List UInt8) : l.take (pos l t) = l.filter fun x => ltB x.s t := by
  induction l with
  | nil => rfl
  | cons x l ih =>
    have hs : srt l := srt_pw.2 (List.pairwise_cons.1 (srt_pw.1 h)).2
    have hx := (List.pairwise_cons.1 (srt_pw.1 h)).1
    cases hc : ltB x.s t with
    | true =>
      have hp : pos (x :: l) t = pos l t + 1 := by unfold pos; rw [List.takeWhile_cons, if_pos (by simpa using hc)]; rfl
      rw [hp, List.take_succ_cons, List.filter_cons, if_pos (by simpa using hc), ih hs]
    | false =>
      have hp : pos (x :: l) t = 0 := by unfold pos; rw [List.takeWhile_cons, if_neg (by simpa using hc)]; rfl
      rw [hp, List.take_zero]
      symm
      rw [List.filter_eq_nil_iff]
      intro a ha hb
      rcases List.mem_cons.1 ha with rfl | ha
      · rw [hc] at hb; cases hb
      · have := ltB_trans (hx a ha) hb; rw [hc] at this; cases this
theorem cut_drop {l : List Nmd} (h : srt l) (t : List UInt8) : l.drop (pos l t) = l.filter fun x => !ltB x.s t := by
  induction l with
  | nil => rfl
  | cons x l ih =>
    have hs : srt l := srt_pw.2 (List.pairwise_cons.1 (srt_pw.1 h)).2
    have hx := (List.pairwise_cons.1 (srt_pw.1 h)).1
    cases hc : ltB x.s t with
    | true =>
      have hp : pos (x :: l) t = pos l t + 1 := by unfold pos; rw [List.takeWhile_cons, if_pos (by simpa using hc)]; rfl
      rw [hp, List.drop_succ_cons, List.filter_cons, if_neg (by simpa using hc), ih hs]
    | false =>
      have hp : pos (x :: l) t = 0 := by unfold pos; rw [List.takeWhile_cons, if_neg (by simpa using hc)]; rfl
      rw [hp, List.drop_zero]
      symm
      rw [List.filter_eq_self]
      intro a ha
      rcases List.mem_cons.1 ha with rfl | ha
      · rw [hc]; rfl
      · cases hb : ltB a.s t with
        | false => rfl
        | true => have := ltB_trans (hx a ha) hb; rw [hc] at this; cases this
theorem cut_drop_gt {l : List Nmd} (h : srt l) {t : List UInt8} (hn : has l t = false) : l.drop (pos l t) = l.filter fun x => ltB t x.s := by
  rw [cut_drop h]
  refine List.filter_congr fun x hx => ?_
  have hne : x.s ≠ t := fun e => by
    have : has l t = true := List.any_eq_true.2 ⟨x, hx, decide_eq_true e⟩
    rw [hn] at this; cases this
  rcases ltB_tri x.s t with k | k | k
  · rw [k, ltB_asymm k]; rfl
  · exact absurd k hne
  · rw [k, ltB_asymm k]; rfl
theorem ins_doc {l : List Nmd} (h : srt l) {x : Nmd} (hn : has l x.s = false) : ins l x = (l.filter fun y => ltB y.s x.s) ++ [x] ++ l.filter fun y => ltB x.s y.s := by
  unfold ins; rw [cut_take h, cut_drop_gt h hn]
theorem srt_ins {l : List Nmd} (h : srt l) {x : Nmd} (hn : has l x.s = false) : srt (ins l x) := by
  rw [ins_doc h hn, srt_pw, List.append_assoc, List.pairwise_append]
  have hp := srt_pw.1 h
  refine ⟨hp.filter _, ?_, ?_⟩
  · rw [List.singleton_append, List.pairwise_cons]
    exact ⟨fun a ha => (List.mem_filter.1 ha).2, hp.filter _⟩
  · intro a ha b hb
    have h1 := (List.mem_filter.1 ha).2
    rcases List.mem_cons.1 hb with rfl | hb
    · exact h1
    · exact ltB_trans h1 (List.mem_filter.1 hb).2
theorem srt_put {l : List Nmd} (h : srt l) (t : List UInt8) (p : Int) : srt (putL l t p) := by
  unfold putL
  split
  · exact h
  · rename_i hn; exact srt_ins h (by simpa using hn)
theorem srt_drop {l : List Nmd} (h : srt l) (t : List UInt8) : srt (dropL l t) := srt_filter h _
theorem len_ins (l : List Nmd) (x : Nmd) : (ins l x).length = l.length + 1 := by
  unfold ins
  have := pos_le l x.s
  simp only [List.length_append, List.length_take, List.length_drop, List.length_singleton]; omega
theorem len_put (l : List Nmd) (t : List UInt8) (p : Int) : (putL l t p).length ≤ l.length + 1 := by
  unfold putL; split
  · omega
  · rw [len_ins]; exact Nat.le_refl _
theorem len_drop (l : List Nmd) (t : List UInt8) : (dropL l t).length ≤ l.length := List.length_filter_le _ _
/-- what is dropped stands at one place -/
theorem drop_at {l : List Nmd} (h : srt l) {i : Nat} (hi : i < l.length) : l.take i ++ l.drop (i + 1) = dropL l (l[i]!).s := by
  have e : l = l.take i ++ (l[i]! :: l.drop (i + 1)) := by rw [← Ls.drop_cons hi, List.take_append_drop]
  have hp := srt_pw.1 h
  rw [e, List.pairwise_append, List.pairwise_cons] at hp
  obtain ⟨_, ⟨h2, _⟩, h3⟩ := hp
  have h4 : dropL l (l[i]!).s = dropL (l.take i ++ (l[i]! :: l.drop (i + 1))) (l[i]!).s := congrArg (fun z => dropL z (l[i]!).s) e
  rw [h4]
  unfold dropL
  rw [List.filter_append, List.filter_cons, if_neg (by simp), List.filter_eq_self.2, List.filter_eq_self.2]
  · intro a ha; exact decide_eq_true (fun e => ltB_ne (h2 a ha) e.symm)
  · intro a ha; exact decide_eq_true (ltB_ne (h3 a ha _ (List.mem_cons_self ..)))
theorem drop_none {l : List Nmd} {t : List UInt8} (hn : has l t = false) : dropL l t = l := by
  unfold dropL
  rw [List.filter_eq_self]
  intro a ha
  refine decide_eq_true fun e => ?_
  have : has l t = true := List.any_eq_true.2 ⟨a, ha, decide_eq_true e⟩
  rw [hn] at this; cases this
/-- those that begin so stand beside one another -/
theorem begs_at {l : List Nmd} (h : srt l) (t : List UInt8) : (l.drop (pos l t)).takeWhile (fun x => decide (t <+: x.s)) = begs l t := by
  induction l with
  | nil => rfl
  | cons x l ih =>
    have hs : srt l := srt_pw.2 (List.pairwise_cons.1 (srt_pw.1 h)).2
    have hx := (List.pairwise_cons.1 (srt_pw.1 h)).1
    cases hc : ltB x.s t with
    | true =>
      have hp : pos (x :: l) t = pos l t + 1 := by unfold pos; rw [List.takeWhile_cons, if_pos (by simpa using hc)]; rfl
      have hn : ¬ t <+: x.s := fun e => by rw [pre_not_lt e] at hc; cases hc
      rw [hp, List.drop_succ_cons, ih hs]
      unfold begs
      rw [List.filter_cons, if_neg (by simpa using hn)]
    | false =>
      have hp : pos (x :: l) t = 0 := by unfold pos; rw [List.takeWhile_cons, if_neg (by simpa using hc)]; rfl
      rw [hp, List.drop_zero]
      unfold begs
      by_cases hb : t <+: x.s
      · rw [List.takeWhile_cons, if_pos (by simpa using hb), List.filter_cons, if_pos (by simpa using hb)]
        congr 1
        have hgs : ∀ (l : List Nmd), (∀ a ∈ l, ltB a.s t = false) → srt l → l.takeWhile (fun x => decide (t <+: x.s)) = l.filter fun x => decide (t <+: x.s) := by
          intro l
          induction l with
          | nil => intros; rfl
          | cons y l ih2 =>
            intro h1 h2
            have h2s : srt l := srt_pw.2 (List.pairwise_cons.1 (srt_pw.1 h2)).2
            have h2x := (List.pairwise_cons.1 (srt_pw.1 h2)).1
            by_cases hy : t <+: y.s
            · rw [List.takeWhile_cons, if_pos (by simpa using hy), List.filter_cons, if_pos (by simpa using hy), ih2 (fun a ha => h1 a (List.mem_cons_of_mem _ ha)) h2s]
            · rw [List.takeWhile_cons, if_neg (by simpa using hy), List.filter_cons, if_neg (by simpa using hy)]
              symm; rw [List.filter_eq_nil_iff]
              intro a ha; simpa using pre_gone (h1 y (List.mem_cons_self ..)) hy (h2x a ha)
        refine hgs l (fun a ha => ?_) hs
        cases k : ltB a.s t with
        | false => rfl
        | true => have := ltB_trans (hx a ha) k; rw [hc] at this; cases this
      · rw [List.takeWhile_cons, if_neg (by simpa using hb), List.filter_cons, if_neg (by simpa using hb)]
        symm; rw [List.filter_eq_nil_iff]
        intro a ha; simpa using pre_gone hc hb (hx a ha)
theorem filt_yes {α : Type} [Inhabited α] (f : α → Bool) (l : List α) (j : Nat) (hj : j < l.length) (h : f (l[j]!) = true) : (l.take (j + 1)).filter f = (l.take j).filter f ++ [l[j]!] := by
  rw [Ls.take_snoc hj, List.filter_append, List.filter_cons, if_pos h]; rfl
theorem filt_no {α : Type} [Inhabited α] (f : α → Bool) (l : List α) (j : Nat) (hj : j < l.length) (h : f (l[j]!) = false) : (l.take (j + 1)).filter f = (l.take j).filter f := by
  rw [Ls.take_snoc hj, List.filter_append, List.filter_cons, if_neg (by rw [h]; decide)]; simp
theorem drop_lt (l : List Nmd) (t : List UInt8) : decide ((dropL l t).length < l.length) = has l t := by
  cases h : has l t with
  | false => rw [drop_none h]; simp
  | true =>
    obtain ⟨x, hx, e⟩ := List.any_eq_true.1 h
    refine decide_eq_true (Nat.lt_of_le_of_ne (len_drop l t) fun hl => ?_)
    have := List.length_filter_eq_length_iff.1 hl x hx
    exact absurd (of_decide_eq_true e) (of_decide_eq_true this)
theorem begs_nil (l : List Nmd) : begs l [] = l := by
  unfold begs; rw [List.filter_eq_self]; intro a _; exact decide_eq_true List.nil_prefix
end Nm
end Go.Proofs.Ytoplagjjojlceaa
/- The contracts under the index of names: how two names stand, where one stands, whether a text begins so. -/
set_option linter.unusedSimpArgs false
set_option linter.unusedVariables false
set_option linter.unusedSectionVars false
set_option maxRecDepth 20000
set_option maxHeartbeats 4000000
namespace Go.Proofs.Ytoplagjjojlceaa
open Go Go.J
attribute [local irreducible] At AtQ AtM AtM1 PR Ct Pu Rd Res.blk Res.own Res.ex RVs RV
namespace Nm
structure BS where
  (i j : Nat)
end Nm
end Go.Proofs.Ytoplagjjojlceaa
/- The contracts of Sort, for few labels. -/
set_option linter.unusedSimpArgs false
set_option linter.unusedVariables false
set_option linter.unusedSectionVars false
set_option maxRecDepth 20000
set_option maxHeartbeats 4000000
namespace Go.Proofs.Ytoplagjjojlceaa
open Go Go.J
attribute [local irreducible] At AtQ AtM AtM1 PR Ct Pu Rd Res.blk Res.own Res.ex RVs RV
namespace Lb
abbrev oL (p : Option Addr) (c : Nat) (l : List Lab) : Res := .own cells 2 59 p c l
theorem one_srt (l : List Lab) : srtL (l.take 1) ++ l.drop 1 = l := by
  cases l with
  | nil => rfl
  | cons x l => rfl
theorem clone {m : Mem} (p : Option Addr) (c : Nat) (l : List Lab) (hl : l.length ≤ 1000000) (sl0 : Sl m cells 2 p c l) :
    Ct Try.prog 27 #[.slice p l.length c] m [] (fun v m' B => m = m' ∧ ∃ p2 c2, v = .slice p2 l.length c2 ∧ B = [oL p2 c2 l]) := by
  cases p with
  | none =>
    have h0 : l = [] := List.eq_nil_of_length_eq_zero (by have := sl0.nil rfl; have := sl0.le; omega)
    subst h0
    refine Ct.enterV (by rfl) Try.func27 rfl Try.ntmps27 rfl (fun w0 Rest => ?_)
    (repeat' (first | refine zss ?_ | ((first | (with_reducible first | apply At.val | apply AtQ.val)); (exact pr_sleql (by rfl) (by rfl) (by rfl)); exact rfl) | refine zsM ?_ | (refine zsp ?_ ?_ <;> (intro hc; (try simp only [zhcs, reduceCtorEq] at hc); (try (exfalso; first | contradiction | omega | exact absurd rfl hc | exact absurd (by decide) hc))))))
    all_goals refine At.own_nil cells 2 59 ?_
    all_goals ((with_reducible apply At.retB1 (B := [oL _ _ _])); exact rfl; exact rfl; exact zml; exact zkp; exact ⟨rfl, _, _, rfl, rfl⟩)
  | some a =>
    refine Ct.enterV (by rfl) Try.func27 rfl Try.ntmps27 rfl (fun w0 Rest => ?_)
    (repeat' (first | refine zss ?_ | ((first | (with_reducible first | apply At.val | apply AtQ.val)); (exact pr_sleql (by rfl) (by rfl) (by rfl)); exact rfl) | refine zsM ?_ | ((with_reducible apply At.lit cells ([] : List Lab)); exact inferInstance; (iterate 7 exact rfl); intro _) | ((with_reducible apply At.apW (f := cells)); exact rfl; exact rfl; exact (by repeat constructor); exact inferInstance; exact zrdl; (iterate 4 exact rfl); exact zom; exact rfl; intro _ _) | (refine zsp ?_ ?_ <;> (intro hc; (try simp only [zhcs, reduceCtorEq] at hc); (try (exfalso; first | contradiction | omega | exact absurd rfl hc | exact absurd (by decide) hc))))))
    all_goals ((with_reducible apply At.retB1 (B := [oL _ _ _])); exact rfl; exact rfl; exact zml; exact zkp; exact ⟨rfl, _, _, rfl, rfl⟩)
/-- labels, that stay -/
def PostL (l : List Lab) : Value → Mem → List Res → Prop := fun v m' B => B = [] ∧ ∃ p c, v = .slice p l.length c ∧ Sl m' cells 2 p c l
end Lb
end Go.Proofs.Ytoplagjjojlceaa
/- Maps whose keys are texts: make, look up, put, delete. -/
set_option linter.unusedSimpArgs false
set_option linter.unusedVariables false
set_option linter.unusedSectionVars false
set_option maxRecDepth 20000
namespace Go.J
open Go Go.MapKept
/-- a map's pairs, in the order in which they came -/
def mapped (d : List (List UInt8 × Value)) : List (Value × Value) := d.map fun x => (.string (str x.1), x.2)
/-- a map with these pairs -/
def Res.map (b : Nat) (d : List (List UInt8 × Value)) : Res where
  p w s := (∃ es clock, w.heap[b]? = some (.map es clock) ∧ es.toList.map (fun e => (e.key, e.val)) = mapped d) ∧ ∀ k, s k ↔ k = b
  loc := fun ⟨⟨es, c, h, e⟩, hs⟩ he => ⟨⟨es, c, by rw [he _ ((hs _).2 rfl)]; exact h, e⟩, hs⟩
  dom := fun ⟨⟨es, c, h, e⟩, hs⟩ hk => by
    have := (hs _).1 hk; subst this
    exact (Array.getElem?_eq_some_iff.1 h).1
/-- where a key is -/
def keyAt (d : List (List UInt8 × Value)) (k : List UInt8) : Option Nat := d.findIdx? fun x => decide (x.1 = k)
theorem find_now (k : List UInt8) : ∀ (es : List MapEntry) (d : List (List UInt8 × Value)) (i : Nat), es.map (fun e => (e.key, e.val)) = mapped d →
    (keyAt d k = none ∧ Instr.findNow .string (.string (str k)) es i = some none) ∨ ∃ j x, keyAt d k = some j ∧ d[j]? = some x ∧ x.1 = k ∧ Instr.findNow .string (.string (str k)) es i = some (some (i + j, x.2))
  | [], [], i, _ => .inl ⟨rfl, rfl⟩
  | [], _ :: _, _, h => by cases h
  | _ :: _, [], _, h => by cases h
  | e :: es, x :: d, i, h => by
    obtain ⟨h1, h2⟩ := List.cons.inj h
    have hk : e.key = .string (str x.1) := congrArg Prod.fst h1
    have hv : e.val = x.2 := congrArg Prod.snd h1
    by_cases hx : x.1 = k
    · refine .inr ⟨0, x, ?_, rfl, hx, ?_⟩
      · unfold keyAt; rw [List.findIdx?_cons, if_pos (decide_eq_true hx)]
      · unfold Instr.findNow
        rw [hk]
        simp only [Instr.sameNow]
        rw [show (str k == str x.1) = true from (bytes_beq _ _).2 (by rw [hx])]
        simp [hv]
    · have hn : (str k == str x.1) = false := by
        cases hb : (str k == str x.1) with
        | false => rfl
        | true => exact absurd (str_inj.1 ((bytes_beq _ _).1 hb)).symm hx
      rcases find_now k es d (i + 1) h2 with ⟨a1, a2⟩ | ⟨j, y, a1, a2, a3, a4⟩
      · refine .inl ⟨?_, ?_⟩
        · unfold keyAt at a1 ⊢; rw [List.findIdx?_cons, if_neg (by simpa using hx), a1]; rfl
        · unfold Instr.findNow
          rw [hk]
          simp only [Instr.sameNow, hn]
          exact a2
      · refine .inr ⟨j + 1, y, ?_, by simpa using a2, a3, ?_⟩
        · unfold keyAt at a1 ⊢; rw [List.findIdx?_cons, if_neg (by simpa using hx), a1]; rfl
        · unfold Instr.findNow
          rw [hk]
          simp only [Instr.sameNow, hn]
          rw [a4]
          congr 3; omega
/-- what a key has -/
def getD (d : List (List UInt8 × Value)) (k : List UInt8) (z : Value) : Value := ((d.find? fun x => decide (x.1 = k)).map (·.2)).getD z
theorem getD_none {d : List (List UInt8 × Value)} {k : List UInt8} {z : Value} (h : keyAt d k = none) : getD d k z = z := by
  unfold getD
  unfold keyAt at h
  rw [List.find?_eq_none.2 (by simpa [List.findIdx?_eq_none_iff] using h)]
  rfl
theorem getD_some {d : List (List UInt8 × Value)} {k : List UInt8} {z : Value} : ∀ {j : Nat} {x : List UInt8 × Value}, keyAt d k = some j → d[j]? = some x → getD d k z = x.2 := by
  induction d with
  | nil => intro j x h; cases h
  | cons y d ih =>
    intro j x h hx
    unfold keyAt at h
    rw [List.findIdx?_cons] at h
    by_cases hy : y.1 = k
    · rw [if_pos (decide_eq_true hy)] at h
      cases h
      cases hx
      unfold getD
      rw [List.find?_cons, decide_eq_true hy]; rfl
    · rw [if_neg (by simpa using hy)] at h
      cases h2 : d.findIdx? (fun x => decide (x.1 = k)) with
      | none => rw [h2] at h; cases h
      | some i =>
        rw [h2] at h
        cases h
        have := ih (j := i) (x := x) h2 (by simpa using hx)
        unfold getD at this ⊢
        rw [List.find?_cons, decide_eq_false hy]
        exact this
section
variable {P : Program} {n : Nat} {w0 : World} {F : Fr} {m : Mem} {Rs : List Res} {Q : Exit → Act → World → Prop} {K : Act → World → Prop} {C : World → Prop}
theorem HW.map {w : World} (h : HW w0 m Rs w) {b : Nat} {d : List (List UInt8 × Value)} {Rs' : List Res} (hp : Pick Rs (.map b d) Rs') : ∃ es clock, w.heap[b]? = some (.map es clock) ∧ es.toList.map (fun e => (e.key, e.val)) = mapped d :=
  let ⟨_, h1, _⟩ := h.get hp
  h1
/-- a type's zero value is this one -/
def zeroV (P : Program) (e : TypeId) (z : Value) : Prop := ∀ w, (zeroValue e).run P w = .ok z w
theorem zeroV_of {e : TypeId} {i : TypeInfo} {z : Value} (hi : P.info? e = some i) (hz : i.zero = some z) : zeroV P e z := fun w => by simp [zeroValue, typeInfo, hi, hz]
theorem pr_lookup {x y : Operand} {t kt et : TypeId} {b : Nat} {k : List UInt8} {d : List (List UInt8 × Value)} {Rs' : List Res} {z v : Value} (ht : P.underlying t = some (.map kt et)) (hk : P.underlying kt = some .string)
    (hx : ev F x = some (.map (some b))) (hy : ev F y = some (.string (str k))) (hp : Pick Rs (.map b d) Rs') (hz : zeroV P et z) (hv : getD d k z = v) : PR P n F (HW w0 m Rs) (.lookup t x y false) v := fun _ _ _ _ _ a w ha hC => by
  subst hv
  obtain ⟨es, clock, hb, he⟩ := hC.map hp
  have hc := run_checkKey (P := P) (w := w) (k := .string (str k)) hk trivial es.isEmpty 9999
  rcases find_now k es.toList d 0 he with ⟨a1, a2⟩ | ⟨j, x, a1, a2, a3, a4⟩
  · rw [getD_none a1]
    simp [execOp, ha.ev hx, ha.ev hy, Instr.lookup, run_underlying ht, MapKept.run_getObj_map hb, hc, run_findKey hk a2, hz w, Result.andThen]
  · rw [getD_some a1 a2]
    simp [execOp, ha.ev hx, ha.ev hy, Instr.lookup, run_underlying ht, MapKept.run_getObj_map hb, hc, run_findKey hk a4, Result.andThen]
theorem HW.mapSet {w : World} (h : HW w0 m Rs w) {b : Nat} {d d' : List (List UInt8 × Value)} {Rs' : List Res} (hp : Repl Rs (.map b d) (.map b d') Rs') {es : Array MapEntry} {clock : Nat} {o : Obj} (hb : w.heap[b]? = some o)
    (he : es.toList.map (fun e => (e.key, e.val)) = mapped d') : HW w0 m Rs' { w with heap := w.heap.setIfInBounds b (.map es clock) } := by
  have hlt : b < w.heap.size := (Array.getElem?_eq_some_iff.1 hb).1
  exact h.upd hp rfl rfl rfl (by simp) (fun s hs => (hs.2 b).2 rfl) (fun k _ hk => by simp [Array.getElem?_setIfInBounds, Ne.symm hk]) (fun s hs => ⟨s, ⟨⟨es, clock, by simp [hlt], he⟩, hs.2⟩, fun k hk => .inl hk⟩)
/-- a pair put, and a key gone -/
def putD (d : List (List UInt8 × Value)) (k : List UInt8) (v : Value) : List (List UInt8 × Value) := match keyAt d k with
  | none => d ++ [(k, v)]
  | some j => d.set j (k, v)
def delD (d : List (List UInt8 × Value)) (k : List UInt8) : List (List UInt8 × Value) := match keyAt d k with
  | none => d
  | some j => d.eraseIdx j
theorem At.mapPut {ops : Array Oper} {rest : List Oper} {x y z : Operand} {t kt et : TypeId} {ty : TypeId} {pos : String} {aft : Array Edge} {b : Nat} {k : List UInt8} {v : Value} {d : List (List UInt8 × Value)} {Rs' : List Res}
    (ht : P.underlying t = some (.map kt et)) (hk : P.underlying kt = some .string) (hx : ev F x = some (.map (some b))) (hy : ev F y = some (.string (str k))) (hz : ev F z = some v) (hp : Repl Rs (.map b d) (.map b (putD d k v)) Rs')
    (h : At n w0 F m Rs' (wpList P ops Q rest)) : At n w0 F m Rs (wpList P ops Q (⟨none, .mapUpdate t x y z, ty, pos, aft, none⟩ :: rest)) := fun a w ha hw =>
  wpList_plain rfl fun K hK => by
    obtain ⟨T, hp1, hp2⟩ := hp.picks
    obtain ⟨es, clock, hb, he⟩ := hw.map hp1
    have hc := run_checkKey (P := P) (w := w) (k := .string (str k)) hk trivial false 9999
    unfold Oper.wp
    rcases find_now k es.toList d 0 he with ⟨a1, a2⟩ | ⟨j, q, a1, a2, a3, a4⟩
    · have e : putD d k v = d ++ [(k, v)] := by unfold putD; rw [a1]
      have hrun : (execOp a.eval ⟨none, .mapUpdate t x y z, ty, pos, aft, none⟩).run P w = .ok .skip { w with heap := w.heap.setIfInBounds b (.map (es.push { key := .string (str k), val := v, born := clock }) (clock + 1)) } := by
        simp [execOp, ha.ev hx, ha.ev hy, ha.ev hz, Instr.mapUpdate, run_underlying ht, MapKept.run_getObj_map hb, hc, run_findKey hk a2, run_setObj_map _ hb, Result.andThen]
      rw [hrun]
      rw [e] at hp
      exact hK _ _ (h _ _ ha (hw.mapSet hp hb (by simp [he, mapped])))
    · have e : putD d k v = d.set j (k, v) := by unfold putD; rw [a1]
      have hj : j < es.toList.length := by
        have := congrArg List.length he
        simp only [List.length_map, mapped] at this
        rw [this]
        exact (List.getElem?_eq_some_iff.1 a2).1
      have hj' : j < es.size := by simpa using hj
      have hkey : es[j].key = .string (str k) := by
        have h1 := congrArg (fun l => l[j]?) he
        simp only [List.getElem?_map, mapped] at h1
        rw [List.getElem?_eq_getElem hj, a2] at h1
        simp only [Option.map_some, Option.some.injEq, Prod.mk.injEq] at h1
        have := h1.1
        rw [a3] at this
        simpa using this
      have hst : (Instr.keyThatStays (((es[j]?).map (·.key)).getD (.string (str k))) (.string (str k))).run P w = .ok (.string (str k)) w := by
        rw [Array.getElem?_eq_getElem hj']
        simp only [Option.map_some, Option.getD_some]
        rw [hkey]
        exact run_keyThatStays (d := .string) trivial
      have hrun : (execOp a.eval ⟨none, .mapUpdate t x y z, ty, pos, aft, none⟩).run P w = .ok .skip { w with heap := w.heap.setIfInBounds b (.map (es.modify j fun e => { e with key := .string (str k), val := v }) clock) } := by
        rw [Nat.zero_add] at a4
        simp only [execOp, ha.ev hx, ha.ev hy, ha.ev hz, Instr.mapUpdate, Sem.run_bind, run_underlying ht, MapKept.run_getObj_map hb, hc, run_findKey hk a4, hst, run_setObj_map _ hb, Result.andThen]
        rfl
      rw [hrun]
      rw [e] at hp
      refine hK _ _ (h _ _ ha (hw.mapSet hp hb ?_))
      apply List.ext_getElem?
      intro i
      have h1 := congrArg (fun l => l[i]?) he
      simp only [List.getElem?_map, mapped, Array.getElem?_toList, Array.getElem?_modify, List.getElem?_set] at h1 ⊢
      by_cases hi : j = i
      · subst hi
        have hl : j < d.length := (List.getElem?_eq_some_iff.1 a2).1
        simp [hl, Array.getElem?_eq_getElem hj']
      · simp [hi, h1]
theorem map_erase {α β : Type} (f : α → β) : ∀ (l : List α) (j : Nat), (l.eraseIdx j).map f = (l.map f).eraseIdx j
  | [], _ => rfl
  | _ :: _, 0 => rfl
  | x :: l, j + 1 => by simp [map_erase f l j]
theorem At.mapDel {ops : Array Oper} {rest : List Oper} {x y : Operand} {t kt et tk : TypeId} {ty : TypeId} {pos : String} {aft : Array Edge} {b : Nat} {k : List UInt8} {d : List (List UInt8 × Value)} {Rs' : List Res}
    (ht : P.underlying t = some (.map kt et)) (hk : P.underlying kt = some .string) (hx : ev F x = some (.map (some b))) (hy : ev F y = some (.string (str k))) (hp : Repl Rs (.map b d) (.map b (delD d k)) Rs')
    (h : At n w0 F m Rs' (wpList P ops Q rest)) : At n w0 F m Rs (wpList P ops Q (⟨none, .call ⟨.builtin .delete, #[x, y], #[t, tk]⟩, ty, pos, aft, none⟩ :: rest)) := fun a w ha hw =>
  wpList_plain rfl fun K hK => by
    obtain ⟨T, hp1, hp2⟩ := hp.picks
    obtain ⟨es, clock, hb, he⟩ := hw.map hp1
    have hc := run_checkKey (P := P) (w := w) (k := .string (str k)) hk trivial es.isEmpty 9999
    unfold Oper.wp
    rcases find_now k es.toList d 0 he with ⟨a1, a2⟩ | ⟨j, q, a1, a2, a3, a4⟩
    · have e : delD d k = d := by unfold delD; rw [a1]
      have hrun : (execOp a.eval ⟨none, .call ⟨.builtin .delete, #[x, y], #[t, tk]⟩, ty, pos, aft, none⟩).run P w = .ok (.value (.tuple #[])) { w with heap := w.heap.setIfInBounds b (.map es clock) } := by
        simp [execOp, resolve, invoke, builtin, ha.ev hx, ha.ev hy, Builtin.delete_, run_underlying ht, MapKept.run_getObj_map hb, hc, run_findKey hk a2, run_setObj_map _ hb, Result.andThen]
      rw [hrun]
      rw [e] at hp
      exact hK _ _ (h _ _ ha.putN (hw.mapSet hp hb he))
    · have e : delD d k = d.eraseIdx j := by unfold delD; rw [a1]
      have hrun : (execOp a.eval ⟨none, .call ⟨.builtin .delete, #[x, y], #[t, tk]⟩, ty, pos, aft, none⟩).run P w = .ok (.value (.tuple #[])) { w with heap := w.heap.setIfInBounds b (.map (es.eraseIdxIfInBounds j) clock) } := by
        rw [Nat.zero_add] at a4
        simp [execOp, resolve, invoke, builtin, ha.ev hx, ha.ev hy, Builtin.delete_, run_underlying ht, MapKept.run_getObj_map hb, hc, run_findKey hk a4, run_setObj_map _ hb, Result.andThen]
      rw [hrun]
      rw [e] at hp
      refine hK _ _ (h _ _ ha.putN (hw.mapSet hp hb ?_))
      have hj : j < es.size := by
        have := congrArg List.length he
        simp only [List.length_map, mapped] at this
        have h2 := (List.getElem?_eq_some_iff.1 a2).1
        have h3 : es.toList.length = es.size := rfl
        omega
      rw [Array.eraseIdxIfInBounds, dif_pos hj, Array.toList_eraseIdx]
      unfold mapped at he ⊢
      rw [map_erase, map_erase, he]
theorem At.mapNew {ops : Array Oper} {rest : List Oper} {d : Nat} {t : TypeId} {ty : TypeId} {pos : String} {aft : Array Edge} (hd : Nat.blt d n = true)
    (h : ∀ b, At n w0 ((d, .map (some b)) :: F) m (.map b [] :: Rs) (wpList P ops Q rest)) : At n w0 F m Rs (wpList P ops Q (⟨some d, .makeMap t none, ty, pos, aft, none⟩ :: rest)) := fun a w ha hw =>
  wpList_plain rfl fun K hK => by
    unfold Oper.wp
    have : (execOp a.eval ⟨some d, .makeMap t none, ty, pos, aft, none⟩).run P w = .ok (.value (.map (some w.heap.size))) { w with heap := w.heap.push (.map #[] 0) } := by
      simp [execOp, Instr.makeMap, Result.andThen]
    rw [this]
    refine hK _ _ (h _ _ _ (ha.put hd) (hw.add rfl rfl rfl (by simp) (fun k hk => by simp [Array.getElem?_push, Nat.ne_of_lt hk]) ⟨fun k => k = w.heap.size, ⟨⟨#[], 0, by simp, rfl⟩, fun _ => Iff.rfl⟩, fun k hk => by simp_all⟩))
end
end Go.J
/- A book of series, as memory holds it. -/
set_option linter.unusedSimpArgs false
set_option linter.unusedVariables false
set_option linter.unusedSectionVars false
set_option maxRecDepth 20000
set_option maxHeartbeats 4000000
namespace Go.Proofs.Ytoplagjjojlceaa
open Go Go.J
attribute [local irreducible] At AtQ AtM AtM1 PR Ct Pu Rd Res.blk Res.own Res.ex RVs RV Res.map
namespace Fl
open Ev
/-- a series with its events -/
structure Ser where
  (l : List Lab) (e : List Ev)
instance : Inhabited Ser := ⟨⟨[], []⟩⟩
theorem entPerm {A B : List Res} (h : A.Perm B) (R : List Res) : Ent (A ++ R) (B ++ R) := by
  induction h with
  | nil => exact Ent.refl _
  | cons x _ ih => exact Ent.cons x ih
  | swap x y l => exact Ent.of_pick (.there .here)
  | trans _ _ h1 h2 => exact h1.trans h2
abbrev owL (p : Option Addr) (c : Nat) (l : List Lab) : Res := .own Lb.cells 2 59 p c l
structure SS where
  (lp : Option Addr) (lc : Nat) (ep : Option Addr) (ec : Nat)
def srR (a : Nat) (x : Ser) (s : SS) : List Res := [.blk a 71 [.slice s.lp x.l.length s.lc, .slice s.ep x.e.length s.ec], owL s.lp s.lc x.l, ow s.ep s.ec x.e]
/-- a series at its place -/
def sr (a : Nat) (x : Ser) : Res := .ex (σ := SS) (fun _ => True) (srR a x)
abbrev Zt := List (Nat × Ser)
/-- several, each at its place -/
def srs (Z : Zt) : Res := .ex (σ := Unit) (fun _ => True) (fun _ => Z.map fun z => sr z.1 z.2)
theorem cons_erase {α : Type} : ∀ (L : List α) (i : Nat) (h : i < L.length), (L[i] :: L.eraseIdx i).Perm L
  | x :: L, 0, _ => List.Perm.refl _
  | x :: L, i + 1, h => by
    have hi : i < L.length := by simpa using h
    have ih := cons_erase L i hi
    exact (List.Perm.swap x (L[i]'hi) (L.eraseIdx i)).trans (ih.cons x)
theorem erase_perm {α : Type} [Inhabited α] (L : List α) (i : Nat) (hi : i < L.length) : L.Perm (L[i]! :: L.eraseIdx i) := by
  rw [getElem!_pos L i hi]
  exact (cons_erase L i hi).symm
theorem srs_take (Z : Zt) (i : Nat) (hi : i < Z.length) (R : List Res) : Ent (srs Z :: R) (sr Z[i]!.1 Z[i]!.2 :: srs (Z.eraseIdx i) :: R) := fun w s h => by
  obtain ⟨_, _, h1⟩ := Ent.openx h
  exact ((entPerm ((erase_perm Z i hi).map _) R).trans (Ent.cons _ (Ent.closex (I := fun _ : Unit => True) (A := fun _ : Unit => (Z.eraseIdx i).map fun z => sr z.1 z.2) () trivial))) w s h1
theorem srs_put (Z : Zt) (i : Nat) (hi : i < Z.length) (x : Ser) (R : List Res) : Ent (sr Z[i]!.1 x :: srs (Z.eraseIdx i) :: R) (srs (Z.set i (Z[i]!.1, x)) :: R) := by
  have hp : ((Z.set i (Z[i]!.1, x)).map fun z => sr z.1 z.2).Perm (sr Z[i]!.1 x :: (Z.eraseIdx i).map fun z => sr z.1 z.2) := by
    have := (erase_perm (Z.set i (Z[i]!.1, x)) i (by rw [List.length_set]; exact hi)).map fun z => sr z.1 z.2
    rw [List.eraseIdx_set_eq, getElem!_pos (Z.set i (Z[i]!.1, x)) i (by rw [List.length_set]; exact hi), List.getElem_set_self] at this
    exact this
  refine Ent.trans (fun w s h => ?_) (Ent.closex (I := fun _ : Unit => True) (A := fun _ : Unit => (Z.set i (Z[i]!.1, x)).map fun z => sr z.1 z.2) () trivial)
  have h2 : Ent (sr Z[i]!.1 x :: srs (Z.eraseIdx i) :: R) (((sr Z[i]!.1 x :: (Z.eraseIdx i).map fun z => sr z.1 z.2)) ++ R) := Ent.cons _ (fun w s h => by
    obtain ⟨_, _, h1⟩ := Ent.openx h
    exact ⟨s, h1, fun _ x => x⟩)
  exact (h2.trans (entPerm hp.symm R)) w s h
theorem srs_snoc (Z : Zt) (a : Nat) (x : Ser) (R : List Res) : Ent (sr a x :: srs Z :: R) (srs (Z ++ [(a, x)]) :: R) := by
  have hp : ((Z ++ [(a, x)]).map fun z => sr z.1 z.2).Perm (sr a x :: Z.map fun z => sr z.1 z.2) := by
    rw [List.map_append]
    exact List.perm_append_comm
  refine Ent.trans (fun w s h => ?_) (Ent.closex (I := fun _ : Unit => True) (A := fun _ : Unit => (Z ++ [(a, x)]).map fun z => sr z.1 z.2) () trivial)
  have h2 : Ent (sr a x :: srs Z :: R) (((sr a x :: Z.map fun z => sr z.1 z.2)) ++ R) := Ent.cons _ (fun w s h => by
    obtain ⟨_, _, h1⟩ := Ent.openx h
    exact ⟨s, h1, fun _ x => x⟩)
  exact (h2.trans (entPerm hp.symm R)) w s h
theorem srs_nil (R : List Res) : Ent R (srs [] :: R) := Ent.closex (I := fun _ : Unit => True) (A := fun _ : Unit => ([] : Zt).map fun z => sr z.1 z.2) () trivial
theorem sr_close (a : Nat) (x : Ser) (s : SS) (R : List Res) : Ent (.blk a 71 [.slice s.lp x.l.length s.lc, .slice s.ep x.e.length s.ec] :: owL s.lp s.lc x.l :: ow s.ep s.ec x.e :: R) (sr a x :: R) := Ent.closex (I := fun _ : SS => True) (A := srR a x) s trivial
/-- the map's pairs -/
def dm (Z : Zt) : List (List UInt8 × Value) := Z.map fun z => (Lb.bytesL z.2.l, pt z.1)
def nms (Z : Zt) : List (List UInt8) := Z.map fun z => Lb.bytesL z.2.l
/-- where labels are -/
def at_ (Z : Zt) (l : List Lab) : Option Nat := Z.findIdx? fun z => decide (z.2.l = l)
def Rgt (Z : Zt) : Prop := ∀ z ∈ Z, Lb.right z.2.l
theorem key_at {l : List Lab} (hl : Lb.right l) : ∀ {Z : Zt}, Rgt Z → keyAt (dm Z) (Lb.bytesL l) = at_ Z l
  | [], _ => rfl
  | z :: Z, h => by
    have ih := key_at (Z := Z) hl fun y hy => h y (List.mem_cons_of_mem _ hy)
    unfold keyAt dm at_ at *
    rw [List.map_cons, List.findIdx?_cons, List.findIdx?_cons, ih]
    have : decide (Lb.bytesL z.2.l = Lb.bytesL l) = decide (z.2.l = l) := by
      rw [decide_eq_decide]
      exact ⟨fun e => Lb.bytes_inj (h z (List.mem_cons_self ..)) hl e, fun e => by rw [e]⟩
    rw [this]
theorem at_some {Z : Zt} {l : List Lab} {i : Nat} (h : at_ Z l = some i) : i < Z.length ∧ Z[i]!.2.l = l ∧ ∀ j, j < i → Z[j]!.2.l ≠ l := by
  unfold at_ at h
  rw [List.findIdx?_eq_some_iff_getElem] at h
  obtain ⟨h1, h2, h3⟩ := h
  refine ⟨h1, ?_, fun j hj => ?_⟩
  · rw [getElem!_pos Z i h1]; exact of_decide_eq_true h2
  · rw [getElem!_pos Z j (by omega)]
    have := h3 j hj
    simpa using this
theorem at_none {Z : Zt} {l : List Lab} (h : at_ Z l = none) : ∀ z ∈ Z, z.2.l ≠ l := fun z hz => by
  unfold at_ at h
  have := List.findIdx?_eq_none_iff.1 h z hz
  simpa using this
theorem at_bad {Z : Zt} (h : Rgt Z) {l : List Lab} (hl : ¬ Lb.right l) : at_ Z l = none := by
  unfold at_
  rw [List.findIdx?_eq_none_iff]
  intro z hz
  exact decide_eq_false fun e => hl (e ▸ h z hz)
def nodeV (Z : Zt) (l : List Lab) : Value := match at_ Z l with
  | none => .pointer none
  | some i => pt Z[i]!.1
theorem node_get {Z : Zt} (h : Rgt Z) {l : List Lab} (hl : Lb.right l) : J.getD (dm Z) (Lb.bytesL l) (.pointer none) = nodeV Z l := by
  have hk := key_at hl h
  unfold nodeV
  cases e : at_ Z l with
  | none => rw [getD_none (hk.trans e)]
  | some i =>
    obtain ⟨h1, h2, _⟩ := at_some e
    rw [getD_some (x := (Lb.bytesL Z[i]!.2.l, pt Z[i]!.1)) (hk.trans e) (by unfold dm; rw [List.getElem?_map, List.getElem?_eq_getElem h1, getElem!_pos Z i h1]; rfl)]
abbrev bh (b : Nat) (po : Option Addr) (n co mb : Nat) : Res := .blk b 63 [.slice po n co, .map (some mb)]
theorem find {m : Mem} (b : Nat) (p : Option Addr) (c : Nat) (l : List Lab) (hm : Lb.Mid l) (sl0 : Sl m Lb.cells 2 p c l) (po : Option Addr) (n co mb : Nat) (Z : Zt) (hZ : Rgt Z) :
    Rd Try.prog 26 #[pt b, .slice p l.length c] m [bh b po n co mb, .map mb (dm Z)] (.tuple #[nodeV Z l, .string (str (if Lb.right l then Lb.bytesL l else []))]) := by
  unfold Rd
  have hb := fun (m' : Mem) (hm' : m.le m') => Lb.bytes (m := m') p c l hm (sl0.mono hm')
  by_cases hr : Lb.right l
  · have hv := node_get hZ hr
    rw [if_pos hr, Lb.chk_ok hr] at hb
    rw [if_pos hr]
    generalize Lb.bytesL l = k at hb hv ⊢
    generalize nodeV Z l = V at hv ⊢
    refine Ct.enterV (by rfl) Try.func26 rfl Try.ntmps26 rfl (fun w0 Rest => ?_)
    (repeat' (first | refine zss ?_ | ((first | (with_reducible first | apply At.val | apply AtQ.val)); (first | exact pr_lookup (by rfl) (by rfl) (by rfl) (by rfl) (by repeat constructor) (zeroV_of (by rfl) (by rfl)) hv | exact zprA); exact rfl) | refine zs0 ?_ | ((with_reducible first | apply AtM1.cr | apply AtQ.cr | apply At.cr); exact rfl; exact rfl; exact fun _ hmm => hb _ hmm; exact ztk; kernel_rfl) | (refine zsp ?_ ?_ <;> (intro hc; (try simp only [zhcs, reduceCtorEq] at hc); (try (exfalso; first | omega | contradiction | omega | exact absurd rfl hc | exact absurd (by decide) hc))))))
    all_goals ((with_reducible apply At.retV (B := [bh b po n co mb, .map mb (dm Z)])); exact rfl; (repeat' (first | exact RVs.nil | (with_reducible apply RVs.cons) | exact rv_tmp (by rfl) | exact rv_cellN (by rfl) (by repeat constructor) (by rfl) (by rfl) (by rfl) | exact rv_cell1 (by rfl) (by repeat constructor) (by rfl) (by rfl) | exact rv_cellA (by rfl) (by repeat constructor) (by rfl) (by rfl) zlq)); exact zml; exact zkp; exact ⟨rfl, rfl, rfl⟩)
  · have hd : Lb.chk l ≠ 0 := fun k => hr (Lb.chk_right.1 k)
    rw [if_neg hr] at hb ⊢
    rw [show nodeV Z l = .pointer none by unfold nodeV; rw [at_bad hZ hr]]
    generalize Lb.chk l = w at hb hd
    refine Ct.enterV (by rfl) Try.func26 rfl Try.ntmps26 rfl (fun w0 Rest => ?_)
    (repeat' (first | refine zss ?_ | ((first | (with_reducible first | apply At.val | apply AtQ.val)); (exact zprA); exact rfl) | refine zs0 ?_ | ((with_reducible first | apply AtM1.cr | apply AtQ.cr | apply At.cr); exact rfl; exact rfl; exact fun _ hmm => hb _ hmm; exact ztk; kernel_rfl) | (refine zsp ?_ ?_ <;> (intro hc; (try simp only [zhcs, reduceCtorEq] at hc); (try (exfalso; first | (first | omega | exact absurd hc hd) | contradiction | omega | exact absurd rfl hc | exact absurd (by decide) hc))))))
    all_goals ((with_reducible apply At.retV (B := [bh b po n co mb, .map mb (dm Z)])); exact rfl; (repeat' (first | exact RVs.nil | (with_reducible apply RVs.cons) | exact rv_tmp (by rfl) | exact rv_cellN (by rfl) (by repeat constructor) (by rfl) (by rfl) (by rfl) | exact rv_cell1 (by rfl) (by repeat constructor) (by rfl) (by rfl) | exact rv_cellA (by rfl) (by repeat constructor) (by rfl) (by rfl) zlq)); exact zml; exact zkp; exact ⟨rfl, rfl, rfl⟩)
end Fl
end Go.Proofs.Ytoplagjjojlceaa
/- Cells: right ones, how they merge, what events have: the plain law. -/
set_option linter.unusedSimpArgs false
set_option linter.unusedVariables false
set_option linter.unusedSectionVars false
set_option maxRecDepth 20000
set_option maxHeartbeats 4000000
namespace Go.Proofs.Ytoplagjjojlceaa
open Go Go.J
namespace Cell
open Ev
theorem ext {a b : Cell} (h1 : a.n = b.n) (h2 : a.F = b.F) (h3 : a.L = b.L) (h4 : a.I = b.I) (h5 : a.R = b.R) (h6 : a.G = b.G) (h7 : a.X = b.X) : a = b := by
  cases a; cases b; cases h1; cases h2; cases h3; cases h4; cases h5; cases h6; cases h7; rfl
instance : DecidableEq Cell := fun a b => decidable_of_iff (a.n = b.n ∧ a.F = b.F ∧ a.L = b.L ∧ a.I = b.I ∧ a.R = b.R ∧ a.G = b.G ∧ a.X = b.X)
  ⟨fun ⟨h1, h2, h3, h4, h5, h6, h7⟩ => ext h1 h2 h3 h4 h5 h6 h7, fun h => h ▸ ⟨rfl, rfl, rfl, rfl, rfl, rfl, rfl⟩⟩
/-- a right cell that is not zero -/
structure Full (c : Cell) : Prop where
  n : 1 ≤ c.n
  F : c.F.ok
  L : c.L.ok
  one : c.n = 1 → c.F = c.L
  lt : 1 < c.n → c.F.T < c.L.T
  len : c.n - 1 ≤ c.L.T - c.F.T
  R : 0 ≤ c.R
  G : 0 ≤ c.G
  RG : c.R + c.G ≤ c.n - 1
  X : 0 ≤ c.X
  XL : c.X ≤ c.L.T - c.F.T
  I : c.I ≤ 18446744073709551615 * (c.n - 1).toNat
def ok (c : Cell) : Prop := c = z ∨ Full c
theorem Full.ne {c : Cell} (h : Full c) : c ≠ z := fun e => by
  have := h.n
  rw [e] at this
  exact absurd this (by decide)
theorem Full.le {c : Cell} (h : Full c) : c.F.T ≤ c.L.T := by
  have h1 := h.n
  have h2 := h.len
  omega
instance (c : Cell) : Decidable (Full c) := decidable_of_iff (1 ≤ c.n ∧ c.F.ok ∧ c.L.ok ∧ (c.n = 1 → c.F = c.L) ∧ (1 < c.n → c.F.T < c.L.T) ∧ c.n - 1 ≤ c.L.T - c.F.T ∧ 0 ≤ c.R ∧ 0 ≤ c.G ∧ c.R + c.G ≤ c.n - 1 ∧ 0 ≤ c.X ∧ c.X ≤ c.L.T - c.F.T ∧ c.I ≤ 18446744073709551615 * (c.n - 1).toNat)
  ⟨fun ⟨h1, h2, h3, h4, h5, h6, h7, h8, h9, h10, h11, h12⟩ => ⟨h1, h2, h3, h4, h5, h6, h7, h8, h9, h10, h11, h12⟩, fun h => ⟨h.n, h.F, h.L, h.one, h.lt, h.len, h.R, h.G, h.RG, h.X, h.XL, h.I⟩⟩
instance (c : Cell) : Decidable (ok c) := by unfold ok; infer_instance
def chk (c : Cell) : Int := if ok c then 0 else 2
def one (e : Ev) : Cell := ⟨1, e, e, 0, 0, 0, 0⟩
theorem one_full {e : Ev} (h : e.ok) : Full (one e) := by
  refine ⟨?_, h, h, fun _ => rfl, ?_, ?_, ?_, ?_, ?_, ?_, ?_, ?_⟩ <;> dsimp only [one] <;> omega
def join (a b : Cell) : Cell := ⟨a.n + b.n, a.F, b.L, a.I + (btw a.L b.F).1.I + b.I, a.R + (btw a.L b.F).1.R + b.R, a.G + (btw a.L b.F).1.G + b.G, a.X + (btw a.L b.F).1.X + b.X⟩
def mrg (a b : Cell) : Cell × Int := if ¬ (ok a ∧ ok b) then (z, 2) else if a = z then (b, 0) else if b = z then (a, 0) else if b.F.T ≤ a.L.T then (z, 9) else (join a b, 0)
structure Btw (p c : Ev) : Prop where
  w : (btw p c).2 = 0
  R : 0 ≤ (btw p c).1.R
  G : 0 ≤ (btw p c).1.G
  RG : (btw p c).1.R + (btw p c).1.G ≤ 1
  X : 0 ≤ (btw p c).1.X
  XL : (btw p c).1.X ≤ c.T - p.T
  I : (btw p c).1.I ≤ c.V
theorem btw_bd {p c : Ev} (hp : p.ok) (hc : c.ok) (h : p.T < c.T) : Btw p c := by
  have ⟨h21, h22, h23, h24, h25⟩ := hc
  have e : btw p c = if c.S = true then (z, 0) else if p.T < c.C then (mk' c.V 1 0 (c.T - c.C), 0) else if p.S = true then (mk' 0 0 1 0, 0) else if c.V < p.V then (mk' c.V 1 0 (c.T - p.T), 0) else (mk' (c.V - p.V) 0 0 (c.T - p.T), 0) := by
    unfold btw
    rw [if_neg (not_not_intro (show two p c from ⟨hp, hc⟩)), if_neg (by omega)]
  by_cases a1 : c.S = true
  · rw [if_pos a1] at e
    constructor <;> rw [e] <;> first | rfl | (dsimp only [mk', Cell.z]; omega)
  rw [if_neg a1] at e
  by_cases a2 : p.T < c.C
  · rw [if_pos a2] at e
    constructor <;> rw [e] <;> first | rfl | (dsimp only [mk', Cell.z]; omega)
  rw [if_neg a2] at e
  by_cases a3 : p.S = true
  · rw [if_pos a3] at e
    constructor <;> rw [e] <;> first | rfl | (dsimp only [mk', Cell.z]; omega)
  rw [if_neg a3] at e
  by_cases a4 : c.V < p.V
  · rw [if_pos a4] at e
    constructor <;> rw [e] <;> first | rfl | (dsimp only [mk', Cell.z]; omega)
  · rw [if_neg a4] at e
    constructor <;> rw [e] <;> first | rfl | (dsimp only [mk', Cell.z]; omega)
theorem join_full {a b : Cell} (ha : Full a) (hb : Full b) (h : a.L.T < b.F.T) (hV : b.F.V < 18446744073709551616) : Full (join a b) := by
  obtain ⟨w, xR, xG, xRG, xX, xXL, xI⟩ := btw_bd ha.L hb.F h
  obtain ⟨a1, a2, a3, a4, a5, a6, a7, a8, a9, a10, a11, a12⟩ := ha
  obtain ⟨b1, b2, b3, b4, b5, b6, b7, b8, b9, b10, b11, b12⟩ := hb
  have hn : (join a b).n = a.n + b.n := rfl
  have hF : (join a b).F = a.F := rfl
  have hL : (join a b).L = b.L := rfl
  have e1 : (a.n + b.n - 1).toNat = (a.n - 1).toNat + (b.n - 1).toNat + 1 := by omega
  refine ⟨by rw [hn]; omega, a2, b3, fun h => by rw [hn] at h; omega, fun _ => by rw [hF, hL]; omega, by rw [hn, hF, hL]; omega, ?_, ?_, ?_, ?_, ?_, ?_⟩
  · show 0 ≤ a.R + (btw a.L b.F).1.R + b.R; omega
  · show 0 ≤ a.G + (btw a.L b.F).1.G + b.G; omega
  · show a.R + (btw a.L b.F).1.R + b.R + (a.G + (btw a.L b.F).1.G + b.G) ≤ a.n + b.n - 1; omega
  · show 0 ≤ a.X + (btw a.L b.F).1.X + b.X; omega
  · show a.X + (btw a.L b.F).1.X + b.X ≤ b.L.T - a.F.T; omega
  · show a.I + (btw a.L b.F).1.I + b.I ≤ 18446744073709551615 * (a.n + b.n - 1).toNat
    rw [e1]; omega
theorem join_assoc (a b c : Cell) : join (join a b) c = join a (join b c) := by
  refine ext ?_ rfl rfl ?_ ?_ ?_ ?_
  · show a.n + b.n + c.n = a.n + (b.n + c.n); omega
  · show a.I + (btw a.L b.F).1.I + b.I + (btw b.L c.F).1.I + c.I = a.I + (btw a.L b.F).1.I + (b.I + (btw b.L c.F).1.I + c.I); omega
  · show a.R + (btw a.L b.F).1.R + b.R + (btw b.L c.F).1.R + c.R = a.R + (btw a.L b.F).1.R + (b.R + (btw b.L c.F).1.R + c.R); omega
  · show a.G + (btw a.L b.F).1.G + b.G + (btw b.L c.F).1.G + c.G = a.G + (btw a.L b.F).1.G + (b.G + (btw b.L c.F).1.G + c.G); omega
  · show a.X + (btw a.L b.F).1.X + b.X + (btw b.L c.F).1.X + c.X = a.X + (btw a.L b.F).1.X + (b.X + (btw b.L c.F).1.X + c.X); omega
/-- numbers that fit -/
def Fits (c : Cell) : Prop := c.F.V < 18446744073709551616 ∧ c.L.V < 18446744073709551616
theorem mrg_cases {a b : Cell} : (mrg a b = (z, 2) ∧ ¬ (ok a ∧ ok b)) ∨ (mrg a b = (b, 0) ∧ a = z ∧ ok b) ∨ (mrg a b = (a, 0) ∧ Full a ∧ b = z) ∨ (mrg a b = (z, 9) ∧ Full a ∧ Full b ∧ b.F.T ≤ a.L.T) ∨ (mrg a b = (join a b, 0) ∧ Full a ∧ Full b ∧ a.L.T < b.F.T) := by
  unfold mrg
  by_cases h : ok a ∧ ok b
  · rw [if_neg (not_not_intro h)]
    obtain ⟨h1, h2⟩ := h
    by_cases ha : a = z
    · rw [if_pos ha]; exact .inr (.inl ⟨rfl, ha, h2⟩)
    · rw [if_neg ha]
      have fa := h1.resolve_left ha
      by_cases hb : b = z
      · rw [if_pos hb]; exact .inr (.inr (.inl ⟨rfl, fa, hb⟩))
      · rw [if_neg hb]
        have fb := h2.resolve_left hb
        by_cases ht : b.F.T ≤ a.L.T
        · rw [if_pos ht]; exact .inr (.inr (.inr (.inl ⟨rfl, fa, fb, ht⟩)))
        · rw [if_neg ht]; exact .inr (.inr (.inr (.inr ⟨rfl, fa, fb, by omega⟩)))
  · rw [if_pos h]; exact .inl ⟨rfl, h⟩
theorem mrg_join {a b : Cell} (ha : Full a) (hb : Full b) (h : a.L.T < b.F.T) : mrg a b = (join a b, 0) := by
  unfold mrg
  rw [if_neg (not_not_intro ⟨.inr ha, .inr hb⟩), if_neg ha.ne, if_neg hb.ne, if_neg (by omega)]
theorem mrg_zl {b : Cell} (h : ok b) : mrg z b = (b, 0) := by
  unfold mrg
  rw [if_neg (not_not_intro ⟨.inl rfl, h⟩), if_pos rfl]
theorem mrg_zr {a : Cell} (h : ok a) : mrg a z = (a, 0) := by
  by_cases ha : a = z
  · subst ha; exact mrg_zl (.inl rfl)
  · unfold mrg
    rw [if_neg (not_not_intro ⟨h, .inl rfl⟩), if_neg ha, if_pos rfl]
/-- what right ones merge to -/
theorem mrg_right {a b : Cell} (hb : Fits b) (h : (mrg a b).2 = 0) : ok (mrg a b).1 ∧ mrg z a = (a, 0) ∧ (mrg a b).1.n = a.n + b.n := by
  rcases mrg_cases (a := a) (b := b) with ⟨e, _⟩ | ⟨e, h1, h2⟩ | ⟨e, h1, h2⟩ | ⟨e, _⟩ | ⟨e, h1, h2, h3⟩
  · rw [e] at h; exact absurd h (by show ¬ (2 : Int) = 0; decide)
  · rw [e]; subst h1; exact ⟨h2, mrg_zl (.inl rfl), by show b.n = 0 + b.n; omega⟩
  · rw [e]; subst h2; exact ⟨.inr h1, mrg_zl (.inr h1), by show a.n = a.n + 0; omega⟩
  · rw [e] at h; exact absurd h (by show ¬ (9 : Int) = 0; decide)
  · rw [e]; exact ⟨.inr (join_full h1 h2 h3 hb.1), mrg_zl (.inr h1), rfl⟩
theorem mrg_bad {a b : Cell} (h : (mrg a b).2 ≠ 0) : (mrg a b).1 = z := by
  rcases mrg_cases (a := a) (b := b) with ⟨e, _⟩ | ⟨e, _⟩ | ⟨e, _⟩ | ⟨e, _⟩ | ⟨e, _⟩ <;> rw [e] at h ⊢
  · exact absurd rfl h
  · exact absurd rfl h
  · exact absurd rfl h
theorem mrg_assoc {a b c : Cell} (hb : Fits b) (hc : Fits c) (h1 : (mrg a b).2 = 0) (h2 : (mrg b c).2 = 0) : mrg (mrg a b).1 c = mrg a (mrg b c).1 := by
  rcases mrg_cases (a := a) (b := b) with ⟨e, _⟩ | ⟨e, g1, g2⟩ | ⟨e, g1, g2⟩ | ⟨e, _⟩ | ⟨e, g1, g2, g3⟩
  · rw [e] at h1; exact absurd h1 (by show ¬ (2 : Int) = 0; decide)
  · subst g1
    have hr := mrg_right hc h2
    rw [e, mrg_zl hr.1]
    show mrg b c = _
    rw [← h2]
  · subst g2
    rw [mrg_zl (mrg_right hc h2 |>.1 |> fun _ => by
      rcases mrg_cases (a := z) (b := c) with ⟨e2, _⟩ | ⟨_, _, h⟩ | ⟨_, h, _⟩ | ⟨_, h, _⟩ | ⟨_, h, _⟩
      · rw [e2] at h2; exact absurd h2 (by show ¬ (2 : Int) = 0; decide)
      · exact h
      · exact absurd rfl h.ne
      · exact absurd rfl h.ne
      · exact absurd rfl h.ne), e]
  · rw [e] at h1; exact absurd h1 (by show ¬ (9 : Int) = 0; decide)
  · rw [e]
    have fj := join_full g1 g2 g3 hb.1
    rcases mrg_cases (a := b) (b := c) with ⟨e2, _⟩ | ⟨e2, k1, k2⟩ | ⟨e2, k1, k2⟩ | ⟨e2, _⟩ | ⟨e2, k1, k2, k3⟩
    · rw [e2] at h2; exact absurd h2 (by show ¬ (2 : Int) = 0; decide)
    · exact absurd k1 g2.ne
    · subst k2
      rw [e2, mrg_zr (.inr fj)]
      exact e.symm
    · rw [e2] at h2; exact absurd h2 (by show ¬ (9 : Int) = 0; decide)
    · rw [e2, mrg_join fj k2 k3, mrg_join g1 (join_full k1 k2 k3 hc.1) g3, join_assoc]
/-! ### events -/
def add (c : Cell) (e : Ev) : Cell := if c = z then one e else join c (one e)
def ofL (l : List Ev) : Cell × Int := if Mrg.chk l ≠ 0 then (z, Mrg.chk l) else (l.foldl add z, 0)
theorem add_full {c : Cell} {e : Ev} (hc : c = z ∨ (Full c ∧ c.L.T < e.T)) (he : e.ok) (hV : e.V < 18446744073709551616) : Full (add c e) ∧ (add c e).L = e ∧ mrg c (one e) = (add c e, 0) := by
  rcases hc with rfl | ⟨h1, h2⟩
  · rw [show add z e = one e from if_pos rfl]
    exact ⟨one_full he, rfl, mrg_zl (.inr (one_full he))⟩
  · rw [show add c e = join c (one e) from if_neg h1.ne]
    exact ⟨join_full h1 (one_full he) h2 hV, rfl, mrg_join h1 (one_full he) h2⟩
theorem fold_join (c d : Cell) : ∀ (l : List Ev), Full c → Full d → c.L.T < d.F.T → d.F.V < 18446744073709551616 → (∀ e ∈ l, e.ok ∧ e.V < 18446744073709551616) → (∀ e ∈ l, d.L.T < e.T) → Mrg.Asc l → l.foldl add (join c d) = join c (l.foldl add d)
  | [], _, _, _, _, _, _, _ => rfl
  | e :: l, hc, hd, h, hV, ho, hl, ha => by
    obtain ⟨o1, o2⟩ := ho e (List.mem_cons_self ..)
    obtain ⟨a1, a2⟩ := List.pairwise_cons.1 ha
    have h1 := hl e (List.mem_cons_self ..)
    have fj := join_full hc hd h hV
    have e1 : add (join c d) e = join c (join d (one e)) := by rw [show add (join c d) e = join (join c d) (one e) from if_neg fj.ne, join_assoc]
    have e2 : add d e = join d (one e) := if_neg hd.ne
    rw [List.foldl_cons, List.foldl_cons, e1, e2]
    exact fold_join c (join d (one e)) l hc (join_full hd (one_full o1) h1 o2) h hV (fun x hx => ho x (List.mem_cons_of_mem _ hx)) (fun x hx => a1 x hx) a2
theorem fold_full : ∀ (l : List Ev) (c : Cell), (c = z ∨ (Full c ∧ ∀ e ∈ l, c.L.T < e.T)) → (∀ e ∈ l, e.ok ∧ e.V < 18446744073709551616) → Mrg.Asc l → (l = [] ∧ l.foldl add c = c) ∨ (∃ h : l ≠ [], Full (l.foldl add c) ∧ (l.foldl add c).L = l.getLast h)
  | [], _, _, _, _ => .inl ⟨rfl, rfl⟩
  | e :: l, c, hc, ho, ha => by
    obtain ⟨o1, o2⟩ := ho e (List.mem_cons_self ..)
    obtain ⟨a1, a2⟩ := List.pairwise_cons.1 ha
    obtain ⟨f1, f2, _⟩ := add_full (hc.imp_right fun ⟨h1, h2⟩ => ⟨h1, h2 e (List.mem_cons_self ..)⟩) o1 o2
    refine .inr ⟨by simp, ?_⟩
    rw [List.foldl_cons]
    rcases fold_full l (add c e) (.inr ⟨f1, fun x hx => by rw [f2]; exact a1 x hx⟩) (fun x hx => ho x (List.mem_cons_of_mem _ hx)) a2 with ⟨rfl, h⟩ | ⟨h, h1, h2⟩
    · exact ⟨by rw [h]; exact f1, by rw [h, f2]; rfl⟩
    · exact ⟨h1, by rw [h2, List.getLast_cons h]⟩
theorem fold_F : ∀ (l : List Ev) (c : Cell), Full c → (∀ e ∈ l, e.ok ∧ e.V < 18446744073709551616) → (∀ e ∈ l, c.L.T < e.T) → Mrg.Asc l → (l.foldl add c).F = c.F
  | [], _, _, _, _, _ => rfl
  | e :: l, c, hc, ho, hl, ha => by
    obtain ⟨o1, o2⟩ := ho e (List.mem_cons_self ..)
    obtain ⟨a1, a2⟩ := List.pairwise_cons.1 ha
    obtain ⟨f1, f2, _⟩ := add_full (.inr ⟨hc, hl e (List.mem_cons_self ..)⟩) o1 o2
    rw [List.foldl_cons, fold_F l _ f1 (fun x hx => ho x (List.mem_cons_of_mem _ hx)) (fun x hx => by rw [f2]; exact a1 x hx) a2, show add c e = join c (one e) from if_neg hc.ne]
    rfl
theorem fold_mrg {a b : List Ev} (h : ∀ e ∈ a ++ b, e.ok ∧ e.V < 18446744073709551616) (hs : Mrg.Asc (a ++ b)) : mrg (a.foldl add z) (b.foldl add z) = ((a ++ b).foldl add z, 0) := by
  obtain ⟨s1, s2, s3⟩ := List.pairwise_append.1 hs
  have oa : ∀ e ∈ a, e.ok ∧ e.V < 18446744073709551616 := fun e he => h e (List.mem_append_left _ he)
  have ob : ∀ e ∈ b, e.ok ∧ e.V < 18446744073709551616 := fun e he => h e (List.mem_append_right _ he)
  rw [List.foldl_append]
  rcases fold_full a z (.inl rfl) oa s1 with ⟨rfl, g⟩ | ⟨na, g1, g2⟩
  · show mrg z _ = _
    rw [mrg_zl]
    · rfl
    · rcases fold_full b z (.inl rfl) ob s2 with ⟨rfl, g⟩ | ⟨_, k1, _⟩
      · exact .inl rfl
      · exact .inr k1
  · rcases b with _ | ⟨e, b⟩
    · exact mrg_zr (.inr g1)
    · obtain ⟨a1, a2⟩ := List.pairwise_cons.1 s2
      obtain ⟨o1, o2⟩ := ob e (List.mem_cons_self ..)
      have fo := one_full o1
      have hlt : (a.foldl add z).L.T < e.T := by rw [g2]; exact s3 _ (List.getLast_mem na) e (List.mem_cons_self ..)
      have ob' : ∀ x ∈ b, x.ok ∧ x.V < 18446744073709551616 := fun x hx => ob x (List.mem_cons_of_mem _ hx)
      have e1 : add z e = one e := if_pos rfl
      have e2 : add (a.foldl add z) e = join (a.foldl add z) (one e) := if_neg g1.ne
      rw [List.foldl_cons, List.foldl_cons, e1, e2, fold_join _ _ b g1 fo hlt o2 ob' a1 a2]
      refine mrg_join g1 ?_ ?_
      · rcases fold_full b (one e) (.inr ⟨fo, a1⟩) ob' a2 with ⟨rfl, g⟩ | ⟨_, k1, _⟩
        · exact fo
        · exact k1
      · rw [fold_F b (one e) fo ob' a1 a2]; exact hlt
end Cell
end Go.Proofs.Ytoplagjjojlceaa
/- Cells held against one another; which are right: the program's answer. -/
set_option linter.unusedSimpArgs false
set_option linter.unusedVariables false
set_option linter.unusedSectionVars false
set_option maxRecDepth 20000
set_option maxHeartbeats 4000000
namespace Go.Proofs.Ytoplagjjojlceaa
open Go Go.J
attribute [local irreducible] At AtQ AtM AtM1 PR Ct Pu Rd Res.blk Res.own Res.ex RVs RV
namespace Cell
open Ev Wide
theorem wide_ext {a b : Nat} (h1 : ((a / 18446744073709551616 : Nat) : Int) = ((b / 18446744073709551616 : Nat) : Int)) (h2 : ((a % 18446744073709551616 : Nat) : Int) = ((b % 18446744073709551616 : Nat) : Int)) : a = b := by omega
theorem and_cell (a b : Cell) : andL [decide (a.n = b.n), decide (a.F.T = b.F.T), decide ((a.F.V : Int) = (b.F.V : Int)), decide (a.F.C = b.F.C), a.F.S == b.F.S, decide (a.L.T = b.L.T), decide ((a.L.V : Int) = (b.L.V : Int)), decide (a.L.C = b.L.C), a.L.S == b.L.S,
    decide (((a.I / 18446744073709551616 : Nat) : Int) = ((b.I / 18446744073709551616 : Nat) : Int)), decide (((a.I % 18446744073709551616 : Nat) : Int) = ((b.I % 18446744073709551616 : Nat) : Int)), decide (a.R = b.R), decide (a.G = b.G), decide (a.X = b.X)] = decide (a = b) := by
  by_cases h : a = b
  · subst h; simp [andL_cons, andL_nil]
  · rw [decide_eq_false h]
    cases hb : andL [decide (a.n = b.n), decide (a.F.T = b.F.T), decide ((a.F.V : Int) = (b.F.V : Int)), decide (a.F.C = b.F.C), a.F.S == b.F.S, decide (a.L.T = b.L.T), decide ((a.L.V : Int) = (b.L.V : Int)), decide (a.L.C = b.L.C), a.L.S == b.L.S,
    decide (((a.I / 18446744073709551616 : Nat) : Int) = ((b.I / 18446744073709551616 : Nat) : Int)), decide (((a.I % 18446744073709551616 : Nat) : Int) = ((b.I % 18446744073709551616 : Nat) : Int)), decide (a.R = b.R), decide (a.G = b.G), decide (a.X = b.X)] with
    | false => rfl
    | true =>
      simp only [andL_cons, andL_nil, Bool.and_eq_true, decide_eq_true_eq, beq_iff_eq] at hb
      obtain ⟨h1, h2, h3, h4, h5, h6, h7, h8, h9, h10, h11, h12, h13, h14, _⟩ := hb
      exact absurd (ext h1 (Mrg.ev_ext h2 (Int.ofNat.inj h3) h4 h5) (Mrg.ev_ext h6 (Int.ofNat.inj h7) h8 h9) (wide_ext h10 h11) h12 h13 h14) h
theorem pr_ceq {n : Nat} {F : Fr} {C : World → Prop} {x y : Operand} {u : TypeId} {a b : Cell} (hx : ev F x = some a.v) (hy : ev F y = some b.v) : PR Try.prog n F C (.binOp .eql 47 x y u) (.bool (decide (a = b))) := by
  rw [← and_cell]
  exact pr_aggeq2 hx hy (by rfl) (by kernel_rfl) (by kernel_rfl) (by rfl)
theorem pr_cne {n : Nat} {F : Fr} {C : World → Prop} {x y : Operand} {u : TypeId} {a b : Cell} (hx : ev F x = some a.v) (hy : ev F y = some b.v) : PR Try.prog n F C (.binOp .neq 47 x y u) (.bool (!decide (a = b))) := by
  rw [← and_cell]
  exact pr_aggne2 hx hy (by rfl) (by kernel_rfl) (by kernel_rfl) (by rfl)
theorem none_ (c : Cell) : Pu Try.prog 54 #[c.v] (.bool (decide (c = z))) := Pu.intro fun m => by
  refine Ct.enterV (by rfl) Try.func54 rfl Try.ntmps54 rfl (fun w0 Rest => ?_)
  (repeat' (first | refine zss ?_ | ((first | (with_reducible first | apply At.val | apply AtQ.val)); (exact pr_ceq (b := z) (by rfl) (by rfl)); exact rfl) | refine zs0 ?_ | ((with_reducible apply At.box (d := 1)); exact rfl; exact rfl; exact rfl; intro b1) | (refine zsp ?_ ?_ <;> (intro hc; (try simp only [zhcs, reduceCtorEq] at hc); (try (exfalso; first | contradiction | omega | exact absurd rfl hc | exact absurd (by decide) hc))))))
  all_goals ((with_reducible apply At.retB1 (B := [])); exact rfl; exact rfl; exact zml; exact zkp; exact ⟨rfl, rfl, rfl⟩)
theorem in_ (n k : Int) : Pu Try.prog 64 #[.int .i64 n, .int .i64 k] (.bool (decide (0 ≤ n ∧ n ≤ k))) := Pu.intro fun m => by
  refine Ct.enterV (by rfl) Try.func64 rfl Try.ntmps64 rfl (fun w0 Rest => ?_)
  (repeat' (first | refine zss ?_ | refine zs0 ?_ | (refine zsp ?_ ?_ <;> (intro hc; (try simp only [zhcs, reduceCtorEq] at hc); (try (exfalso; first | contradiction | omega | exact absurd rfl hc | exact absurd (by decide) hc))))))
  all_goals ((with_reducible apply At.retB1 (B := [])); exact rfl; exact rfl; exact zml; exact zkp; exact ⟨congrArg Value.bool (by simp [hc]), rfl, rfl⟩)
/-- a cell's events may be its first and its last -/
def spn (c : Cell) : Prop := (c.n = 1 ∧ c.F = c.L ∧ c.F.ok) ∨ (1 < c.n ∧ c.F.ok ∧ c.L.ok ∧ c.F.T < c.L.T ∧ c.n - 1 ≤ c.L.T - c.F.T)
instance (c : Cell) : Decidable (spn c) := by unfold spn; infer_instance
theorem spans (c : Cell) (hn : -9223372036854775808 ≤ c.n ∧ c.n ≤ 9223372036854775807) : Pu Try.prog 60 #[c.v] (.bool (decide (spn c))) := Pu.intro fun m => by
  have hk := Ev.check c.F
  by_cases h1 : c.n = 1
  · by_cases h2 : c.F = c.L
    · by_cases h3 : c.F.ok
      · rw [show c.F.chk = 0 from if_pos h3] at hk
        rw [decide_eq_true (show spn c from .inl ⟨h1, h2, h3⟩)]
        refine Ct.enterV (by rfl) Try.func60 rfl Try.ntmps60 rfl (fun w0 Rest => ?_)
        (repeat' (first | refine zss ?_ | ((first | (with_reducible first | apply At.val | apply AtQ.val)); (exact Mrg.pr_eveq (a := c.F) (b := c.L) (by rfl) (by rfl)); exact rfl) | refine zs0 ?_ | ((with_reducible first | apply AtM1.callp | apply AtQ.callp | apply At.callp); kernel_rfl; exact rfl; exact rfl; exact hk) | ((with_reducible apply At.box (d := 1)); exact rfl; exact rfl; exact rfl; intro b1) | (refine zsp ?_ ?_ <;> (intro hc; (try simp only [zhcs, reduceCtorEq] at hc); (try (exfalso; first | (first | omega | exact absurd h2 hc) | contradiction | omega | exact absurd rfl hc | exact absurd (by decide) hc))))))
        all_goals ((with_reducible apply At.retB1 (B := [])); exact rfl; exact rfl; exact zml; exact zkp; exact ⟨rfl, rfl, rfl⟩)
      · rw [show c.F.chk = 2 from if_neg h3] at hk
        rw [decide_eq_false (show ¬ spn c from fun h => h.elim (fun h => h3 h.2.2) (fun h => by omega))]
        refine Ct.enterV (by rfl) Try.func60 rfl Try.ntmps60 rfl (fun w0 Rest => ?_)
        (repeat' (first | refine zss ?_ | ((first | (with_reducible first | apply At.val | apply AtQ.val)); (exact Mrg.pr_eveq (a := c.F) (b := c.L) (by rfl) (by rfl)); exact rfl) | refine zs0 ?_ | ((with_reducible first | apply AtM1.callp | apply AtQ.callp | apply At.callp); kernel_rfl; exact rfl; exact rfl; exact hk) | ((with_reducible apply At.box (d := 1)); exact rfl; exact rfl; exact rfl; intro b1) | (refine zsp ?_ ?_ <;> (intro hc; (try simp only [zhcs, reduceCtorEq] at hc); (try (exfalso; first | (first | omega | exact absurd h2 hc) | contradiction | omega | exact absurd rfl hc | exact absurd (by decide) hc))))))
        all_goals ((with_reducible apply At.retB1 (B := [])); exact rfl; exact rfl; exact zml; exact zkp; exact ⟨rfl, rfl, rfl⟩)
    · rw [decide_eq_false (show ¬ spn c from fun h => h.elim (fun h => h2 h.2.1) (fun h => by omega))]
      refine Ct.enterV (by rfl) Try.func60 rfl Try.ntmps60 rfl (fun w0 Rest => ?_)
      (repeat' (first | refine zss ?_ | ((first | (with_reducible first | apply At.val | apply AtQ.val)); (exact Mrg.pr_eveq (a := c.F) (b := c.L) (by rfl) (by rfl)); exact rfl) | refine zs0 ?_ | ((with_reducible apply At.box (d := 1)); exact rfl; exact rfl; exact rfl; intro b1) | (refine zsp ?_ ?_ <;> (intro hc; (try simp only [zhcs, reduceCtorEq] at hc); (try (exfalso; first | (first | omega | exact absurd hc h2) | contradiction | omega | exact absurd rfl hc | exact absurd (by decide) hc))))))
      all_goals ((with_reducible apply At.retB1 (B := [])); exact rfl; exact rfl; exact zml; exact zkp; exact ⟨rfl, rfl, rfl⟩)
  · by_cases h2 : 1 < c.n
    · have hf := Ev.follow c.F c.L
      by_cases h3 : c.F.ok ∧ c.L.ok ∧ c.F.T < c.L.T
      · obtain ⟨o1, o2, o3⟩ := h3
        rw [show fol c.F c.L = true by unfold fol; rw [decide_eq_true (show two c.F c.L from ⟨o1, o2⟩), decide_eq_true o3]; rfl] at hf
        have ⟨p1, p2, _⟩ := o1
        have ⟨p3, p4, _⟩ := o2
        by_cases h4 : c.n - 1 ≤ c.L.T - c.F.T
        · rw [decide_eq_true (show spn c from .inr ⟨h2, o1, o2, o3, h4⟩)]
          refine Ct.enterV (by rfl) Try.func60 rfl Try.ntmps60 rfl (fun w0 Rest => ?_)
          (repeat' (first | refine zss ?_ | refine zs0 ?_ | ((with_reducible first | apply AtM1.callp | apply AtQ.callp | apply At.callp); kernel_rfl; exact rfl; exact rfl; exact hf) | ((with_reducible apply At.box (d := 1)); exact rfl; exact rfl; exact rfl; intro b1) | (refine zsp ?_ ?_ <;> (intro hc; (try simp only [zhcs, reduceCtorEq] at hc); (try (exfalso; first | omega | contradiction | omega | exact absurd rfl hc | exact absurd (by decide) hc))))))
          all_goals ((with_reducible apply At.retB1 (B := [])); exact rfl; exact rfl; exact zml; exact zkp; exact ⟨congrArg Value.bool (decide_eq_true h4), rfl, rfl⟩)
        · rw [decide_eq_false (show ¬ spn c from fun h => h.elim (fun h => h1 h.1) (fun h => h4 h.2.2.2.2))]
          refine Ct.enterV (by rfl) Try.func60 rfl Try.ntmps60 rfl (fun w0 Rest => ?_)
          (repeat' (first | refine zss ?_ | refine zs0 ?_ | ((with_reducible first | apply AtM1.callp | apply AtQ.callp | apply At.callp); kernel_rfl; exact rfl; exact rfl; exact hf) | ((with_reducible apply At.box (d := 1)); exact rfl; exact rfl; exact rfl; intro b1) | (refine zsp ?_ ?_ <;> (intro hc; (try simp only [zhcs, reduceCtorEq] at hc); (try (exfalso; first | omega | contradiction | omega | exact absurd rfl hc | exact absurd (by decide) hc))))))
          all_goals ((with_reducible apply At.retB1 (B := [])); exact rfl; exact rfl; exact zml; exact zkp; exact ⟨congrArg Value.bool (decide_eq_false h4), rfl, rfl⟩)
      · rw [show fol c.F c.L = false by
          unfold fol
          by_cases ht : two c.F c.L
          · rw [decide_eq_false (show ¬ c.F.T < c.L.T from fun h => h3 ⟨ht.1, ht.2, h⟩), Bool.and_false]
          · rw [decide_eq_false ht, Bool.false_and]] at hf
        rw [decide_eq_false (show ¬ spn c from fun h => h.elim (fun h => h1 h.1) (fun h => h3 ⟨h.2.1, h.2.2.1, h.2.2.2.1⟩))]
        refine Ct.enterV (by rfl) Try.func60 rfl Try.ntmps60 rfl (fun w0 Rest => ?_)
        (repeat' (first | refine zss ?_ | refine zs0 ?_ | ((with_reducible first | apply AtM1.callp | apply AtQ.callp | apply At.callp); kernel_rfl; exact rfl; exact rfl; exact hf) | ((with_reducible apply At.box (d := 1)); exact rfl; exact rfl; exact rfl; intro b1) | (refine zsp ?_ ?_ <;> (intro hc; (try simp only [zhcs, reduceCtorEq] at hc); (try (exfalso; first | omega | contradiction | omega | exact absurd rfl hc | exact absurd (by decide) hc))))))
        all_goals ((with_reducible apply At.retB1 (B := [])); exact rfl; exact rfl; exact zml; exact zkp; exact ⟨rfl, rfl, rfl⟩)
    · rw [decide_eq_false (show ¬ spn c from fun h => h.elim (fun h => h1 h.1) (fun h => h2 h.1))]
      refine Ct.enterV (by rfl) Try.func60 rfl Try.ntmps60 rfl (fun w0 Rest => ?_)
      (repeat' (first | refine zss ?_ | refine zs0 ?_ | ((with_reducible apply At.box (d := 1)); exact rfl; exact rfl; exact rfl; intro b1) | (refine zsp ?_ ?_ <;> (intro hc; (try simp only [zhcs, reduceCtorEq] at hc); (try (exfalso; first | omega | contradiction | omega | exact absurd rfl hc | exact absurd (by decide) hc))))))
      all_goals ((with_reducible apply At.retB1 (B := [])); exact rfl; exact rfl; exact zml; exact zkp; exact ⟨rfl, rfl, rfl⟩)
end Cell
end Go.Proofs.Ytoplagjjojlceaa
/- Which cells are right, as the program and the document tell it. -/
set_option linter.unusedSimpArgs false
set_option linter.unusedVariables false
set_option linter.unusedSectionVars false
set_option maxRecDepth 20000
set_option maxHeartbeats 4000000
namespace Go.Proofs.Ytoplagjjojlceaa
open Go Go.J
attribute [local irreducible] At AtQ AtM AtM1 PR Ct Pu Rd Res.blk Res.own Res.ex RVs RV
namespace Cell
open Ev Wide
theorem spn_pos {c : Cell} (h : spn c) : 1 ≤ c.n ∧ c.n ≤ 35184372088833 ∧ c.F.ok ∧ c.L.ok ∧ (c.n = 1 → c.F = c.L) ∧ (1 < c.n → c.F.T < c.L.T) ∧ c.n - 1 ≤ c.L.T - c.F.T := by
  rcases h with ⟨h1, h2, h3⟩ | ⟨h1, h2, h3, h4, h5⟩
  · exact ⟨by omega, by omega, h3, h2 ▸ h3, fun _ => h2, fun h => by omega, by rw [h2]; omega⟩
  · have ⟨p1, p2, _⟩ := h2
    have ⟨p3, p4, _⟩ := h3
    exact ⟨by omega, by omega, h2, h3, fun h => by omega, fun _ => h4, h5⟩
theorem full_iff {c : Cell} {k : Nat} (hk : c.n - 1 = (k : Int)) (hs : spn c) : Full c ↔ c.I ≤ 18446744073709551615 * k ∧ (0 ≤ c.G ∧ c.G ≤ (k : Int)) ∧ (0 ≤ c.R ∧ c.R ≤ (k : Int) - c.G) ∧ 0 ≤ c.X ∧ c.X ≤ c.L.T - c.F.T := by
  obtain ⟨a1, a2, a3, a4, a5, a6, a7⟩ := spn_pos hs
  have e : (c.n - 1).toNat = k := by omega
  constructor
  · intro h
    have h1 := h.I
    have h2 := h.G
    have h3 := h.R
    have h4 := h.RG
    have h5 := h.X
    have h6 := h.XL
    rw [e] at h1
    exact ⟨h1, ⟨h2, by omega⟩, ⟨h3, by omega⟩, h5, h6⟩
  · rintro ⟨h1, ⟨h2, h3⟩, ⟨h4, h5⟩, h6, h7⟩
    exact ⟨a1, a3, a4, a5, a6, a7, h4, h2, by omega, h6, h7, by rw [e]; exact h1⟩
theorem full_spn {c : Cell} (h : Full c) : spn c := by
  by_cases h1 : c.n = 1
  · exact .inl ⟨h1, h.one h1, h.F⟩
  · have := h.n
    exact .inr ⟨by omega, h.F, h.L, h.lt (by omega), h.len⟩
theorem sV_small {x : Nat} (h : x < 340282366920938463463374607431768211456) : sV x = x ∧ sE x = 0 := ⟨if_pos h, if_pos h⟩
set_option maxHeartbeats 1000000 in
theorem check (c : Cell) (hn : -9223372036854775808 ≤ c.n ∧ c.n ≤ 9223372036854775807) : Pu Try.prog 53 #[c.v] (.int .i64 (chk c)) := Pu.of_le fun m => by
  have k1 := none_ c
  have k2 := spans c hn
  by_cases hz : c = z
  · rw [show chk c = 0 from if_pos (.inl hz)]
    rw [decide_eq_true hz] at k1
    refine Ct.enterV (by rfl) Try.func53 rfl Try.ntmps53 rfl (fun w0 Rest => ?_)
    (repeat' (first | refine zss ?_ | refine zs0 ?_ | ((with_reducible first | apply AtM1.callp | apply AtQ.callp | apply At.callp); kernel_rfl; exact rfl; exact rfl; exact k1) | ((with_reducible apply At.box (d := 1)); exact rfl; exact rfl; exact rfl; intro b1) | ((with_reducible apply At.alloc (d := 4)); exact rfl; exact rfl; intro b4) | (refine zsp ?_ ?_ <;> (intro hc; (try simp only [zhcs, reduceCtorEq] at hc); (try (exfalso; first | omega | contradiction | omega | exact absurd rfl hc | exact absurd (by decide) hc))))))
    all_goals ((with_reducible apply At.retB1 (B := [])); exact rfl; exact rfl; exact zml; exact zkp; exact ⟨rfl, Mem.le_refl _, rfl⟩)
  · rw [decide_eq_false hz] at k1
    by_cases hs : spn c
    · rw [decide_eq_true hs] at k2
      obtain ⟨a1, a2, a3, a4, a5, a6, a7⟩ := spn_pos hs
      obtain ⟨k, hk⟩ : ∃ k : Nat, c.n - 1 = (k : Int) := ⟨(c.n - 1).toNat, by omega⟩
      have hf := full_iff hk hs
      have ⟨p1, p2, _⟩ := a3
      have ⟨p3, p4, _⟩ := a4
      have ht := Wide.times 18446744073709551615 k (by decide) (by omega)
      obtain ⟨e1, e2⟩ := sV_small (x := 18446744073709551615 * k) (by omega)
      rw [e1, e2] at ht
      have ho := Wide.of_ 18446744073709551615 (by decide)
      obtain ⟨T, hT⟩ : ∃ T, 18446744073709551615 * k = T := ⟨_, rfl⟩
      rw [hT] at ht hf
      have hl := Wide.less T c.I
      have hsub : IntKind.wrap .i64 (c.n - 1) = (k : Int) := by rw [hk]; exact IntWalk.i64_in _ (by omega)
      have hcv : IntKind.wrap .u64 (k : Int) = (k : Int) := IntWalk.u64_in _ (by omega)
      by_cases hF : Full c
      · rw [show chk c = 0 from if_pos (.inr hF)]
        obtain ⟨h1, ⟨h2, h3⟩, ⟨h4, h5⟩, h6, h7⟩ := hf.1 hF
        rw [decide_eq_false (by omega)] at hl
        refine Ct.enterV (by rfl) Try.func53 rfl Try.ntmps53 rfl (fun w0 Rest => ?_)
        (repeat' (first | refine zss ?_ | ((first | (with_reducible first | apply At.val | apply AtQ.val)); (first | exact pr_sub (by rfl) (by rfl) hsub | exact pr_conv ⟨_, rfl⟩ (by rfl) (by rfl) hcv); exact rfl) | refine zs0 ?_ | ((with_reducible first | apply AtM1.callp | apply AtQ.callp | apply At.callp); kernel_rfl; exact rfl; exact rfl; exact k1) | ((with_reducible first | apply AtM1.callp | apply AtQ.callp | apply At.callp); kernel_rfl; exact rfl; exact rfl; exact k2) | ((with_reducible first | apply AtM1.callp | apply AtQ.callp | apply At.callp); kernel_rfl; exact rfl; exact rfl; exact ho) | ((with_reducible first | apply AtM1.callp | apply AtQ.callp | apply At.callp); kernel_rfl; exact rfl; exact rfl; exact ht) | ((with_reducible first | apply AtM1.callp | apply AtQ.callp | apply At.callp); kernel_rfl; exact rfl; exact rfl; exact hl) | ((with_reducible first | apply AtM1.callp | apply AtQ.callp | apply At.callp); kernel_rfl; exact rfl; exact rfl; exact in_ _ _) | ((with_reducible apply At.box (d := 1)); exact rfl; exact rfl; exact rfl; intro b1) | ((with_reducible apply At.alloc (d := 4)); exact rfl; exact rfl; intro b4) | (refine zsp ?_ ?_ <;> (intro hc; (try simp only [zhcs, reduceCtorEq] at hc); (try (exfalso; first | omega | contradiction | omega | exact absurd rfl hc | exact absurd (by decide) hc))))))
        all_goals ((with_reducible apply At.retB1 (B := [])); exact rfl; exact rfl; exact zml; exact zkp; exact ⟨rfl, Mem.le_refl _, rfl⟩)
      · rw [show chk c = 2 from if_neg (fun h => h.elim hz hF)]
        rw [hf] at hF
        refine Ct.enterV (by rfl) Try.func53 rfl Try.ntmps53 rfl (fun w0 Rest => ?_)
        (repeat' (first | refine zss ?_ | ((first | (with_reducible first | apply At.val | apply AtQ.val)); (first | exact pr_sub (by rfl) (by rfl) hsub | exact pr_conv ⟨_, rfl⟩ (by rfl) (by rfl) hcv); exact rfl) | refine zs0 ?_ | ((with_reducible first | apply AtM1.callp | apply AtQ.callp | apply At.callp); kernel_rfl; exact rfl; exact rfl; exact k1) | ((with_reducible first | apply AtM1.callp | apply AtQ.callp | apply At.callp); kernel_rfl; exact rfl; exact rfl; exact k2) | ((with_reducible first | apply AtM1.callp | apply AtQ.callp | apply At.callp); kernel_rfl; exact rfl; exact rfl; exact ho) | ((with_reducible first | apply AtM1.callp | apply AtQ.callp | apply At.callp); kernel_rfl; exact rfl; exact rfl; exact ht) | ((with_reducible first | apply AtM1.callp | apply AtQ.callp | apply At.callp); kernel_rfl; exact rfl; exact rfl; exact hl) | ((with_reducible first | apply AtM1.callp | apply AtQ.callp | apply At.callp); kernel_rfl; exact rfl; exact rfl; exact in_ _ _) | ((with_reducible apply At.box (d := 1)); exact rfl; exact rfl; exact rfl; intro b1) | ((with_reducible apply At.alloc (d := 4)); exact rfl; exact rfl; intro b4) | (refine zsp ?_ ?_ <;> (intro hc; (try simp only [zhcs, reduceCtorEq] at hc); (try (exfalso; first | (first | omega | exact hF ⟨by omega, by omega, by omega, by omega, by omega⟩) | contradiction | omega | exact absurd rfl hc | exact absurd (by decide) hc))))))
        all_goals ((with_reducible apply At.retB1 (B := [])); exact rfl; exact rfl; exact zml; exact zkp; exact ⟨rfl, Mem.le_refl _, rfl⟩)
    · rw [show chk c = 2 from if_neg (fun h => h.elim hz (fun h => hs (full_spn h)))]
      rw [decide_eq_false hs] at k2
      refine Ct.enterV (by rfl) Try.func53 rfl Try.ntmps53 rfl (fun w0 Rest => ?_)
      (repeat' (first | refine zss ?_ | refine zs0 ?_ | ((with_reducible first | apply AtM1.callp | apply AtQ.callp | apply At.callp); kernel_rfl; exact rfl; exact rfl; exact k1) | ((with_reducible first | apply AtM1.callp | apply AtQ.callp | apply At.callp); kernel_rfl; exact rfl; exact rfl; exact k2) | ((with_reducible apply At.box (d := 1)); exact rfl; exact rfl; exact rfl; intro b1) | ((with_reducible apply At.alloc (d := 4)); exact rfl; exact rfl; intro b4) | (refine zsp ?_ ?_ <;> (intro hc; (try simp only [zhcs, reduceCtorEq] at hc); (try (exfalso; first | omega | contradiction | omega | exact absurd rfl hc | exact absurd (by decide) hc))))))
      all_goals ((with_reducible apply At.retB1 (B := [])); exact rfl; exact rfl; exact zml; exact zkp; exact ⟨rfl, Mem.le_refl _, rfl⟩)
end Cell
end Go.Proofs.Ytoplagjjojlceaa
/- How cells merge, as the program and the document tell it. -/
set_option linter.unusedSimpArgs false
set_option linter.unusedVariables false
set_option linter.unusedSectionVars false
set_option maxRecDepth 20000
set_option maxHeartbeats 4000000
namespace Go.Proofs.Ytoplagjjojlceaa
open Go Go.J
attribute [local irreducible] At AtQ AtM AtM1 PR Ct Pu Rd Res.blk Res.own Res.ex RVs RV
namespace Cell
open Ev Wide
def In (c : Cell) : Prop := (-9223372036854775808 ≤ c.n ∧ c.n ≤ 9223372036854775807) ∧ c.F.V < 18446744073709551616 ∧ c.L.V < 18446744073709551616 ∧ c.I < 340282366920938463463374607431768211456
theorem In.fits {c : Cell} (h : In c) : Fits c := ⟨h.2.1, h.2.2.1⟩
theorem z_in : In z := by unfold In; decide
theorem Full.bd {c : Cell} (h : Full c) : c.n ≤ 35184372088833 ∧ c.I ≤ 649037107316853434412140771606528 ∧ c.R ≤ 35184372088833 ∧ c.G ≤ 35184372088833 ∧ c.X ≤ 35184372088833 := by
  have ⟨p1, p2, _⟩ := h.F
  have ⟨p3, p4, _⟩ := h.L
  have h1 := h.len
  have h2 := h.I
  have h3 := h.RG
  have h4 := h.R
  have h5 := h.G
  have h6 := h.XL
  have h7 := h.n
  exact ⟨by omega, by omega, by omega, by omega, by omega⟩
theorem Full.in {c : Cell} (h : Full c) (h1 : c.F.V < 18446744073709551616) (h2 : c.L.V < 18446744073709551616) : In c := by
  have hb := h.bd
  have hn := h.n
  exact ⟨by omega, h1, h2, by omega⟩
theorem mrg_in {a b : Cell} (ha : In a) (hb : In b) : In (mrg a b).1 := by
  rcases mrg_cases (a := a) (b := b) with ⟨e, _⟩ | ⟨e, h1, h2⟩ | ⟨e, h1, h2⟩ | ⟨e, _⟩ | ⟨e, h1, h2, h3⟩ <;> rw [e]
  · exact z_in
  · exact hb
  · exact ha
  · exact z_in
  · exact (join_full h1 h2 h3 hb.2.1).in ha.2.1 hb.2.2.1
theorem v_mk {c : Cell} {h l : Int} (hh : h = ((c.I / 18446744073709551616 : Nat) : Int)) (hl : l = ((c.I % 18446744073709551616 : Nat) : Int)) :
    Value.agg #[.int .i64 c.n, .int .i64 c.F.T, .int .u64 (c.F.V : Int), .int .i64 c.F.C, .bool c.F.S, .int .i64 c.L.T, .int .u64 (c.L.V : Int), .int .i64 c.L.C, .bool c.L.S, .int .u64 h, .int .u64 l, .int .i64 c.R, .int .i64 c.G, .int .i64 c.X] = c.v := by subst hh hl; rfl
theorem one_v (e : Ev) : Value.agg #[.int .i64 1, .int .i64 e.T, .int .u64 (e.V : Int), .int .i64 e.C, .bool e.S, .int .i64 e.T, .int .u64 (e.V : Int), .int .i64 e.C, .bool e.S, .int .u64 0, .int .u64 0, .int .i64 0, .int .i64 0, .int .i64 0] = (one e).v :=
  v_mk (c := one e) (h := 0) (l := 0) (by dsimp only [one]; omega) (by dsimp only [one]; omega)
theorem one_ (e : Ev) : Pu Try.prog 42 #[e.v] (one e).v := Pu.intro fun m => by
  refine Ct.enterV (by rfl) Try.func42 rfl Try.ntmps42 rfl (fun w0 Rest => ?_)
  (repeat' (first | refine zss ?_ | refine zs0 ?_ | ((with_reducible apply At.box (d := 1)); exact rfl; exact rfl; exact rfl; intro b1) | ((with_reducible apply At.alloc (d := 2)); exact rfl; exact rfl; intro b2) | (refine zsp ?_ ?_ <;> (intro hc; (try simp only [zhcs, reduceCtorEq] at hc); (try (exfalso; first | contradiction | omega | exact absurd rfl hc | exact absurd (by decide) hc))))))
  all_goals ((with_reducible apply At.retV (B := [])); exact rfl; (repeat' (first | exact RVs.nil | (with_reducible apply RVs.cons) | exact rv_tmp (by rfl) | exact rv_cellN (by rfl) (by repeat constructor) (by rfl) (by rfl) (by rfl) | exact rv_cell1 (by rfl) (by repeat constructor) (by rfl) (by rfl))); exact zml; exact zkp; exact ⟨one_v e, rfl, rfl⟩)
set_option maxHeartbeats 1000000 in
theorem join_ (a b : Cell) (ha : Full a) (hb : Full b) (ia : In a) (ib : In b) : Pu Try.prog 55 #[a.v, b.v] (.tuple #[(mrg a b).1.v, .int .i64 (mrg a b).2]) := Pu.of_le fun m => by
  have kb := Ev.between a.L b.F ia.2.2.1 ib.2.1
  by_cases h : a.L.T < b.F.T
  · rw [mrg_join ha hb h]
    obtain ⟨w, xR, xG, xRG, xX, xXL, xI⟩ := btw_bd ha.L hb.F h
    have ab := ha.bd
    have bb := hb.bd
    have a1 := ha.n
    have a2 := ha.R
    have a3 := ha.G
    have a4 := ha.X
    have b1 := hb.n
    have b2 := hb.R
    have b3 := hb.G
    have b4 := hb.X
    have ⟨p1, p2, _⟩ := hb.F
    have ⟨p3, p4, _⟩ := ha.L
    have bV := ib.2.1
    have jn : a.n + b.n = (join a b).n := rfl
    have jI : a.I + (btw a.L b.F).1.I + b.I = (join a b).I := rfl
    have jR : (btw a.L b.F).1.R + (a.R + b.R) = (join a b).R := by show _ = a.R + (btw a.L b.F).1.R + b.R; omega
    have jG : (btw a.L b.F).1.G + (a.G + b.G) = (join a b).G := by show _ = a.G + (btw a.L b.F).1.G + b.G; omega
    have jX : (btw a.L b.F).1.X + (a.X + b.X) = (join a b).X := by show _ = a.X + (btw a.L b.F).1.X + b.X; omega
    have jF : a.F = (join a b).F := rfl
    have jL : b.L = (join a b).L := rfl
    rw [w] at kb
    obtain ⟨x, ex⟩ : ∃ x, (btw a.L b.F).1 = x := ⟨_, rfl⟩
    rw [ex] at kb xR xG xRG xX xXL xI jI jR jG jX
    obtain ⟨J, eJ⟩ : ∃ J, join a b = J := ⟨_, rfl⟩
    rw [eJ] at jn jI jR jG jX jF jL ⊢
    have wn : IntKind.wrap .i64 (a.n + b.n) = J.n := by rw [← jn]; exact IntWalk.i64_in _ (by omega)
    have wR : IntKind.wrap .i64 (x.R + (a.R + b.R)) = J.R := by rw [← jR]; exact IntWalk.i64_in _ (by omega)
    have wG : IntKind.wrap .i64 (x.G + (a.G + b.G)) = J.G := by rw [← jG]; exact IntWalk.i64_in _ (by omega)
    have wX : IntKind.wrap .i64 (x.X + (a.X + b.X)) = J.X := by rw [← jX]; exact IntWalk.i64_in _ (by omega)
    have hsum : ∀ (m : Mem) p c, Sl m wd 2 p c [a.I, x.I, b.I] → Ct Try.prog 66 #[.slice p 3 c] m [] (fun v m' B => v = .tuple #[wv J.I, .int .i64 0] ∧ m = m' ∧ B = []) := fun m p c sl => by
      have hs := sum_ p c [a.I, x.I, b.I] (by show 3 ≤ _; decide) (by simp only [List.forall_mem_cons]; exact ⟨by omega, by omega, by omega, fun _ h => by cases h⟩) sl
      have e1 : [a.I, x.I, b.I].sum = J.I := by rw [← jI]; simp [Nat.add_assoc]
      obtain ⟨e2, e3⟩ := sV_small (x := J.I) (by rw [← jI]; omega)
      rw [e1, e2, e3] at hs
      exact hs
    refine Ct.enterV (by rfl) Try.func55 rfl Try.ntmps55 rfl (fun w0 Rest => ?_)
    (repeat' (first | ((with_reducible apply At.mixedX (id := 4) [.blk b6 47 (Cell.cells x)] 15 (.q 0 (.q 1 (.q 2 (.q 3 (.q 4 (.q 5 (.q 6 (.q 7 (.q 8 (.q 9 (.l 10 (.q 11 (.l 12 (.q 13 (.x 14 .done)))))))))))))))); (repeat' (first | exact Take.nil | ((with_reducible apply Take.cons); (focus ((repeat constructor); done))))); exact rfl; kernel_rfl; kernel_rfl; kernel_rfl) | refine zsx ?_ | refine zss ?_ | ((with_reducible apply AtM.bo); exact rfl; exact rfl; exact rfl) | ((first | (with_reducible first | apply At.val | apply AtQ.val) | ((with_reducible first | apply AtM1.valz | apply AtM1.val); exact rfl) | ((with_reducible apply AtM1.val); exact rfl)); (first | exact pr_add (by rfl) (by rfl) wn | exact pr_add (by rfl) (by rfl) wR | exact pr_add (by rfl) (by rfl) wG | exact pr_add (by rfl) (by rfl) wX); exact rfl) | refine zs0 ?_ | refine zx0 ?_ | ((with_reducible first | apply AtM1.callp | apply AtQ.callp | apply At.callp); kernel_rfl; exact rfl; exact rfl; exact kb) | ((with_reducible apply At.litF wd [a.I, x.I, b.I]); exact inferInstance; (iterate 7 exact rfl); intro b' m' hm' sl0; skip) | ((with_reducible first | apply At.c1 | apply At.c0); exact rfl; exact rfl; exact hsum _ _ _ sl0; exact ztk; kernel_rfl; rintro v' m' B' hm' ⟨rfl, rfl, rfl⟩; (try replace sl0 := sl0.mono hm'); (try (have hq0 : hm' = Mem.le_refl _ := rfl; clear hq0 hm'))) | ((with_reducible apply At.box (d := 2)); exact rfl; exact rfl; exact rfl; intro b2) | ((with_reducible apply At.box (d := 3)); exact rfl; exact rfl; exact rfl; intro b3) | ((with_reducible apply At.alloc (d := 4)); exact rfl; exact rfl; intro b4) | ((with_reducible apply At.alloc (d := 6)); exact rfl; exact rfl; intro b6) | (refine zsp ?_ ?_ <;> (intro hc; (try simp only [zhcs, reduceCtorEq] at hc); (try (exfalso; first | omega | contradiction | omega | exact absurd rfl hc | exact absurd (by decide) hc))))))
    all_goals ((with_reducible apply At.retV (B := [])); exact rfl; (repeat' (first | exact RVs.nil | (with_reducible apply RVs.cons) | exact rv_tmp (by rfl) | exact rv_cellN (by rfl) (by repeat constructor) (by rfl) (by rfl) (by rfl) | exact rv_cell1 (by rfl) (by repeat constructor) (by rfl) (by rfl))); exact zml; exact zkp; exact ⟨by subst eJ; rfl, by assumption, rfl⟩)
  · have e : mrg a b = (z, 9) := by
      unfold mrg
      rw [if_neg (not_not_intro ⟨.inr ha, .inr hb⟩), if_neg ha.ne, if_neg hb.ne, if_pos (by omega)]
    rw [e]
    have eb : btw a.L b.F = (z, 9) := by unfold btw; rw [if_neg (not_not_intro (show two a.L b.F from ⟨ha.L, hb.F⟩)), if_pos (by omega)]
    rw [eb] at kb
    refine Ct.enterV (by rfl) Try.func55 rfl Try.ntmps55 rfl (fun w0 Rest => ?_)
    (repeat' (first | refine zss ?_ | refine zs0 ?_ | ((with_reducible first | apply AtM1.callp | apply AtQ.callp | apply At.callp); kernel_rfl; exact rfl; exact rfl; exact kb) | ((with_reducible apply At.box (d := 2)); exact rfl; exact rfl; exact rfl; intro b2) | ((with_reducible apply At.box (d := 3)); exact rfl; exact rfl; exact rfl; intro b3) | ((with_reducible apply At.alloc (d := 4)); exact rfl; exact rfl; intro b4) | ((with_reducible apply At.alloc (d := 6)); exact rfl; exact rfl; intro b6) | (refine zsp ?_ ?_ <;> (intro hc; (try simp only [zhcs, reduceCtorEq] at hc); (try (exfalso; first | omega | contradiction | omega | exact absurd rfl hc | exact absurd (by decide) hc))))))
    all_goals ((with_reducible apply At.retV (B := [])); exact rfl; (repeat' (first | exact RVs.nil | (with_reducible apply RVs.cons) | exact rv_tmp (by rfl) | exact rv_cellN (by rfl) (by repeat constructor) (by rfl) (by rfl) (by rfl) | exact rv_cell1 (by rfl) (by repeat constructor) (by rfl) (by rfl))); exact zml; exact zkp; exact ⟨rfl, Mem.le_refl _, rfl⟩)
theorem chk_ok {c : Cell} (h : ok c) : chk c = 0 := if_pos h
theorem chk_no {c : Cell} (h : ¬ ok c) : chk c = 2 := if_neg h
set_option maxHeartbeats 1000000 in
theorem merge (a b : Cell) (ia : In a) (ib : In b) : Pu Try.prog 41 #[a.v, b.v] (.tuple #[(mrg a b).1.v, .int .i64 (mrg a b).2]) := Pu.of_le fun m => by
  have ca := check a ia.1
  have cb := check b ib.1
  have na := none_ a
  have nb := none_ b
  by_cases oa : ok a
  · rw [chk_ok oa] at ca
    by_cases ob : ok b
    · rw [chk_ok ob] at cb
      by_cases za : a = z
      · rw [decide_eq_true za] at na
        rw [show mrg a b = (b, 0) by rw [za]; exact mrg_zl ob]
        refine Ct.enterV (by rfl) Try.func41 rfl Try.ntmps41 rfl (fun w0 Rest => ?_)
        (repeat' (first | refine zss ?_ | refine zs0 ?_ | ((with_reducible first | apply AtM1.callp | apply AtQ.callp | apply At.callp); kernel_rfl; exact rfl; exact rfl; exact ca) | ((with_reducible first | apply AtM1.callp | apply AtQ.callp | apply At.callp); kernel_rfl; exact rfl; exact rfl; exact cb) | ((with_reducible first | apply AtM1.callp | apply AtQ.callp | apply At.callp); kernel_rfl; exact rfl; exact rfl; exact na) | ((with_reducible apply At.box (d := 2)); exact rfl; exact rfl; exact rfl; intro b2) | ((with_reducible apply At.box (d := 3)); exact rfl; exact rfl; exact rfl; intro b3) | ((with_reducible apply At.alloc (d := 4)); exact rfl; exact rfl; intro b4) | (refine zsp ?_ ?_ <;> (intro hc; (try simp only [zhcs, reduceCtorEq] at hc); (try (exfalso; first | omega | contradiction | omega | exact absurd rfl hc | exact absurd (by decide) hc))))))
        all_goals ((with_reducible apply At.retV (B := [])); exact rfl; (repeat' (first | exact RVs.nil | (with_reducible apply RVs.cons) | exact rv_tmp (by rfl) | exact rv_cellN (by rfl) (by repeat constructor) (by rfl) (by rfl) (by rfl) | exact rv_cell1 (by rfl) (by repeat constructor) (by rfl) (by rfl))); exact zml; exact zkp; exact ⟨rfl, Mem.le_refl _, rfl⟩)
      · rw [decide_eq_false za] at na
        by_cases zb : b = z
        · rw [decide_eq_true zb] at nb
          rw [show mrg a b = (a, 0) by rw [zb]; exact mrg_zr oa]
          refine Ct.enterV (by rfl) Try.func41 rfl Try.ntmps41 rfl (fun w0 Rest => ?_)
          (repeat' (first | refine zss ?_ | refine zs0 ?_ | ((with_reducible first | apply AtM1.callp | apply AtQ.callp | apply At.callp); kernel_rfl; exact rfl; exact rfl; exact ca) | ((with_reducible first | apply AtM1.callp | apply AtQ.callp | apply At.callp); kernel_rfl; exact rfl; exact rfl; exact cb) | ((with_reducible first | apply AtM1.callp | apply AtQ.callp | apply At.callp); kernel_rfl; exact rfl; exact rfl; exact na) | ((with_reducible first | apply AtM1.callp | apply AtQ.callp | apply At.callp); kernel_rfl; exact rfl; exact rfl; exact nb) | ((with_reducible apply At.box (d := 2)); exact rfl; exact rfl; exact rfl; intro b2) | ((with_reducible apply At.box (d := 3)); exact rfl; exact rfl; exact rfl; intro b3) | ((with_reducible apply At.alloc (d := 4)); exact rfl; exact rfl; intro b4) | (refine zsp ?_ ?_ <;> (intro hc; (try simp only [zhcs, reduceCtorEq] at hc); (try (exfalso; first | omega | contradiction | omega | exact absurd rfl hc | exact absurd (by decide) hc))))))
          all_goals ((with_reducible apply At.retV (B := [])); exact rfl; (repeat' (first | exact RVs.nil | (with_reducible apply RVs.cons) | exact rv_tmp (by rfl) | exact rv_cellN (by rfl) (by repeat constructor) (by rfl) (by rfl) (by rfl) | exact rv_cell1 (by rfl) (by repeat constructor) (by rfl) (by rfl))); exact zml; exact zkp; exact ⟨rfl, Mem.le_refl _, rfl⟩)
        · rw [decide_eq_false zb] at nb
          have kj := join_ a b (oa.resolve_left za) (ob.resolve_left zb) ia ib
          obtain ⟨r, er⟩ : ∃ r, mrg a b = r := ⟨_, rfl⟩
          rw [er] at kj ⊢
          refine Ct.enterV (by rfl) Try.func41 rfl Try.ntmps41 rfl (fun w0 Rest => ?_)
          (repeat' (first | refine zss ?_ | refine zs0 ?_ | ((with_reducible first | apply AtM1.callp | apply AtQ.callp | apply At.callp); kernel_rfl; exact rfl; exact rfl; exact ca) | ((with_reducible first | apply AtM1.callp | apply AtQ.callp | apply At.callp); kernel_rfl; exact rfl; exact rfl; exact cb) | ((with_reducible first | apply AtM1.callp | apply AtQ.callp | apply At.callp); kernel_rfl; exact rfl; exact rfl; exact na) | ((with_reducible first | apply AtM1.callp | apply AtQ.callp | apply At.callp); kernel_rfl; exact rfl; exact rfl; exact nb) | ((with_reducible first | apply AtM1.callp | apply AtQ.callp | apply At.callp); kernel_rfl; exact rfl; exact rfl; exact kj) | ((with_reducible apply At.box (d := 2)); exact rfl; exact rfl; exact rfl; intro b2) | ((with_reducible apply At.box (d := 3)); exact rfl; exact rfl; exact rfl; intro b3) | ((with_reducible apply At.alloc (d := 4)); exact rfl; exact rfl; intro b4) | (refine zsp ?_ ?_ <;> (intro hc; (try simp only [zhcs, reduceCtorEq] at hc); (try (exfalso; first | omega | contradiction | omega | exact absurd rfl hc | exact absurd (by decide) hc))))))
          all_goals ((with_reducible apply At.retV (B := [])); exact rfl; (repeat' (first | exact RVs.nil | (with_reducible apply RVs.cons) | exact rv_tmp (by rfl) | exact rv_cellN (by rfl) (by repeat constructor) (by rfl) (by rfl) (by rfl) | exact rv_cell1 (by rfl) (by repeat constructor) (by rfl) (by rfl))); exact zml; exact zkp; exact ⟨rfl, Mem.le_refl _, rfl⟩)
    · rw [chk_no ob] at cb
      rw [show mrg a b = (z, 2) from if_pos (fun h => ob h.2)]
      refine Ct.enterV (by rfl) Try.func41 rfl Try.ntmps41 rfl (fun w0 Rest => ?_)
      (repeat' (first | refine zss ?_ | refine zs0 ?_ | ((with_reducible first | apply AtM1.callp | apply AtQ.callp | apply At.callp); kernel_rfl; exact rfl; exact rfl; exact ca) | ((with_reducible first | apply AtM1.callp | apply AtQ.callp | apply At.callp); kernel_rfl; exact rfl; exact rfl; exact cb) | ((with_reducible apply At.box (d := 2)); exact rfl; exact rfl; exact rfl; intro b2) | ((with_reducible apply At.box (d := 3)); exact rfl; exact rfl; exact rfl; intro b3) | ((with_reducible apply At.alloc (d := 4)); exact rfl; exact rfl; intro b4) | (refine zsp ?_ ?_ <;> (intro hc; (try simp only [zhcs, reduceCtorEq] at hc); (try (exfalso; first | omega | contradiction | omega | exact absurd rfl hc | exact absurd (by decide) hc))))))
      all_goals ((with_reducible apply At.retV (B := [])); exact rfl; (repeat' (first | exact RVs.nil | (with_reducible apply RVs.cons) | exact rv_tmp (by rfl) | exact rv_cellN (by rfl) (by repeat constructor) (by rfl) (by rfl) (by rfl) | exact rv_cell1 (by rfl) (by repeat constructor) (by rfl) (by rfl))); exact zml; exact zkp; exact ⟨rfl, Mem.le_refl _, rfl⟩)
  · rw [chk_no oa] at ca
    rw [show mrg a b = (z, 2) from if_pos (fun h => oa h.1)]
    refine Ct.enterV (by rfl) Try.func41 rfl Try.ntmps41 rfl (fun w0 Rest => ?_)
    (repeat' (first | refine zss ?_ | refine zs0 ?_ | ((with_reducible first | apply AtM1.callp | apply AtQ.callp | apply At.callp); kernel_rfl; exact rfl; exact rfl; exact ca) | ((with_reducible first | apply AtM1.callp | apply AtQ.callp | apply At.callp); kernel_rfl; exact rfl; exact rfl; exact cb) | ((with_reducible apply At.box (d := 2)); exact rfl; exact rfl; exact rfl; intro b2) | ((with_reducible apply At.box (d := 3)); exact rfl; exact rfl; exact rfl; intro b3) | ((with_reducible apply At.alloc (d := 4)); exact rfl; exact rfl; intro b4) | (refine zsp ?_ ?_ <;> (intro hc; (try simp only [zhcs, reduceCtorEq] at hc); (try (exfalso; first | omega | contradiction | omega | exact absurd rfl hc | exact absurd (by decide) hc))))))
    all_goals ((with_reducible apply At.retV (B := [])); exact rfl; (repeat' (first | exact RVs.nil | (with_reducible apply RVs.cons) | exact rv_tmp (by rfl) | exact rv_cellN (by rfl) (by repeat constructor) (by rfl) (by rfl) (by rfl) | exact rv_cell1 (by rfl) (by repeat constructor) (by rfl) (by rfl))); exact zml; exact zkp; exact ⟨rfl, Mem.le_refl _, rfl⟩)
def addE (c : Cell) (e : Ev) : Cell × Int := if e.ok then mrg c (one e) else (z, 2)
theorem one_in {e : Ev} (h : e.V < 18446744073709551616) : In (one e) := ⟨by show (-9223372036854775808 ≤ (1 : Int) ∧ (1 : Int) ≤ 9223372036854775807); decide, h, h, by show 0 < _; decide⟩
end Cell
end Go.Proofs.Ytoplagjjojlceaa
/- Several cells, and events: what they come to, as the program tells it. -/
set_option linter.unusedSimpArgs false
set_option linter.unusedVariables false
set_option linter.unusedSectionVars false
set_option maxRecDepth 20000
set_option maxHeartbeats 4000000
namespace Go.Proofs.Ytoplagjjojlceaa
open Go Go.J
attribute [local irreducible] At AtQ AtM AtM1 PR Ct Pu Rd Res.blk Res.own Res.ex RVs RV
namespace Cell
open Ev Wide
instance : Inhabited Cell := ⟨z⟩
def allC : Cell → List Cell → Cell × Int
  | c, [] => (c, 0)
  | c, x :: l => if (mrg c x).2 ≠ 0 then (z, (mrg c x).2) else allC (mrg c x).1 l
theorem allC_step {l : List Cell} {i : Nat} (h : i < l.length) (c : Cell) : allC c (l.drop i) = if (mrg c (l[i]!)).2 ≠ 0 then (z, (mrg c (l[i]!)).2) else allC (mrg c (l[i]!)).1 (l.drop (i + 1)) := by
  rw [List.drop_eq_getElem_cons h, getElem!_pos l i h]; rfl
theorem zv : Value.agg #[.int .i64 0, .int .i64 0, .int .u64 0, .int .i64 0, .bool false, .int .i64 0, .int .u64 0, .int .i64 0, .bool false, .int .u64 0, .int .u64 0, .int .i64 0, .int .i64 0, .int .i64 0] = z.v := rfl
structure AS where
  (i : Nat) (c : Cell)
theorem fold_take {l : List Ev} {i : Nat} (h : i < l.length) (c : Cell) : (l.take (i + 1)).foldl add c = add ((l.take i).foldl add c) (l[i]!) := by
  have e : l.take (i + 1) = l.take i ++ [l[i]!] := by rw [List.take_add_one, getElem!_pos l i h]; simp [h]
  rw [e, List.foldl_append]; rfl
/-- what so many of the events come to -/
structure Upto (l : List Ev) (i : Nat) (c : Cell) : Prop where
  le : i ≤ l.length
  eq : c = (l.take i).foldl add z
  st : i = 0 ∨ (Full c ∧ c.L = l[i - 1]!)
  asc : ∀ j, j + 1 < i → (l[j]!).T < (l[j + 1]!).T
  inn : In c
theorem Upto.zero (l : List Ev) : Upto l 0 z := ⟨Nat.zero_le _, rfl, .inl rfl, fun j h => absurd h (Nat.not_lt_zero _), z_in⟩
theorem Upto.next {l : List Ev} {i : Nat} {c : Cell} (h : Upto l i c) (hi : i < l.length) (ok : Mrg.aok l) (hV : ∀ e ∈ l, e.V < 18446744073709551616) (ha : i = 0 ∨ (l[i - 1]!).T < (l[i]!).T) :
    Upto l (i + 1) (add c (l[i]!)) ∧ mrg c (one (l[i]!)) = (add c (l[i]!), 0) := by
  have hm : l[i]! ∈ l := by rw [getElem!_pos l i hi]; exact List.getElem_mem hi
  have hc : c = z ∨ (Full c ∧ c.L.T < (l[i]!).T) := by
    rcases h.st with h0 | ⟨h1, h2⟩
    · subst h0; exact .inl h.eq
    · rcases ha with h0 | ha
      · subst h0; exact .inl h.eq
      · exact .inr ⟨h1, by rw [h2]; exact ha⟩
  obtain ⟨f1, f2, f3⟩ := add_full hc (ok i hi) (hV _ hm)
  refine ⟨⟨hi, by rw [fold_take hi, ← h.eq], .inr ⟨f1, f2⟩, fun j hj => ?_, f1.in ?_ (by rw [f2]; exact hV _ hm)⟩, f3⟩
  · rcases Nat.lt_or_ge (j + 1) i with g | g
    · exact h.asc j g
    · have e : j + 1 = i := by omega
      rcases ha with h0 | ha
      · omega
      · rw [← e] at ha; exact ha
  · unfold add
    split
    · exact hV _ hm
    · exact h.inn.2.1
theorem Upto.bad {l : List Ev} {i : Nat} {c : Cell} (h : Upto l i c) (hi : i < l.length) (ok : Mrg.aok l) (ha : ¬ (i = 0 ∨ (l[i - 1]!).T < (l[i]!).T)) : mrg c (one (l[i]!)) = (z, 9) ∧ ofL l = (z, 9) := by
  have h0 : i ≠ 0 := fun h => ha (.inl h)
  have h1 : ¬ (l[i - 1]!).T < (l[i]!).T := fun h => ha (.inr h)
  obtain ⟨g1, g2⟩ := h.st.resolve_left h0
  have fo := one_full (ok i hi)
  constructor
  · unfold mrg
    rw [if_neg (not_not_intro ⟨.inr g1, .inr fo⟩), if_neg g1.ne, if_neg fo.ne, if_pos]
    show (l[i]!).T ≤ c.L.T
    rw [g2]; omega
  · have hn : ¬ Mrg.asc l := fun hh => h1 (by
      have := hh (i - 1) (by omega)
      rwa [show i - 1 + 1 = i by omega] at this)
    have e : Mrg.chk l = 9 := by unfold Mrg.chk; rw [if_pos ok, if_neg hn]
    unfold ofL
    rw [e]; rfl
theorem Upto.done {l : List Ev} {c : Cell} (h : Upto l l.length c) (ok : Mrg.aok l) : ofL l = (c, 0) := by
  have ha : Mrg.asc l := fun j hj => h.asc j (by omega)
  have e : Mrg.chk l = 0 := by unfold Mrg.chk; rw [if_pos ok, if_pos ha]
  unfold ofL
  rw [e, if_neg (fun h => h rfl), h.eq, List.take_length]
theorem of_bad {l : List Ev} {i : Nat} (hi : i < l.length) (h : ¬ (l[i]!).ok) : ofL l = (z, 2) := by
  have e : Mrg.chk l = 2 := if_neg (fun ok => h (ok i hi))
  unfold ofL
  rw [e]; rfl
set_option maxHeartbeats 1000000 in
theorem of_ {m : Mem} (p : Option Addr) (c : Nat) (l : List Ev) (hl : l.length ≤ 1000000) (hV : ∀ e ∈ l, e.V < 18446744073709551616) (sl0 : Sl m Ev.cells 4 p c l) :
    Ct Try.prog 31 #[.slice p l.length c] m [] (fun v m' B => v = .tuple #[(ofL l).1.v, .int .i64 (ofL l).2] ∧ m = m' ∧ B = []) := by
  refine Ct.enterV (by rfl) Try.func31 rfl Try.ntmps31 rfl (fun w0 Rest => ?_)
  (repeat' (first | refine zss ?_ | refine zsM ?_ | ((with_reducible apply At.alloc (d := 2)); exact rfl; exact rfl; intro b2) | ((with_reducible apply At.alloc (d := 5)); exact rfl; exact rfl; intro b5) | ((with_reducible apply At.alloc (d := 7)); exact rfl; exact rfl; intro b7) | ((with_reducible apply At.alloc (d := 9)); exact rfl; exact rfl; intro b9) | ((with_reducible apply At.alloc (d := 10)); exact rfl; exact rfl; intro b10) | (refine zsp ?_ ?_ <;> (intro hc; (try simp only [zhcs, reduceCtorEq] at hc); (try (exfalso; first | contradiction | omega | exact absurd rfl hc | exact absurd (by decide) hc))))))
  change At _ w0 _ m (Res.blk b2 47 (cells z) :: Rest) _
  (refine At.loopk (σ := Nat) [0, 2, 12, 13] (fun s F0 => (14, .int .i64 (s : Int)) :: F0) (fun s => m) (fun s => .blk b2 47 (cells z) :: Rest) (fun s => s ≤ l.length ∧ ∀ i, i < s → (l[i]!).ok) (fun s => l.length - s) 0 (by rfl) ?_ zsubs zml zente ?_)
  · exact ⟨Nat.zero_le _, fun i h => absurd h (Nat.not_lt_zero i)⟩
  rintro s ⟨hs, hn⟩
  by_cases h : s < l.length
  · have hk := Ev.check (l[s]!)
    by_cases ho : (l[s]!).ok
    · rw [show (l[s]!).chk = 0 from if_pos ho] at hk
      have hnn : ∀ i, i < s + 1 → (l[i]!).ok := fun i hi => by
        by_cases e : i = s
        · subst e; exact ho
        · exact hn i (by omega)
      (repeat' (first | refine zss ?_ | refine zsM ?_ | ((with_reducible first | apply AtM1.callp | apply AtQ.callp | apply At.callp); kernel_rfl; exact rfl; exact rfl; exact hk) | ((with_reducible apply At.alloc (d := 2)); exact rfl; exact rfl; intro b2) | ((with_reducible apply At.alloc (d := 5)); exact rfl; exact rfl; intro b5) | ((with_reducible apply At.alloc (d := 7)); exact rfl; exact rfl; intro b7) | ((with_reducible apply At.alloc (d := 9)); exact rfl; exact rfl; intro b9) | ((with_reducible apply At.alloc (d := 10)); exact rfl; exact rfl; intro b10) | (refine zsp ?_ ?_ <;> (intro hc; (try simp only [zhcs, reduceCtorEq] at hc); (try (exfalso; first | omega | contradiction | omega | exact absurd rfl hc | exact absurd (by decide) hc))))))
      all_goals ((with_reducible refine At.reachk ((s + 1)) ?_ ?_ ?_ ?_); exact zsubs; exact zml; exact zente; exact ⟨⟨h, hnn⟩, by omega⟩)
    · rw [show (l[s]!).chk = 2 from if_neg ho] at hk
      rw [of_bad h ho]
      (repeat' (first | refine zss ?_ | refine zsM ?_ | ((with_reducible first | apply AtM1.callp | apply AtQ.callp | apply At.callp); kernel_rfl; exact rfl; exact rfl; exact hk) | ((with_reducible apply At.alloc (d := 2)); exact rfl; exact rfl; intro b2) | ((with_reducible apply At.alloc (d := 5)); exact rfl; exact rfl; intro b5) | ((with_reducible apply At.alloc (d := 7)); exact rfl; exact rfl; intro b7) | ((with_reducible apply At.alloc (d := 9)); exact rfl; exact rfl; intro b9) | ((with_reducible apply At.alloc (d := 10)); exact rfl; exact rfl; intro b10) | (refine zsp ?_ ?_ <;> (intro hc; (try simp only [zhcs, reduceCtorEq] at hc); (try (exfalso; first | omega | contradiction | omega | exact absurd rfl hc | exact absurd (by decide) hc))))))
      all_goals ((with_reducible apply At.retV (B := [])); exact rfl; (repeat' (first | exact RVs.nil | (with_reducible apply RVs.cons) | exact rv_tmp (by rfl) | exact rv_cellN (by rfl) (by repeat constructor) (by rfl) (by rfl) (by rfl) | exact rv_cell1 (by rfl) (by repeat constructor) (by rfl) (by rfl))); exact zml; exact zkp; exact ⟨rfl, rfl, rfl⟩)
  · have ok : Mrg.aok l := fun i hi => hn i (by omega)
    (repeat' (first | refine zss ?_ | refine zsM ?_ | ((with_reducible apply At.alloc (d := 2)); exact rfl; exact rfl; intro b2) | ((with_reducible apply At.alloc (d := 5)); exact rfl; exact rfl; intro b5) | ((with_reducible apply At.alloc (d := 7)); exact rfl; exact rfl; intro b7) | ((with_reducible apply At.alloc (d := 9)); exact rfl; exact rfl; intro b9) | ((with_reducible apply At.alloc (d := 10)); exact rfl; exact rfl; intro b10) | (refine zsp ?_ ?_ <;> (intro hc; (try simp only [zhcs, reduceCtorEq] at hc); (try (exfalso; first | omega | contradiction | omega | exact absurd rfl hc | exact absurd (by decide) hc))))))
    change At _ w0 _ m (Res.blk b7 47 (cells z) :: Res.blk b2 47 (cells z) :: Rest) _
    (refine At.loopk (σ := AS) [2, 7, 25, 26] (fun s F0 => (27, .int .i64 (s.i : Int)) :: F0) (fun s => m) (fun s => .blk b7 47 (cells s.c) :: .blk b2 47 (cells z) :: Rest) (fun s => Upto l s.i s.c) (fun s => l.length - s.i) ⟨0, z⟩ (by rfl) ?_ zsubs zml zente ?_)
    · exact Upto.zero l
    rintro ⟨i, x⟩ hu
    dsimp only at hu ⊢
    have hle := hu.le
    by_cases hi : i < l.length
    · have hm : l[i]! ∈ l := by rw [getElem!_pos l i hi]; exact List.getElem_mem hi
      have km := merge x (one (l[i]!)) hu.inn (one_in (hV _ hm))
      have ko := one_ (l[i]!)
      by_cases ha : i = 0 ∨ (l[i - 1]!).T < (l[i]!).T
      · obtain ⟨u1, u2⟩ := hu.next hi ok hV ha
        rw [u2] at km
        obtain ⟨y, ey⟩ : ∃ y, add x (l[i]!) = y := ⟨_, rfl⟩
        rw [ey] at km u1
        (repeat' (first | ((with_reducible apply At.mixed (id := 12) 10 (.q 0 (.q 1 (.q 2 (.q 3 (.q 4 (.q 5 (.q 6 (.l 7 (.x 8 (.q 9 .done))))))))))); exact rfl; kernel_rfl; kernel_rfl; kernel_rfl) | refine zsx ?_ | refine zss ?_ | ((with_reducible apply AtM.bo); exact rfl; exact rfl; exact rfl) | refine zsM ?_ | refine zxM ?_ | ((with_reducible first | apply AtM1.callp | apply AtQ.callp | apply At.callp); kernel_rfl; exact rfl; exact rfl; exact ko) | ((with_reducible first | apply AtM1.callp | apply AtQ.callp | apply At.callp); kernel_rfl; exact rfl; exact rfl; exact km) | ((with_reducible apply At.alloc (d := 2)); exact rfl; exact rfl; intro b2) | ((with_reducible apply At.alloc (d := 5)); exact rfl; exact rfl; intro b5) | ((with_reducible apply At.alloc (d := 7)); exact rfl; exact rfl; intro b7) | ((with_reducible apply At.alloc (d := 9)); exact rfl; exact rfl; intro b9) | ((with_reducible apply At.alloc (d := 10)); exact rfl; exact rfl; intro b10) | (refine zsp ?_ ?_ <;> (intro hc; (try simp only [zhcs, reduceCtorEq] at hc); (try (exfalso; first | omega | contradiction | omega | exact absurd rfl hc | exact absurd (by decide) hc))))))
        all_goals ((with_reducible refine At.reachk (⟨i + 1, y⟩) ?_ ?_ ?_ ?_); exact zsubs; exact zml; exact zente; exact ⟨u1, by show l.length - (i + 1) < l.length - i; omega⟩)
      · obtain ⟨u1, u2⟩ := hu.bad hi ok ha
        rw [u1] at km
        rw [u2]
        (repeat' (first | ((with_reducible apply At.mixed (id := 12) 10 (.q 0 (.q 1 (.q 2 (.q 3 (.q 4 (.q 5 (.q 6 (.l 7 (.x 8 (.q 9 .done))))))))))); exact rfl; kernel_rfl; kernel_rfl; kernel_rfl) | refine zsx ?_ | refine zss ?_ | ((with_reducible apply AtM.bo); exact rfl; exact rfl; exact rfl) | refine zsM ?_ | refine zxM ?_ | ((with_reducible first | apply AtM1.callp | apply AtQ.callp | apply At.callp); kernel_rfl; exact rfl; exact rfl; exact ko) | ((with_reducible first | apply AtM1.callp | apply AtQ.callp | apply At.callp); kernel_rfl; exact rfl; exact rfl; exact km) | ((with_reducible apply At.alloc (d := 2)); exact rfl; exact rfl; intro b2) | ((with_reducible apply At.alloc (d := 5)); exact rfl; exact rfl; intro b5) | ((with_reducible apply At.alloc (d := 7)); exact rfl; exact rfl; intro b7) | ((with_reducible apply At.alloc (d := 9)); exact rfl; exact rfl; intro b9) | ((with_reducible apply At.alloc (d := 10)); exact rfl; exact rfl; intro b10) | (refine zsp ?_ ?_ <;> (intro hc; (try simp only [zhcs, reduceCtorEq] at hc); (try (exfalso; first | omega | contradiction | omega | exact absurd rfl hc | exact absurd (by decide) hc))))))
        all_goals ((with_reducible apply At.retV (B := [])); exact rfl; (repeat' (first | exact RVs.nil | (with_reducible apply RVs.cons) | exact rv_tmp (by rfl) | exact rv_cellN (by rfl) (by repeat constructor) (by rfl) (by rfl) (by rfl) | exact rv_cell1 (by rfl) (by repeat constructor) (by rfl) (by rfl))); exact zml; exact zkp; exact ⟨rfl, rfl, rfl⟩)
    · have ei : i = l.length := by omega
      subst ei
      rw [hu.done ok]
      (repeat' (first | refine zss ?_ | refine zsM ?_ | ((with_reducible apply At.alloc (d := 2)); exact rfl; exact rfl; intro b2) | ((with_reducible apply At.alloc (d := 5)); exact rfl; exact rfl; intro b5) | ((with_reducible apply At.alloc (d := 7)); exact rfl; exact rfl; intro b7) | ((with_reducible apply At.alloc (d := 9)); exact rfl; exact rfl; intro b9) | ((with_reducible apply At.alloc (d := 10)); exact rfl; exact rfl; intro b10) | (refine zsp ?_ ?_ <;> (intro hc; (try simp only [zhcs, reduceCtorEq] at hc); (try (exfalso; first | omega | contradiction | omega | exact absurd rfl hc | exact absurd (by decide) hc))))))
      all_goals ((with_reducible apply At.retV (B := [])); exact rfl; (repeat' (first | exact RVs.nil | (with_reducible apply RVs.cons) | exact rv_tmp (by rfl) | exact rv_cellN (by rfl) (by repeat constructor) (by rfl) (by rfl) (by rfl) | exact rv_cell1 (by rfl) (by repeat constructor) (by rfl) (by rfl))); exact zml; exact zkp; exact ⟨rfl, rfl, rfl⟩)
end Cell
end Go.Proofs.Ytoplagjjojlceaa
/- A book of series: Events, Last, Cell, All. -/
set_option linter.unusedSimpArgs false
set_option linter.unusedVariables false
set_option linter.unusedSectionVars false
set_option maxRecDepth 20000
set_option maxHeartbeats 4000000
namespace Go.Proofs.Ytoplagjjojlceaa
open Go Go.J
attribute [local irreducible] At AtQ AtM AtM1 PR Ct Pu Rd Res.blk Res.own Res.ex RVs RV Res.map
namespace Fl
attribute [local irreducible] sr srs
open Ev
def idx (S : List Ser) (l : List Lab) : Option Nat := S.findIdx? fun x => decide (x.l = l)
theorem at_idx (Z : Zt) (l : List Lab) : at_ Z l = idx (Z.map (·.2)) l := by unfold at_ idx; rw [List.findIdx?_map]; rfl
def evs (S : List Ser) (l : List Lab) : List Ev := match idx S l with
  | none => []
  | some i => S[i]!.e
def lst (S : List Ser) (l : List Lab) : Int := match idx S l with
  | none => -1
  | some i => S[i]!.e[S[i]!.e.length - 1]!.T
/-- what holds of a book's series -/
structure Inv (S : List Ser) : Prop where
  r : ∀ x ∈ S, Lb.right x.l
  ne : ∀ x ∈ S, x.e ≠ []
  ok : ∀ x ∈ S, ∀ e ∈ x.e, e.ok ∧ e.V < 18446744073709551616
  nd : S.Pairwise fun a b => a.l ≠ b.l
  len : S.length ≤ 1000
  le : ∀ x ∈ S, x.e.length ≤ 1000
structure BS where
  (po : Option Addr) (co mb : Nat) (Z : Zt)
def bkR (b : Nat) (s : BS) : List Res := [bh b s.po (nms s.Z).length s.co s.mb, owS s.po s.co (nms s.Z), .map s.mb (dm s.Z), srs s.Z]
/-- a book of these series -/
def bk (b : Nat) (S : List Ser) : Res := .ex (fun s : BS => s.Z.map (·.2) = S) (bkR b)
theorem bk_close (b : Nat) (s : BS) (S : List Ser) (h : s.Z.map (·.2) = S) (R : List Res) : Ent (bkR b s ++ R) (bk b S :: R) := Ent.closex (I := fun s : BS => s.Z.map (·.2) = S) (A := bkR b) s h
theorem Ct.pre {P : Program} {f : FuncId} {args : Array Value} {m : Mem} {A A' : List Res} {R : Value → Mem → List Res → Prop} (he : ∀ Rest, Ent (A ++ Rest) (A' ++ Rest)) (h : Ct P f args m A' R) : Ct P f args m A R := by
  unfold Ct at h ⊢
  exact fun w0 Rest w hw => h w0 Rest w (hw.ent (he Rest))
def opn (b : Nat) (s : BS) (i : Nat) (x : Ser) (t : SS) : List Res := [.blk s.Z[i]!.1 71 [.slice t.lp x.l.length t.lc, .slice t.ep x.e.length t.ec], owL t.lp t.lc x.l, ow t.ep t.ec x.e, bh b s.po (nms s.Z).length s.co s.mb, owS s.po s.co (nms s.Z), .map s.mb (dm s.Z), srs (s.Z.eraseIdx i)]
theorem opn_out (b : Nat) (s : BS) (i : Nat) (hi : i < s.Z.length) (x : Ser) (hx : x.l = s.Z[i]!.2.l) (t : SS) (R : List Res) : Ent (opn b s i x t ++ R) (bkR b ⟨s.po, s.co, s.mb, s.Z.set i (s.Z[i]!.1, x)⟩ ++ R) := by
  have hn : nms (s.Z.set i (s.Z[i]!.1, x)) = nms s.Z := by
    unfold nms
    rw [List.map_set, hx]
    conv => rhs; rw [← List.set_getElem_self (i := i) (show i < (s.Z.map fun z => Lb.bytesL z.2.l).length from by rw [List.length_map]; exact hi)]
    rw [List.getElem_map, getElem!_pos s.Z i hi]
  have hd : dm (s.Z.set i (s.Z[i]!.1, x)) = dm s.Z := by
    unfold dm
    rw [List.map_set, hx]
    conv => rhs; rw [← List.set_getElem_self (i := i) (show i < (s.Z.map fun z => (Lb.bytesL z.2.l, pt z.1)).length from by rw [List.length_map]; exact hi)]
    rw [List.getElem_map, getElem!_pos s.Z i hi]
  unfold opn bkR
  rw [hn, hd]
  refine Ent.trans (sr_close s.Z[i]!.1 x t _) ?_
  refine Ent.trans (B := sr s.Z[i]!.1 x :: srs (s.Z.eraseIdx i) :: bh b s.po (nms s.Z).length s.co s.mb :: owS s.po s.co (nms s.Z) :: .map s.mb (dm s.Z) :: R) (Ent.cons _ (Ent.of_pick (.there (.there (.there .here))))) ?_
  refine Ent.trans (srs_put s.Z i hi x _) ?_
  exact Ent.to_pick (R := srs (s.Z.set i (s.Z[i]!.1, x))) (.there (.there (.there .here)))
theorem bk.none {f : FuncId} {args : Array Value} {m : Mem} {b : Nat} {S : List Ser} {l : List Lab} {R : Value → Mem → List Res → Prop} (hn : idx S l = none)
    (h : ∀ s : BS, s.Z.map (·.2) = S → at_ s.Z l = none → Ct Try.prog f args m (bkR b s) R) : Ct Try.prog f args m [bk b S] R :=
  Ct.openx fun s hs => by rw [List.append_nil]; exact h s hs (by rw [at_idx, hs, hn])
theorem bk.some {f : FuncId} {args : Array Value} {m : Mem} {b : Nat} {S : List Ser} {l : List Lab} {i : Nat} {R : Value → Mem → List Res → Prop} (hn : idx S l = some i)
    (h : ∀ (s : BS) (t : SS), s.Z.map (·.2) = S → at_ s.Z l = some i → i < s.Z.length → s.Z[i]!.2 = S[i]! → Ct Try.prog f args m (opn b s i S[i]! t) R) : Ct Try.prog f args m [bk b S] R :=
  Ct.openx fun s hs => by
    rw [List.append_nil]
    have ha : at_ s.Z l = .some i := by rw [at_idx, hs, hn]
    obtain ⟨hi, _, _⟩ := at_some ha
    have e : s.Z[i]!.2 = S[i]! := by
      rw [← hs, getElem!_pos s.Z i hi, getElem!_pos _ i (by rw [List.length_map]; exact hi), List.getElem_map]
    refine Ct.pre (A' := sr s.Z[i]!.1 s.Z[i]!.2 :: bh b s.po (nms s.Z).length s.co s.mb :: owS s.po s.co (nms s.Z) :: .map s.mb (dm s.Z) :: [srs (s.Z.eraseIdx i)]) (fun Rest => ?_) ?_
    · unfold bkR
      refine Ent.trans (Ent.of_pick (R := srs s.Z) (.there (.there (.there .here)))) ?_
      refine Ent.trans (srs_take s.Z i hi _) ?_
      exact Ent.cons _ (Ent.to_pick (R := srs (s.Z.eraseIdx i)) (.there (.there (.there .here))))
    · rw [e]
      unfold sr
      exact Ct.openx fun t _ => h s t hs ha hi e
theorem node_none {Z : Zt} {l : List Lab} (h : at_ Z l = none) : nodeV Z l = .pointer none := by unfold nodeV; rw [h]
theorem node_some {Z : Zt} {l : List Lab} {i : Nat} (h : at_ Z l = some i) : nodeV Z l = pt Z[i]!.1 := by unfold nodeV; rw [h]
theorem inv_rgt {S : List Ser} (hI : Inv S) {Z : Zt} (h : Z.map (·.2) = S) : Rgt Z := fun z hz => hI.r _ (by rw [← h]; exact List.mem_map.2 ⟨z, hz, rfl⟩)
theorem set_same {Z : Zt} {i : Nat} (hi : i < Z.length) {S : List Ser} (h : Z[i]!.2 = S[i]!) : Z.set i (Z[i]!.1, S[i]!) = Z := by
  rw [← h]
  show Z.set i Z[i]! = Z
  rw [getElem!_pos Z i hi, List.set_getElem_self]
theorem own_none {n : Nat} {w0 : World} {F : Fr} {m : Mem} {Rs Rs' : List Res} {K : Act → World → Prop} {α : Type} [Inhabited α] {f : α → List Value} {sz : Nat} {E : TypeId} {c : Nat} {l : List α} (hf : Fl f sz) (hp : Pick Rs (.own f sz E none c l) Rs') (h : c = 0 → l = [] → At n w0 F m Rs K) : At n w0 F m Rs K :=
  At.own_row hp (fun _ => h) (fun _ _ _ e => by cases e) hf
theorem cloneE {m : Mem} (p : Option Addr) (c : Nat) (l : List Ev) (hl : l.length ≤ 1000000) :
    Ct Try.prog 35 #[.slice p l.length c] m [ow p c l] (fun v m' B => m = m' ∧ ∃ p2 c2, v = .slice p2 l.length c2 ∧ B = [ow p2 c2 l, ow p c l]) := by
  cases p with
  | none =>
    refine Ct.enterV (by rfl) Try.func35 rfl Try.ntmps35 rfl (fun w0 Rest => ?_)
    refine own_none inferInstance .here fun _ h0 => ?_
    subst h0
    (repeat' (first | refine zss ?_ | ((first | (with_reducible first | apply At.val | apply AtQ.val)); (exact pr_sleql (by rfl) (by rfl) (by rfl)); exact rfl) | refine zsM ?_ | (refine zsp ?_ ?_ <;> (intro hc; (try simp only [zhcs, reduceCtorEq] at hc); (try (exfalso; first | contradiction | omega | exact absurd rfl hc | exact absurd (by decide) hc))))))
    all_goals refine At.own_nil cells 4 32 ?_
    all_goals ((with_reducible apply At.retB1 (B := [ow _ _ _, ow _ _ _])); exact rfl; exact rfl; exact zml; exact zkp; exact ⟨rfl, _, _, rfl, rfl⟩)
  | some a =>
    refine Ct.enterV (by rfl) Try.func35 rfl Try.ntmps35 rfl (fun w0 Rest => ?_)
    (repeat' (first | refine zss ?_ | ((first | (with_reducible first | apply At.val | apply AtQ.val)); (exact pr_sleql (by rfl) (by rfl) (by rfl)); exact rfl) | refine zsO ?_ | ((with_reducible apply At.lit cells ([] : List Ev)); exact inferInstance; (iterate 7 exact rfl); intro _) | ((with_reducible apply At.apW (f := cells)); exact rfl; exact rfl; exact (by repeat constructor); exact inferInstance; exact zrdl; (iterate 4 exact rfl); exact zom; exact rfl; intro _ _) | (refine zsp ?_ ?_ <;> (intro hc; (try simp only [zhcs, reduceCtorEq] at hc); (try (exfalso; first | contradiction | omega | exact absurd rfl hc | exact absurd (by decide) hc))))))
    all_goals ((with_reducible apply At.retB1 (B := [ow _ _ _, ow _ _ _])); exact rfl; exact rfl; exact zml; exact zkp; exact ⟨rfl, _, _, rfl, rfl⟩)
theorem events {m : Mem} (b : Nat) (S : List Ser) (hI : Inv S) (p : Option Addr) (c : Nat) (l : List Lab) (hm : Lb.Mid l) (sl0 : Sl m Lb.cells 2 p c l) :
    Ct Try.prog 18 #[pt b, .slice p l.length c] m [bk b S] (fun v m' B => m = m' ∧ ∃ p2 c2, v = .slice p2 (evs S l).length c2 ∧ B = [ow p2 c2 (evs S l), bk b S]) := by
  unfold evs
  cases hx : idx S l with
  | none =>
    refine bk.none hx fun ⟨po, co, mb, Z⟩ hZ ha => ?_
    dsimp only at hZ ha
    have hf := fun (m' : Mem) (hm' : m.le m') => find (m := m') b p c l hm (sl0.mono hm') po (nms Z).length co mb Z (inv_rgt hI hZ)
    rw [node_none ha] at hf
    refine Ct.conv (R := fun v m' B => m = m' ∧ v = .slice none 0 0 ∧ B = bkR b ⟨po, co, mb, Z⟩) ?_ fun v m' B _ ⟨h1, h2, h3⟩ => ⟨[ow none 0 [], bk b S], ⟨h1, none, 0, h2, rfl⟩, fun Rest => by
      subst h3
      exact (bk_close b ⟨po, co, mb, Z⟩ S hZ Rest).trans (own_nil_ent cells 4 32 _)⟩
    unfold bkR
    refine Ct.enterV (by rfl) Try.func18 rfl Try.ntmps18 rfl (fun w0 Rest => ?_)
    (repeat' (first | refine zss ?_ | refine zs0 ?_ | ((with_reducible first | apply AtM1.cr | apply AtQ.cr | apply At.cr); exact rfl; exact rfl; exact fun _ hmm => hf _ hmm; exact ztk; kernel_rfl) | (refine zsp ?_ ?_ <;> (intro hc; (try simp only [zhcs, reduceCtorEq] at hc); (try (exfalso; first | contradiction | omega | exact absurd rfl hc | exact absurd (by decide) hc))))))
    all_goals ((with_reducible apply At.retB1 (B := [bh _ _ _ _ _, owS _ _ _, .map _ _, srs _])); exact rfl; exact rfl; exact zml; exact zkp; exact ⟨rfl, rfl, rfl⟩)
  | some i =>
    refine bk.some hx fun ⟨po, co, mb, Z⟩ ⟨lp, lc, ep, ec⟩ hZ ha hi he => ?_
    dsimp only at hZ ha hi he
    have hf := fun (m' : Mem) (hm' : m.le m') => find (m := m') b p c l hm (sl0.mono hm') po (nms Z).length co mb Z (inv_rgt hI hZ)
    rw [node_some ha] at hf
    dsimp only
    have hin : S[i]! ∈ S := Ls.mem! (by rw [← hZ, List.length_map]; exact hi)
    have hle := hI.le _ hin
    have hc1 := fun m => cloneE (m := m) ep ec S[i]!.e (by omega)
    refine Ct.conv (R := fun v m' B => m = m' ∧ ∃ p2 c2, v = .slice p2 S[i]!.e.length c2 ∧ B = ow p2 c2 S[i]!.e :: opn b ⟨po, co, mb, Z⟩ i S[i]! ⟨lp, lc, ep, ec⟩) ?_ fun v m' B _ ⟨h1, p2, c2, h2, h3⟩ => ⟨[ow p2 c2 S[i]!.e, bk b S], ⟨h1, p2, c2, h2, rfl⟩, fun Rest => by
      subst h3
      refine Ent.cons _ ((opn_out b ⟨po, co, mb, Z⟩ i hi S[i]! (by rw [← he]) ⟨lp, lc, ep, ec⟩ Rest).trans ?_)
      dsimp only
      rw [set_same hi he]
      exact bk_close b ⟨po, co, mb, Z⟩ S hZ Rest⟩
    unfold opn
    generalize S[i]! = x at *
    refine Ct.enterV (by rfl) Try.func18 rfl Try.ntmps18 rfl (fun w0 Rest => ?_)
    (repeat' (first | refine zss ?_ | refine zsO ?_ | ((with_reducible first | apply AtM1.cr | apply AtQ.cr | apply At.cr); exact rfl; exact rfl; exact fun _ hmm => hf _ hmm; exact ztk; kernel_rfl) | ((with_reducible first | apply At.c1 | apply At.c0); exact rfl; exact rfl; exact hc1 _; exact ztk; kernel_rfl; rintro v' m' B' hm' ⟨rfl, p2, c2, rfl, rfl⟩; (try replace sl0 := sl0.mono hm'); (try (have hq0 : hm' = Mem.le_refl _ := rfl; clear hq0 hm'))) | (refine zsp ?_ ?_ <;> (intro hc; (try simp only [zhcs, reduceCtorEq] at hc); (try (exfalso; first | contradiction | omega | exact absurd rfl hc | exact absurd (by decide) hc))))))
    all_goals ((with_reducible apply At.retB1 (B := [ow _ _ _, .blk _ _ _, owL _ _ _, ow ep ec _, bh _ _ _ _ _, owS _ _ _, .map _ _, srs _])); exact rfl; exact rfl; exact zml; exact zkp; exact ⟨rfl, _, _, rfl, rfl⟩)
end Fl
end Go.Proofs.Ytoplagjjojlceaa
/- A book of series: Last, Cell, All. -/
set_option linter.unusedSimpArgs false
set_option linter.unusedVariables false
set_option linter.unusedSectionVars false
set_option maxRecDepth 20000
set_option maxHeartbeats 4000000
namespace Go.Proofs.Ytoplagjjojlceaa
open Go Go.J
attribute [local irreducible] At AtQ AtM AtM1 PR Ct Pu Rd Res.blk Res.own Res.ex RVs RV Res.map
namespace Fl
attribute [local irreducible] sr srs
open Ev
theorem last {m : Mem} (b : Nat) (S : List Ser) (hI : Inv S) (p : Option Addr) (c : Nat) (l : List Lab) (hm : Lb.Mid l) (sl0 : Sl m Lb.cells 2 p c l) :
    Rd Try.prog 15 #[pt b, .slice p l.length c] m [bk b S] (.int .i64 (lst S l)) := by
  unfold Rd
  unfold lst
  cases hx : idx S l with
  | none =>
    refine bk.none hx fun ⟨po, co, mb, Z⟩ hZ ha => ?_
    dsimp only at hZ ha
    have hf := fun (m' : Mem) (hm' : m.le m') => find (m := m') b p c l hm (sl0.mono hm') po (nms Z).length co mb Z (inv_rgt hI hZ)
    rw [node_none ha] at hf
    refine Ct.conv (R := fun v m' B => v = .int .i64 (-1) ∧ m = m' ∧ B = bkR b ⟨po, co, mb, Z⟩) ?_ fun v m' B _ ⟨h1, h2, h3⟩ => ⟨[bk b S], ⟨h1, h2.symm, rfl⟩, fun Rest => by
      subst h3
      exact bk_close b ⟨po, co, mb, Z⟩ S hZ Rest⟩
    unfold bkR
    refine Ct.enterV (by rfl) Try.func15 rfl Try.ntmps15 rfl (fun w0 Rest => ?_)
    (repeat' (first | refine zss ?_ | refine zs0 ?_ | ((with_reducible first | apply AtM1.cr | apply AtQ.cr | apply At.cr); exact rfl; exact rfl; exact fun _ hmm => hf _ hmm; exact ztk; kernel_rfl) | (refine zsp ?_ ?_ <;> (intro hc; (try simp only [zhcs, reduceCtorEq] at hc); (try (exfalso; first | contradiction | omega | exact absurd rfl hc | exact absurd (by decide) hc))))))
    all_goals ((with_reducible apply At.retB1 (B := [bh _ _ _ _ _, owS _ _ _, .map _ _, srs _])); exact rfl; exact rfl; exact zml; exact zkp; exact ⟨rfl, rfl, rfl⟩)
  | some i =>
    refine bk.some hx fun ⟨po, co, mb, Z⟩ ⟨lp, lc, ep, ec⟩ hZ ha hi he => ?_
    dsimp only at hZ ha hi he
    have hf := fun (m' : Mem) (hm' : m.le m') => find (m := m') b p c l hm (sl0.mono hm') po (nms Z).length co mb Z (inv_rgt hI hZ)
    rw [node_some ha] at hf
    dsimp only
    have hin : S[i]! ∈ S := Ls.mem! (by rw [← hZ, List.length_map]; exact hi)
    have hle := hI.le _ hin
    have hne : 0 < S[i]!.e.length := List.length_pos_iff.2 (hI.ne _ hin)
    refine Ct.conv (R := fun v m' B => v = .int .i64 (S[i]!.e[S[i]!.e.length - 1]!.T) ∧ m = m' ∧ B = opn b ⟨po, co, mb, Z⟩ i S[i]! ⟨lp, lc, ep, ec⟩) ?_ fun v m' B _ ⟨h1, h2, h3⟩ => ⟨[bk b S], ⟨h1, h2.symm, rfl⟩, fun Rest => by
      subst h3
      refine ((opn_out b ⟨po, co, mb, Z⟩ i hi S[i]! (by rw [← he]) ⟨lp, lc, ep, ec⟩ Rest).trans ?_)
      dsimp only
      rw [set_same hi he]
      exact bk_close b ⟨po, co, mb, Z⟩ S hZ Rest⟩
    unfold opn
    generalize S[i]! = x at *
    have hw : IntKind.wrap .i64 ((x.e.length : Int) - 1) = ((x.e.length - 1 : Nat) : Int) := by rw [show (x.e.length : Int) - 1 = ((x.e.length - 1 : Nat) : Int) by omega]; exact IntWalk.i64_in _ (by omega)
    refine Ct.enterV (by rfl) Try.func15 rfl Try.ntmps15 rfl (fun w0 Rest => ?_)
    (repeat' (first | refine zss ?_ | ((first | (with_reducible first | apply At.val | apply AtQ.val)); (exact pr_sub (by rfl) (by rfl) hw); exact rfl) | refine zsO ?_ | ((with_reducible first | apply AtM1.cr | apply AtQ.cr | apply At.cr); exact rfl; exact rfl; exact fun _ hmm => hf _ hmm; exact ztk; kernel_rfl) | (refine zsp ?_ ?_ <;> (intro hc; (try simp only [zhcs, reduceCtorEq] at hc); (try (exfalso; first | contradiction | omega | exact absurd rfl hc | exact absurd (by decide) hc))))))
    all_goals ((with_reducible apply At.retB1 (B := [.blk _ _ _, owL _ _ _, ow ep ec _, bh _ _ _ _ _, owS _ _ _, .map _ _, srs _])); exact rfl; exact rfl; exact zml; exact zkp; exact ⟨rfl, rfl, rfl⟩)
theorem ofO {m : Mem} (p : Option Addr) (c : Nat) (l : List Ev) (hl : l.length ≤ 1000000) (hV : ∀ e ∈ l, e.V < 18446744073709551616) :
    Ct Try.prog 31 #[.slice p l.length c] m [ow p c l] (fun v m' B => v = .tuple #[(Cell.ofL l).1.v, .int .i64 (Cell.ofL l).2] ∧ B = []) :=
  Ct.freezeG inferInstance fun m' hm' sl => (Cell.of_ p c l hl hV sl).mono fun v m' B _ ⟨h1, _, h3⟩ => ⟨h1, h3⟩
theorem evs_bd {S : List Ser} (hI : Inv S) (l : List Lab) : (evs S l).length ≤ 1000 ∧ ∀ e ∈ evs S l, e.ok ∧ e.V < 18446744073709551616 := by
  unfold evs
  cases hx : idx S l with
  | none => exact ⟨Nat.zero_le _, fun e he => by cases he⟩
  | some i =>
    have hi : i < S.length := (List.findIdx?_eq_some_iff_getElem.1 hx).1
    exact ⟨hI.le _ (Ls.mem! hi), hI.ok _ (Ls.mem! hi)⟩
/-- a range's cell -/
def cel (S : List Ser) (l : List Lab) (a b : Int) : Cell := (Cell.ofL ((evs S l).filter (keep a b))).1
theorem cell {m : Mem} (b : Nat) (S : List Ser) (hI : Inv S) (p : Option Addr) (c : Nat) (l : List Lab) (hm : Lb.Mid l) (u v : Int) (sl0 : Sl m Lb.cells 2 p c l) :
    Ct Try.prog 13 #[pt b, .slice p l.length c, .int .i64 u, .int .i64 v] m [bk b S] (fun v' m' B => v' = (cel S l u v).v ∧ B = [bk b S]) := by
  have k1 := events (m := m) b S hI p c l hm sl0
  obtain ⟨h1, h2⟩ := evs_bd hI l
  unfold cel
  generalize evs S l = L at k1 h1 h2 ⊢
  have hfl : (L.filter (keep u v)).length ≤ 1000 := Nat.le_trans (List.length_filter_le _ _) h1
  have k3 := fun (m : Mem) p c => ofO (m := m) p c (L.filter (keep u v)) (by omega) fun e he => (h2 e (List.mem_filter.1 he).1).2
  have k2 := fun (m : Mem) b4 b5 p c => deleteF (m := m) b4 b5 u v p c L (by omega)
  generalize Cell.ofL (L.filter (keep u v)) = X at k3 ⊢
  generalize L.filter (keep u v) = Y at k2 k3 hfl
  refine Ct.enterV (by rfl) Try.func13 rfl Try.ntmps13 rfl (fun w0 Rest => ?_)
  (repeat' (first | refine zss ?_ | refine zsO ?_ | ((with_reducible first | apply At.c1 | apply At.c0); exact rfl; exact rfl; exact k1; exact ztk; kernel_rfl; rintro v' m' B' hm' ⟨rfl, p2, c2, rfl, rfl⟩; (try replace sl0 := sl0.mono hm'); (try (have hq0 : hm' = Mem.le_refl _ := rfl; clear hq0 hm'))) | ((with_reducible first | apply At.c1 | apply At.c0); exact rfl; exact rfl; exact k2 _ b6 b7 p2 c2; exact ztk; kernel_rfl; rintro v' m' B' hm' ⟨rfl, p3, c3, rfl, rfl⟩; (try replace sl0 := sl0.mono hm'); (try (have hq0 : hm' = Mem.le_refl _ := rfl; clear hq0 hm'))) | ((with_reducible first | apply At.c1 | apply At.c0); exact rfl; exact rfl; exact k3 _ p3 c3; exact ztk; kernel_rfl; rintro v' m' B' hm' ⟨rfl, rfl⟩; (try replace sl0 := sl0.mono hm'); (try (have hq0 : hm' = Mem.le_refl _ := rfl; clear hq0 hm'))) | ((with_reducible apply At.box (d := 6)); exact rfl; exact rfl; exact rfl; intro b6) | ((with_reducible apply At.box (d := 7)); exact rfl; exact rfl; exact rfl; intro b7) | ((with_reducible apply At.alloc (d := 8)); exact rfl; exact rfl; intro b8) | ((with_reducible apply At.alloc (d := 9)); exact rfl; exact rfl; intro b9) | (refine zsp ?_ ?_ <;> (intro hc; (try simp only [zhcs, reduceCtorEq] at hc); (try (exfalso; first | contradiction | omega | exact absurd rfl hc | exact absurd (by decide) hc))))))
  all_goals ((with_reducible apply At.retV (B := [bk b S])); exact rfl; (repeat' (first | exact RVs.nil | (with_reducible apply RVs.cons) | exact rv_tmp (by rfl) | exact rv_cellN (by rfl) (by repeat constructor) (by rfl) (by rfl) (by rfl) | exact rv_cell1 (by rfl) (by repeat constructor) (by rfl) (by rfl))); exact zml; exact zkp; exact ⟨rfl, rfl⟩)
theorem cloneLo {m : Mem} (p : Option Addr) (c : Nat) (l : List Lab) (hl : l.length ≤ 1000000) :
    Ct Try.prog 27 #[.slice p l.length c] m [owL p c l] (fun v m' B => ∃ p2 c2, v = .slice p2 l.length c2 ∧ B = owL p2 c2 l :: [owL p c l]) := by
  cases p with
  | none =>
    refine Ct.enterV (by rfl) Try.func27 rfl Try.ntmps27 rfl (fun w0 Rest => ?_)
    refine own_none inferInstance .here fun _ h0 => ?_
    subst h0
    (repeat' (first | refine zss ?_ | ((first | (with_reducible first | apply At.val | apply AtQ.val)); (exact pr_sleql (by rfl) (by rfl) (by rfl)); exact rfl) | refine zsM ?_ | (refine zsp ?_ ?_ <;> (intro hc; (try simp only [zhcs, reduceCtorEq] at hc); (try (exfalso; first | contradiction | omega | exact absurd rfl hc | exact absurd (by decide) hc))))))
    all_goals refine At.own_nil Lb.cells 2 59 ?_
    all_goals ((with_reducible apply At.retB1 (B := [owL _ _ _, owL _ _ _])); exact rfl; exact rfl; exact zml; exact zkp; exact ⟨_, _, rfl, rfl⟩)
  | some a =>
    refine Ct.enterV (by rfl) Try.func27 rfl Try.ntmps27 rfl (fun w0 Rest => ?_)
    (repeat' (first | refine zss ?_ | ((first | (with_reducible first | apply At.val | apply AtQ.val)); (exact pr_sleql (by rfl) (by rfl) (by rfl)); exact rfl) | refine zsO ?_ | ((with_reducible apply At.lit Lb.cells ([] : List Lab)); exact inferInstance; (iterate 7 exact rfl); intro _) | ((with_reducible apply At.apW (f := Lb.cells)); exact rfl; exact rfl; exact (by repeat constructor); exact inferInstance; exact zrdl; (iterate 4 exact rfl); exact zom; exact rfl; intro _ _) | (refine zsp ?_ ?_ <;> (intro hc; (try simp only [zhcs, reduceCtorEq] at hc); (try (exfalso; first | contradiction | omega | exact absurd rfl hc | exact absurd (by decide) hc))))))
    all_goals ((with_reducible apply At.retB1 (B := [owL _ _ _, owL _ _ _])); exact rfl; exact rfl; exact zml; exact zkp; exact ⟨_, _, rfl, rfl⟩)
theorem cloneLZ {m : Mem} (p : Option Addr) (c : Nat) (l : List Lab) (hl : l.length ≤ 1000000) :
    Ct Try.prog 27 #[.slice p l.length c] m [owL p c l] (fun v m' B => B = [owL p c l] ∧ ∃ p2 c2, v = .slice p2 l.length c2 ∧ Sl m' Lb.cells 2 p2 c2 l) :=
  Ct.slice (R := fun v p c => v = .slice p l.length c) inferInstance (cloneLo p c l hl)
end Fl
end Go.Proofs.Ytoplagjjojlceaa
/- A book of series: All, New, Put, Forget. -/
set_option linter.unusedSimpArgs false
set_option linter.unusedVariables false
set_option linter.unusedSectionVars false
set_option maxRecDepth 20000
set_option maxHeartbeats 4000000
namespace Go.Proofs.Ytoplagjjojlceaa
open Go Go.J
attribute [local irreducible] At AtQ AtM AtM1 PR Ct Pu Rd Res.blk Res.own Res.ex RVs RV Res.map
namespace Fl
theorem sr_openA {n : Nat} {w0 : World} {F : Fr} {m : Mem} {Rs0 Rs : List Res} {K : Act → World → Prop} {a : Nat} {x : Ser} (hp : Pick Rs0 (sr a x) Rs) (h : ∀ t : SS, At n w0 F m (.blk a 71 [.slice t.lp x.l.length t.lc, .slice t.ep x.e.length t.ec] :: owL t.lp t.lc x.l :: ow t.ep t.ec x.e :: Rs) K) : At n w0 F m Rs0 K := by
  unfold sr at hp
  exact At.openx hp fun t _ => h t
attribute [local irreducible] sr srs
open Ev
theorem put_back (Z : Zt) (i : Nat) (hi : i < Z.length) (t : SS) (R : List Res) :
    Ent (.blk Z[i]!.1 71 [.slice t.lp Z[i]!.2.l.length t.lc, .slice t.ep Z[i]!.2.e.length t.ec] :: owL t.lp t.lc Z[i]!.2.l :: ow t.ep t.ec Z[i]!.2.e :: srs (Z.eraseIdx i) :: R) (srs Z :: R) := by
  have h := (sr_close Z[i]!.1 Z[i]!.2 t (srs (Z.eraseIdx i) :: R)).trans (srs_put Z i hi Z[i]!.2 R)
  rwa [show (Z[i]!.1, Z[i]!.2) = Z[i]! from rfl, getElem!_pos Z i hi, List.set_getElem_self, ← getElem!_pos Z i hi] at h
theorem new_ {m : Mem} : Ct Try.prog 7 #[] m [] (fun v m' B => m = m' ∧ ∃ b, v = pt b ∧ B = [bk b []]) := by
  refine Ct.conv (R := fun v m' B => m = m' ∧ ∃ b mb, v = pt b ∧ B = bkR b ⟨none, 0, mb, []⟩) ?_ fun v m' B _ ⟨h1, b, mb, h2, h3⟩ => ⟨[bk b []], ⟨h1, b, h2, rfl⟩, fun Rest => by
    subst h3
    exact bk_close b ⟨none, 0, mb, []⟩ [] rfl Rest⟩
  refine Ct.enterV (by rfl) Try.func7 rfl Try.ntmps7 rfl (fun w0 Rest => ?_)
  (repeat' (first | refine zss ?_ | refine zs0 ?_ | ((with_reducible apply At.mapNew); exact rfl; intro mb) | ((with_reducible apply At.box (d := 3)); exact rfl; exact rfl; exact rfl; intro b3) | (refine zsp ?_ ?_ <;> (intro hc; (try simp only [zhcs, reduceCtorEq] at hc); (try (exfalso; first | contradiction | omega | exact absurd rfl hc | exact absurd (by decide) hc))))))
  all_goals refine At.own_nil Ls.fS 1 9 ?_
  all_goals refine At.ent (srs_nil _) ?_
  all_goals ((with_reducible apply At.retB1 (B := [bh _ none 0 0 mb, owS none 0 [], .map mb [], srs []])); exact rfl; exact rfl; exact zml; exact zkp; exact ⟨rfl, _, mb, rfl, rfl⟩)
theorem map_at {Z : Zt} {i : Nat} (h : i < Z.length) : (nms Z)[i]! = Lb.bytesL Z[i]!.2.l := by
  unfold nms
  rw [getElem!_pos _ i (by rw [List.length_map]; exact h), List.getElem_map, getElem!_pos Z i h]
theorem nms_len (Z : Zt) : (nms Z).length = Z.length := List.length_map ..
theorem at_self {S : List Ser} (hI : Inv S) {Z : Zt} (hZ : Z.map (·.2) = S) {i : Nat} (h : i < Z.length) : at_ Z Z[i]!.2.l = some i := by
  unfold at_
  rw [List.findIdx?_eq_some_iff_getElem]
  refine ⟨h, decide_eq_true (by rw [getElem!_pos Z i h]), fun j hj => ?_⟩
  have hl : Z.length = S.length := by rw [← hZ, List.length_map]
  have := (List.pairwise_iff_getElem.1 hI.nd) j i (by omega) (by omega) hj
  subst hZ
  rw [List.getElem_map, List.getElem_map] at this
  rw [getElem!_pos Z i h]
  simpa using this
structure AS where
  (i : Nat) (p : Option Addr) (c : Nat) (L : List (Ls.SX Lab)) (M : Mem)
theorem take_map {S : List Ser} {i : Nat} (h : i < S.length) : (S.take (i + 1)).map Ser.l = (S.take i).map Ser.l ++ [S[i]!.l] := by rw [Ls.take_snoc h, List.map_append]; rfl
set_option maxHeartbeats 1000000 in
theorem all {m : Mem} (b : Nat) (S : List Ser) (hI : Inv S) :
    Ct Try.prog 12 #[pt b] m [bk b S] (fun v m' B => B = [bk b S] ∧ ∃ p c, ∃ L : List (Ls.SX Lab), v = .slice p S.length c ∧ L.map (·.l) = S.map Ser.l ∧ Sl m' Ls.fX 1 p c L ∧ ∀ x ∈ L, Sl m' Lb.cells 2 x.p x.c x.l) := by
  refine Ct.openx fun ⟨po, co, mb, Z⟩ hZ => ?_
  dsimp only at hZ
  rw [List.append_nil]
  refine Ct.conv (R := fun v m' B => ∃ p c, ∃ L : List (Ls.SX Lab), v = .slice p S.length c ∧ L.map (·.l) = S.map Ser.l ∧ Sl m' Ls.fX 1 p c L ∧ (∀ x ∈ L, Sl m' Lb.cells 2 x.p x.c x.l) ∧ B = bkR b ⟨po, co, mb, Z⟩) ?_ fun v m' B _ ⟨p, c, L, h1, h2, h3, h4, h5⟩ => ⟨[bk b S], ⟨rfl, p, c, L, h1, h2, h3, h4⟩, fun Rest => by
    subst h5
    exact bk_close b ⟨po, co, mb, Z⟩ S hZ Rest⟩
  have hl : Z.length = S.length := by rw [← hZ, List.length_map]
  have hnl := nms_len Z
  have h1000 := hI.len
  unfold bkR
  dsimp only
  refine Ct.enterV (by rfl) Try.func12 rfl Try.ntmps12 rfl (fun w0 Rest => ?_)
  (repeat' (first | refine zss ?_ | refine zs0 ?_ | (refine zsp ?_ ?_ <;> (intro hc; (try simp only [zhcs, reduceCtorEq] at hc); (try (exfalso; first | contradiction | omega | exact absurd rfl hc | exact absurd (by decide) hc))))))
  refine At.own_nil (Ls.fX (α := Lab)) 1 23 ?_
  (refine At.loopk (σ := AS) [0, 9, 10] (fun s F0 => (3, .slice s.p s.L.length s.c) :: (11, .int .i64 (s.i : Int)) :: F0) (fun s => s.M) (fun s => .own Ls.fX 1 23 s.p s.c s.L :: bh b po (nms Z).length co mb :: owS po co (nms Z) :: .map mb (dm Z) :: srs Z :: Rest) (fun s => m.le s.M ∧ s.i ≤ S.length ∧ s.L.map (·.l) = (S.take s.i).map Ser.l ∧ ∀ x ∈ s.L, Sl s.M Lb.cells 2 x.p x.c x.l) (fun s => S.length - s.i) ⟨0, none, 0, [], m⟩ (by rfl) ?_ zsubs zml zente ?_)
  · exact ⟨Mem.le_refl _, Nat.zero_le _, rfl, fun x hx => by cases hx⟩
  rintro ⟨i, p1, c1, L, M⟩ ⟨h0, h1, h2, h3⟩
  dsimp only at h0 h1 h2 h3 ⊢
  have hLl : L.length = i := by have := congrArg List.length h2; simp only [List.length_map, List.length_take] at this; omega
  by_cases h : i < S.length
  · have hi : i < Z.length := by omega
    have e : Z[i]!.2 = S[i]! := by rw [← hZ, getElem!_pos Z i hi, getElem!_pos _ i (by rw [List.length_map]; exact hi), List.getElem_map]
    have hv : J.getD (dm Z) (nms Z)[i]! (.pointer none) = pt Z[i]!.1 := by
      rw [map_at hi, node_get (inv_rgt hI hZ) (by rw [e]; exact hI.r _ (Ls.mem! h)), node_some (at_self hI hZ hi)]
    have hrl : Z[i]!.2.l.length ≤ 16 := by rw [e]; exact (hI.r _ (Ls.mem! h)).2.1
    refine At.ent (((Take.eqv (A := [srs Z]) (by exact .cons (.there (.there (.there (.there .here)))) .nil)).ent).trans (srs_take Z i hi _)) ?_
    refine sr_openA .here fun t => ?_
    obtain ⟨lp, lc, ep, ec⟩ := t
    dsimp only
    have hback := put_back Z i hi ⟨lp, lc, ep, ec⟩
    dsimp only at hback
    have ht := take_map h
    rw [← e] at ht
    generalize hz : Z[i]! = z at hv hback hrl ht
    have k1 := fun m => cloneLZ (m := m) lp lc z.2.l (by omega)
    (repeat' (first | refine zss ?_ | ((first | (with_reducible first | apply At.val | apply AtQ.val)); (exact pr_lookup (by rfl) (by rfl) (by rfl) (by rfl) (by repeat constructor) (zeroV_of (by rfl) (by rfl)) hv); exact rfl) | refine zsO ?_ | ((with_reducible first | apply At.c1 | apply At.c0); exact rfl; exact rfl; exact k1 _; exact ztk; kernel_rfl; rintro v' m' B' hm' ⟨rfl, p5, c5, rfl, sl5⟩; (try replace sl3 := sl3.mono hm'); (try replace sl5 := sl5.mono hm'); (try replace sl6 := sl6.mono hm'); (try (have hq0 : hm' = Mem.le_refl _ := rfl; clear hq0 hm'))) | ((with_reducible apply At.litF Ls.fX [(⟨z.2.l, p5, c5⟩ : Ls.SX Lab)]); exact inferInstance; (iterate 7 exact rfl); intro b' m' hm' sl6; (try replace sl3 := sl3.mono hm'); (try replace sl5 := sl5.mono hm')) | ((with_reducible apply At.apW (f := Ls.fX) (l := L)); exact rfl; exact rfl; exact (by repeat constructor); exact inferInstance; exact zrdl; (iterate 4 exact rfl); exact zom; exact rfl; intro p2 c2) | (refine zsp ?_ ?_ <;> (intro hc; (try simp only [zhcs, reduceCtorEq] at hc); (try (exfalso; first | omega | contradiction | omega | exact absurd rfl hc | exact absurd (by decide) hc))))))
    all_goals refine At.ent ((Take.eqv (A := [.blk z.1 71 [.slice lp z.2.l.length lc, .slice ep z.2.e.length ec], owL lp lc z.2.l, ow ep ec z.2.e, srs (Z.eraseIdx i)]) ztk).ent.trans (hback _)) ?_
    all_goals ((with_reducible refine At.reachk ((⟨i + 1, p2, c2, L ++ [⟨z.2.l, p5, c5⟩], m'⟩ : AS)) ?_ ?_ ?_ ?_); exact zsubs; exact zml; exact zente; exact ⟨⟨zml, h, by dsimp only; rw [List.map_append, h2, ht]; rfl, fun x hx => by
      rcases List.mem_append.1 hx with hx | hx
      · exact (h3 x hx).mono zml
      · rw [List.mem_singleton.1 hx]; exact sl5⟩, by dsimp only; omega⟩)
  · have hi : i = S.length := by omega
    subst hi
    rw [List.take_length] at h2
    (repeat' (first | refine zss ?_ | refine zsO ?_ | (refine zsp ?_ ?_ <;> (intro hc; (try simp only [zhcs, reduceCtorEq] at hc); (try (exfalso; first | omega | contradiction | omega | exact absurd rfl hc | exact absurd (by decide) hc))))))
    (refine At.own_freeze inferInstance (by repeat constructor) fun m' hm' sl3 => ?_; (try replace sl5 := sl5.mono hm'); (try replace sl6 := sl6.mono hm'))
    rw [hLl] at *
    all_goals ((with_reducible apply At.retB1 (B := [bh _ _ _ _ _, owS _ _ _, .map _ _, srs _])); exact rfl; exact rfl; exact zml; exact zkp; exact ⟨_, _, L, rfl, h2, sl3, fun x hx => (h3 x hx).mono zml, rfl⟩)
end Fl
end Go.Proofs.Ytoplagjjojlceaa
/- A book of series: Put, Forget. -/
set_option linter.unusedSimpArgs false
set_option linter.unusedVariables false
set_option linter.unusedSectionVars false
set_option maxRecDepth 20000
set_option maxHeartbeats 4000000
namespace Go.Proofs.Ytoplagjjojlceaa
open Go Go.J
attribute [local irreducible] At AtQ AtM AtM1 PR Ct Pu Rd Res.blk Res.own Res.ex RVs RV Res.map
namespace Fl
attribute [local irreducible] sr srs
open Ev
def tl (x : Ser) : Ev := x.e[x.e.length - 1]!
def putS (S : List Ser) (l : List Lab) (e : Ev) : List Ser × Int := if ¬ Lb.right l then (S, 8) else if ¬ e.ok then (S, 2) else match idx S l with
  | none => (S ++ [⟨l, [e]⟩], 0)
  | some i => if (tl S[i]!).T < e.T then (S.set i ⟨l, S[i]!.e ++ [e]⟩, 0) else (S, 9)
def forS (S : List Ser) (l : List Lab) : List Ser × Bool := match idx S l with
  | none => (S, false)
  | some i => (S.eraseIdx i, true)
theorem put_end (b : Nat) (po : Option Addr) (co mb : Nat) (Z : Zt) (a : Nat) (x : Ser) (t : SS) (hk : at_ Z x.l = none) (hr : Lb.right x.l) (hZ : Rgt Z) (R : List Res) :
    Ent (.blk a 71 [.slice t.lp x.l.length t.lc, .slice t.ep x.e.length t.ec] :: owL t.lp t.lc x.l :: ow t.ep t.ec x.e :: bh b po (nms Z ++ [Lb.bytesL x.l]).length co mb :: owS po co (nms Z ++ [Lb.bytesL x.l]) :: .map mb (putD (dm Z) (Lb.bytesL x.l) (pt a)) :: srs Z :: R) (bkR b ⟨po, co, mb, Z ++ [(a, x)]⟩ ++ R) := by
  have e1 : nms (Z ++ [(a, x)]) = nms Z ++ [Lb.bytesL x.l] := by unfold nms; rw [List.map_append]; rfl
  have e2 : putD (dm Z) (Lb.bytesL x.l) (pt a) = dm (Z ++ [(a, x)]) := by
    unfold putD
    rw [(key_at hr hZ).trans hk]
    unfold dm
    rw [List.map_append]; rfl
  unfold bkR
  rw [e1, e2]
  refine Ent.trans (sr_close a x t _) ?_
  refine Ent.trans (B := sr a x :: srs Z :: bh b po (nms Z ++ [Lb.bytesL x.l]).length co mb :: owS po co (nms Z ++ [Lb.bytesL x.l]) :: .map mb (dm (Z ++ [(a, x)])) :: R) (Ent.cons _ (Ent.of_pick (.there (.there (.there .here))))) ?_
  refine Ent.trans (srs_snoc Z a x _) ?_
  exact Ent.to_pick (R := srs (Z ++ [(a, x)])) (.there (.there (.there .here)))
set_option maxHeartbeats 2000000 in
theorem put {m : Mem} (b : Nat) (S : List Ser) (hI : Inv S) (p : Option Addr) (c : Nat) (l : List Lab) (hm : Lb.Mid l) (e : Ev) (hV : e.V < 18446744073709551616) (sl0 : Sl m Lb.cells 2 p c l) :
    Ct Try.prog 9 #[pt b, .slice p l.length c, e.v] m [bk b S] (fun v m' B => v = .int .i64 (putS S l e).2 ∧ B = [bk b (putS S l e).1]) := by
  have hck := fun (m' : Mem) (hm' : m.le m') => Lb.check (m := m') p c l hm (sl0.mono hm')
  have hce := check e
  unfold putS
  by_cases hr : Lb.right l
  rotate_left
  · rw [if_pos hr]
    rw [show Lb.chk l = 8 from if_neg hr] at hck
    refine Ct.enterV (by rfl) Try.func9 rfl Try.ntmps9 rfl (fun w0 Rest => ?_)
    (repeat' (first | refine zss ?_ | refine zs0 ?_ | ((with_reducible first | apply AtM1.cr | apply AtQ.cr | apply At.cr); exact rfl; exact rfl; exact fun _ hmm => hck _ hmm; exact ztk; kernel_rfl) | ((with_reducible apply At.box (d := 5)); exact rfl; exact rfl; exact rfl; intro b5) | ((with_reducible apply At.box (d := 49)); exact rfl; exact rfl; exact rfl; intro b49) | (refine zsp ?_ ?_ <;> (intro hc; (try simp only [zhcs, reduceCtorEq] at hc); (try (exfalso; first | omega | contradiction | omega | exact absurd rfl hc | exact absurd (by decide) hc))))))
    all_goals ((with_reducible apply At.retB1 (B := [bk b S])); exact rfl; exact rfl; exact zml; exact zkp; exact ⟨rfl, rfl⟩)
  rw [if_neg (not_not_intro hr)]
  rw [Lb.chk_ok hr] at hck
  by_cases hok : e.ok
  rotate_left
  · rw [if_pos hok]
    rw [show e.chk = 2 from if_neg hok] at hce
    refine Ct.enterV (by rfl) Try.func9 rfl Try.ntmps9 rfl (fun w0 Rest => ?_)
    (repeat' (first | refine zss ?_ | refine zs0 ?_ | ((with_reducible first | apply AtM1.cr | apply AtQ.cr | apply At.cr); exact rfl; exact rfl; exact fun _ hmm => hck _ hmm; exact ztk; kernel_rfl) | ((with_reducible first | apply AtM1.callp | apply AtQ.callp | apply At.callp); kernel_rfl; exact rfl; exact rfl; exact hce) | ((with_reducible apply At.box (d := 5)); exact rfl; exact rfl; exact rfl; intro b5) | ((with_reducible apply At.box (d := 49)); exact rfl; exact rfl; exact rfl; intro b49) | (refine zsp ?_ ?_ <;> (intro hc; (try simp only [zhcs, reduceCtorEq] at hc); (try (exfalso; first | omega | contradiction | omega | exact absurd rfl hc | exact absurd (by decide) hc))))))
    all_goals ((with_reducible apply At.retB1 (B := [bk b S])); exact rfl; exact rfl; exact zml; exact zkp; exact ⟨rfl, rfl⟩)
  rw [if_neg (not_not_intro hok)]
  rw [show e.chk = 0 from if_pos hok] at hce
  cases hx : idx S l with
  | none =>
    dsimp only
    refine bk.none hx fun ⟨po, co, mb, Z⟩ hZ ha => ?_
    dsimp only at hZ ha
    have hg := inv_rgt hI hZ
    have hf := fun (m' : Mem) (hm' : m.le m') => find (m := m') b p c l hm (sl0.mono hm') po (nms Z).length co mb Z hg
    rw [node_none ha, if_pos hr] at hf
    have hl16 : l.length ≤ 16 := hr.2.1
    have hzl : Z.length ≤ 1000 := by have := hI.len; rw [← hZ, List.length_map] at this; exact this
    have hnl := nms_len Z
    have kc := fun (m' : Mem) sl => Lb.clone (m := m') p c l (by omega) sl
    have hend := fun po co a t R => put_end b po co mb Z a ⟨l, [e]⟩ t ha hr hg R
    refine Ct.conv (R := fun v m' B => v = .int .i64 0 ∧ ∃ a lp lc ep ec po' co', B = [.blk a 71 [.slice lp l.length lc, .slice ep 1 ec], owL lp lc l, ow ep ec [e], bh b po' (nms Z ++ [Lb.bytesL l]).length co' mb, owS po' co' (nms Z ++ [Lb.bytesL l]), .map mb (putD (dm Z) (Lb.bytesL l) (pt a)), srs Z]) ?_ fun v m' B _ ⟨h1, a, lp, lc, ep, ec, po', co', h3⟩ => ⟨[bk b (S ++ [⟨l, [e]⟩])], ⟨h1, rfl⟩, fun Rest => by
      subst h3
      exact (hend po' co' a ⟨lp, lc, ep, ec⟩ Rest).trans (bk_close b _ _ (by dsimp only; rw [List.map_append, hZ]; rfl) Rest)⟩
    unfold bkR
    dsimp only
    generalize Lb.bytesL l = k at hf ⊢
    generalize nms Z = N at hf hnl ⊢
    generalize dm Z = D at hf ⊢
    refine Ct.enterV (by rfl) Try.func9 rfl Try.ntmps9 rfl (fun w0 Rest => ?_)
    (repeat' (first | ((with_reducible apply At.mixed (id := 10) 12 (.q 0 (.q 1 (.q 2 (.q 3 (.q 4 (.q 5 (.q 7 (.b 6 8 (.l 8 (.q 9 (.l 10 (.x 11 .done)))) (.l 6 (.q 9 (.l 10 (.x 11 .done))))))))))))); exact rfl; kernel_rfl; kernel_rfl; kernel_rfl) | ((with_reducible apply At.mixed (id := 14) 11 (.q 0 (.q 1 (.q 2 (.q 3 (.q 4 (.q 5 (.l 6 (.x 7 (.q 8 (.q 9 (.x 10 .done)))))))))))); exact rfl; kernel_rfl; kernel_rfl; kernel_rfl) | refine zsx ?_ | refine zss ?_ | ((with_reducible apply AtM.bo); exact rfl; exact rfl; exact rfl) | refine zsO ?_ | refine zxO ?_ | ((with_reducible first | apply AtM1.cr | apply AtQ.cr | apply At.cr); exact rfl; exact rfl; exact fun _ hmm => hck _ hmm; exact ztk; kernel_rfl) | ((with_reducible first | apply AtM1.callp | apply AtQ.callp | apply At.callp); kernel_rfl; exact rfl; exact rfl; exact hce) | ((with_reducible first | apply AtM1.cr | apply AtQ.cr | apply At.cr); exact rfl; exact rfl; exact fun _ hmm => hf _ hmm; exact ztk; kernel_rfl) | ((with_reducible first | apply At.c1 | apply At.c0); exact rfl; exact rfl; exact kc _ sl0; exact ztk; kernel_rfl; rintro v' m' B' hm' ⟨rfl, p5, c5, rfl, rfl⟩; (try replace sl0 := sl0.mono hm'); (try replace sl6 := sl6.mono hm'); (try (have hq0 : hm' = Mem.le_refl _ := rfl; clear hq0 hm'))) | ((with_reducible apply At.litF Ls.fS [k]); exact inferInstance; (iterate 7 exact rfl); intro b' m' hm' sl6; (try replace sl0 := sl0.mono hm')) | ((with_reducible apply At.apW (f := Ls.fS) (l := N)); exact rfl; exact rfl; exact (by repeat constructor); exact inferInstance; exact zrdl; (iterate 4 exact rfl); exact zom; exact rfl; intro p2 c2) | ((with_reducible apply At.lit cells [e]); exact inferInstance; (iterate 7 exact rfl); intro _) | ((with_reducible apply At.mapPut); (iterate 5 exact rfl); exact (by repeat constructor)) | ((with_reducible apply At.box (d := 5)); exact rfl; exact rfl; exact rfl; intro b5) | ((with_reducible apply At.box (d := 49)); exact rfl; exact rfl; exact rfl; intro b49) | (refine zsp ?_ ?_ <;> (intro hc; (try simp only [zhcs, reduceCtorEq] at hc); (try (exfalso; first | omega | contradiction | omega | exact absurd rfl hc | exact absurd (by decide) hc))))))
    all_goals ((with_reducible apply At.retB1 (B := [.blk _ _ _, owL _ _ _, ow _ _ _, bh _ _ _ _ _, owS _ _ _, .map _ _, srs _])); exact rfl; exact rfl; exact zml; exact zkp; exact ⟨rfl, _, _, _, _, _, _, _, rfl⟩)
  | some i =>
    dsimp only
    refine bk.some hx fun ⟨po, co, mb, Z⟩ ⟨lp, lc, ep, ec⟩ hZ ha hi he => ?_
    dsimp only at hZ ha hi he
    have hg := inv_rgt hI hZ
    have hf := fun (m' : Mem) (hm' : m.le m') => find (m := m') b p c l hm (sl0.mono hm') po (nms Z).length co mb Z hg
    rw [node_some ha, if_pos hr] at hf
    have hSl : i < S.length := by rw [← hZ, List.length_map]; exact hi
    have hin : S[i]! ∈ S := Ls.mem! hSl
    have hle := hI.le _ hin
    have hne : 0 < S[i]!.e.length := List.length_pos_iff.2 (hI.ne _ hin)
    have hlab : S[i]!.l = l := by rw [← he]; exact (at_some ha).2.1
    have htok : (tl S[i]!).ok := (hI.ok _ hin _ (Ls.mem! (by omega))).1
    have hfo := Ev.follow (tl S[i]!) e
    rw [show Ev.fol (tl S[i]!) e = decide ((tl S[i]!).T < e.T) by unfold Ev.fol; rw [decide_eq_true (show Ev.two (tl S[i]!) e from ⟨htok, hok⟩), Bool.true_and]] at hfo
    have hw : IntKind.wrap .i64 ((S[i]!.e.length : Int) - 1) = ((S[i]!.e.length - 1 : Nat) : Int) := by rw [show (S[i]!.e.length : Int) - 1 = ((S[i]!.e.length - 1 : Nat) : Int) by omega]; exact IntWalk.i64_in _ (by omega)
    by_cases hT : (tl S[i]!).T < e.T
    · rw [if_pos hT]
      rw [decide_eq_true hT] at hfo
      refine Ct.conv (R := fun v m' B => v = .int .i64 0 ∧ ∃ ep' ec', B = opn b ⟨po, co, mb, Z⟩ i ⟨S[i]!.l, S[i]!.e ++ [e]⟩ ⟨lp, lc, ep', ec'⟩) ?_ fun v m' B _ ⟨h1, ep', ec', h3⟩ => ⟨[bk b (S.set i ⟨l, S[i]!.e ++ [e]⟩)], ⟨h1, rfl⟩, fun Rest => by
        subst h3
        refine ((opn_out b ⟨po, co, mb, Z⟩ i hi ⟨S[i]!.l, S[i]!.e ++ [e]⟩ (by dsimp only; rw [he]) ⟨lp, lc, ep', ec'⟩ Rest).trans ?_)
        exact bk_close b _ _ (by dsimp only; rw [List.map_set, hZ, hlab]) Rest⟩
      unfold opn
      dsimp only
      unfold tl at hfo
      generalize S[i]! = x at *
      refine Ct.enterV (by rfl) Try.func9 rfl Try.ntmps9 rfl (fun w0 Rest => ?_)
      (repeat' (first | ((with_reducible apply At.mixed (id := 10) 12 (.q 0 (.q 1 (.q 2 (.q 3 (.q 4 (.q 5 (.q 7 (.b 6 8 (.l 8 (.q 9 (.l 10 (.x 11 .done)))) (.l 6 (.q 9 (.l 10 (.x 11 .done))))))))))))); exact rfl; kernel_rfl; kernel_rfl; kernel_rfl) | ((with_reducible apply At.mixed (id := 14) 11 (.q 0 (.q 1 (.q 2 (.q 3 (.q 4 (.q 5 (.l 6 (.x 7 (.q 8 (.q 9 (.x 10 .done)))))))))))); exact rfl; kernel_rfl; kernel_rfl; kernel_rfl) | refine zsx ?_ | refine zss ?_ | ((with_reducible apply AtM.bo); exact rfl; exact rfl; exact rfl) | ((first | (with_reducible first | apply At.val | apply AtQ.val) | ((with_reducible first | apply AtM1.valz | apply AtM1.val); exact rfl) | ((with_reducible apply AtM1.val); exact rfl)); (exact pr_sub (by rfl) (by rfl) hw); exact rfl) | refine zsO ?_ | refine zxO ?_ | ((with_reducible first | apply AtM1.cr | apply AtQ.cr | apply At.cr); exact rfl; exact rfl; exact fun _ hmm => hck _ hmm; exact ztk; kernel_rfl) | ((with_reducible first | apply AtM1.callp | apply AtQ.callp | apply At.callp); kernel_rfl; exact rfl; exact rfl; exact hce) | ((with_reducible first | apply AtM1.callp | apply AtQ.callp | apply At.callp); kernel_rfl; exact rfl; exact rfl; exact hfo) | ((with_reducible first | apply AtM1.cr | apply AtQ.cr | apply At.cr); exact rfl; exact rfl; exact fun _ hmm => hf _ hmm; exact ztk; kernel_rfl) | ((with_reducible apply At.litF cells [e]); exact inferInstance; (iterate 7 exact rfl); intro b' m' hm' sl6; (try replace sl0 := sl0.mono hm')) | ((with_reducible apply At.apW (f := cells) (l := x.e)); exact rfl; exact rfl; exact (by repeat constructor); exact inferInstance; exact zrdl; (iterate 4 exact rfl); exact zom; exact rfl; intro p2 c2) | ((with_reducible apply At.box (d := 5)); exact rfl; exact rfl; exact rfl; intro b5) | ((with_reducible apply At.box (d := 49)); exact rfl; exact rfl; exact rfl; intro b49) | (refine zsp ?_ ?_ <;> (intro hc; (try simp only [zhcs, reduceCtorEq] at hc); (try (exfalso; first | omega | contradiction | omega | exact absurd rfl hc | exact absurd (by decide) hc))))))
      all_goals ((with_reducible apply At.retB1 (B := [.blk Z[i]!.1 _ _, owL _ _ _, ow _ _ _, bh _ _ _ _ _, owS _ _ _, .map _ _, srs _])); exact rfl; exact rfl; exact zml; exact zkp; exact ⟨rfl, _, _, rfl⟩)
    · rw [if_neg hT]
      rw [decide_eq_false hT] at hfo
      refine Ct.conv (R := fun v m' B => v = .int .i64 9 ∧ B = opn b ⟨po, co, mb, Z⟩ i S[i]! ⟨lp, lc, ep, ec⟩) ?_ fun v m' B _ ⟨h1, h3⟩ => ⟨[bk b S], ⟨h1, rfl⟩, fun Rest => by
        subst h3
        refine ((opn_out b ⟨po, co, mb, Z⟩ i hi S[i]! (by rw [← he]) ⟨lp, lc, ep, ec⟩ Rest).trans ?_)
        dsimp only
        rw [set_same hi he]
        exact bk_close b ⟨po, co, mb, Z⟩ S hZ Rest⟩
      unfold opn
      dsimp only
      unfold tl at hfo
      generalize S[i]! = x at *
      refine Ct.enterV (by rfl) Try.func9 rfl Try.ntmps9 rfl (fun w0 Rest => ?_)
      (repeat' (first | refine zss ?_ | ((first | (with_reducible first | apply At.val | apply AtQ.val)); (exact pr_sub (by rfl) (by rfl) hw); exact rfl) | refine zsO ?_ | ((with_reducible first | apply AtM1.cr | apply AtQ.cr | apply At.cr); exact rfl; exact rfl; exact fun _ hmm => hck _ hmm; exact ztk; kernel_rfl) | ((with_reducible first | apply AtM1.callp | apply AtQ.callp | apply At.callp); kernel_rfl; exact rfl; exact rfl; exact hce) | ((with_reducible first | apply AtM1.callp | apply AtQ.callp | apply At.callp); kernel_rfl; exact rfl; exact rfl; exact hfo) | ((with_reducible first | apply AtM1.cr | apply AtQ.cr | apply At.cr); exact rfl; exact rfl; exact fun _ hmm => hf _ hmm; exact ztk; kernel_rfl) | ((with_reducible apply At.box (d := 5)); exact rfl; exact rfl; exact rfl; intro b5) | ((with_reducible apply At.box (d := 49)); exact rfl; exact rfl; exact rfl; intro b49) | (refine zsp ?_ ?_ <;> (intro hc; (try simp only [zhcs, reduceCtorEq] at hc); (try (exfalso; first | omega | contradiction | omega | exact absurd rfl hc | exact absurd (by decide) hc))))))
      all_goals ((with_reducible apply At.retB1 (B := [.blk Z[i]!.1 _ _, owL _ _ _, ow _ _ _, bh _ _ _ _ _, owS _ _ _, .map _ _, srs _])); exact rfl; exact rfl; exact zml; exact zkp; exact ⟨rfl, rfl⟩)
theorem filt_erase : ∀ (L : List (List UInt8)) (i : Nat), L.Pairwise (fun a b => a ≠ b) → (h : i < L.length) → L.filter (keepS (L[i]'h)) = L.eraseIdx i
  | x :: L, 0, hp, _ => by
    have h1 := (List.pairwise_cons.1 hp).1
    show (x :: L).filter (keepS x) = L
    rw [List.filter_cons_of_neg (by simp [keepS]), List.filter_eq_self]
    intro t ht
    have := h1 t ht
    simp [keepS, Ne.symm this]
  | x :: L, i + 1, hp, h => by
    have h1 := (List.pairwise_cons.1 hp)
    have hi : i < L.length := by simpa using h
    show (x :: L).filter (keepS (L[i]'hi)) = x :: L.eraseIdx i
    rw [List.filter_cons_of_pos (by have := h1.1 (L[i]'hi) (List.getElem_mem hi); simp [keepS, this]), filt_erase L i h1.2 hi]
theorem nms_pw {S : List Ser} (hI : Inv S) {Z : Zt} (hZ : Z.map (·.2) = S) : (nms Z).Pairwise fun a b => a ≠ b := by
  unfold nms
  rw [List.pairwise_map]
  have h := hI.nd
  rw [← hZ, List.pairwise_map] at h
  have hg := inv_rgt hI hZ
  exact h.imp_of_mem fun ha hb hab e => hab (Lb.bytes_inj (hg _ ha) (hg _ hb) e)
set_option maxHeartbeats 2000000 in
theorem forget {m : Mem} (b : Nat) (S : List Ser) (hI : Inv S) (p : Option Addr) (c : Nat) (l : List Lab) (hm : Lb.Mid l) (sl0 : Sl m Lb.cells 2 p c l) :
    Ct Try.prog 11 #[pt b, .slice p l.length c] m [bk b S] (fun v m' B => v = .bool (forS S l).2 ∧ B = [bk b (forS S l).1]) := by
  unfold forS
  cases hx : idx S l with
  | none =>
    dsimp only
    refine bk.none hx fun ⟨po, co, mb, Z⟩ hZ ha => ?_
    dsimp only at hZ ha
    have hf := fun (m' : Mem) (hm' : m.le m') => find (m := m') b p c l hm (sl0.mono hm') po (nms Z).length co mb Z (inv_rgt hI hZ)
    rw [node_none ha] at hf
    refine Ct.conv (R := fun v m' B => v = .bool false ∧ B = bkR b ⟨po, co, mb, Z⟩) ?_ fun v m' B _ ⟨h1, h3⟩ => ⟨[bk b S], ⟨h1, rfl⟩, fun Rest => by
      subst h3
      exact bk_close b ⟨po, co, mb, Z⟩ S hZ Rest⟩
    unfold bkR
    dsimp only
    generalize (if Lb.right l then Lb.bytesL l else []) = k at hf
    refine Ct.enterV (by rfl) Try.func11 rfl Try.ntmps11 rfl (fun w0 Rest => ?_)
    (repeat' (first | refine zss ?_ | refine zs0 ?_ | ((with_reducible first | apply AtM1.cr | apply AtQ.cr | apply At.cr); exact rfl; exact rfl; exact fun _ hmm => hf _ hmm; exact ztk; kernel_rfl) | ((with_reducible apply At.alloc (d := 6)); exact rfl; exact rfl; intro b6) | (refine zsp ?_ ?_ <;> (intro hc; (try simp only [zhcs, reduceCtorEq] at hc); (try (exfalso; first | contradiction | omega | exact absurd rfl hc | exact absurd (by decide) hc))))))
    all_goals ((with_reducible apply At.retB1 (B := [bh _ _ _ _ _, owS _ _ _, .map _ _, srs _])); exact rfl; exact rfl; exact zml; exact zkp; exact ⟨rfl, rfl⟩)
  | some i =>
    dsimp only
    refine bk.some hx fun ⟨po, co, mb, Z⟩ ⟨lp, lc, ep, ec⟩ hZ ha hi he => ?_
    dsimp only at hZ ha hi he
    have hg := inv_rgt hI hZ
    have hlab : Z[i]!.2.l = l := (at_some ha).2.1
    have hr : Lb.right l := by rw [← hlab]; exact hg _ (Ls.mem! hi)
    have hf := fun (m' : Mem) (hm' : m.le m') => find (m := m') b p c l hm (sl0.mono hm') po (nms Z).length co mb Z hg
    rw [node_some ha, if_pos hr] at hf
    have hzl : Z.length ≤ 1000 := by have := hI.len; rw [← hZ, List.length_map] at this; exact this
    have hnl := nms_len Z
    have e1 : (nms Z).filter (keepS (Lb.bytesL l)) = nms (Z.eraseIdx i) := by
      have h1 := filt_erase (nms Z) i (nms_pw hI hZ) (by omega)
      rw [← getElem!_pos (nms Z) i (by omega), map_at hi, hlab] at h1
      rw [h1]
      unfold nms
      rw [map_erase]
    have e2 : delD (dm Z) (Lb.bytesL l) = dm (Z.eraseIdx i) := by
      unfold delD
      rw [(key_at hr hg).trans ha]
      unfold dm
      rw [map_erase]
    have kd := fun (m : Mem) b4 => deleteFS (m := m) b4 (Lb.bytesL l) po co (nms Z) (by omega)
    rw [e1] at kd
    refine Ct.conv (R := fun v m' B => v = .bool true ∧ ∃ po' co', B = bkR b ⟨po', co', mb, Z.eraseIdx i⟩) ?_ fun v m' B _ ⟨h1, po', co', h3⟩ => ⟨[bk b (S.eraseIdx i)], ⟨h1, rfl⟩, fun Rest => by
      subst h3
      exact bk_close b _ _ (by dsimp only; rw [← hZ, map_erase]) Rest⟩
    unfold opn bkR
    dsimp only
    rw [← e2]
    generalize Lb.bytesL l = k at *
    generalize S[i]! = x at *
    generalize nms Z = N at *
    generalize nms (Z.eraseIdx i) = N2 at *
    generalize dm Z = D at *
    refine Ct.enterV (by rfl) Try.func11 rfl Try.ntmps11 rfl (fun w0 Rest => ?_)
    (repeat' (first | ((with_reducible apply At.mixed (id := 4) 6 (.q 0 (.q 1 (.q 2 (.q 3 (.q 4 (.x 5 .done))))))); exact rfl; kernel_rfl; kernel_rfl; kernel_rfl) | refine zsx ?_ | refine zss ?_ | ((with_reducible apply AtM.bo); exact rfl; exact rfl; exact rfl) | refine zsO ?_ | refine zxO ?_ | ((with_reducible first | apply AtM1.cr | apply AtQ.cr | apply At.cr); exact rfl; exact rfl; exact fun _ hmm => hf _ hmm; exact ztk; kernel_rfl) | ((with_reducible first | apply At.c1 | apply At.c0); exact rfl; exact rfl; exact kd _ b6; exact ztk; kernel_rfl; rintro v' m' B' hm' ⟨rfl, p2, c2, rfl, rfl⟩; (try replace sl0 := sl0.mono hm'); (try (have hq0 : hm' = Mem.le_refl _ := rfl; clear hq0 hm'))) | ((with_reducible apply At.mapDel); (iterate 4 exact rfl); exact (by repeat constructor)) | ((with_reducible apply At.alloc (d := 6)); exact rfl; exact rfl; intro b6) | (refine zsp ?_ ?_ <;> (intro hc; (try simp only [zhcs, reduceCtorEq] at hc); (try (exfalso; first | contradiction | omega | exact absurd rfl hc | exact absurd (by decide) hc))))))
    all_goals ((with_reducible apply At.retB1 (B := [bh _ _ _ _ _, owS _ _ _, .map _ _, srs _])); exact rfl; exact rfl; exact zml; exact zkp; exact ⟨rfl, _, _, rfl⟩)
end Fl
end Go.Proofs.Ytoplagjjojlceaa
/- What events come to, as the document tells it. -/
set_option linter.unusedSimpArgs false
set_option linter.unusedVariables false
set_option linter.unusedSectionVars false
set_option maxRecDepth 20000
set_option maxHeartbeats 4000000
namespace Go.Proofs.Ytoplagjjojlceaa
open Go Go.J
attribute [local irreducible] At AtQ AtM AtM1 PR Ct Pu Rd Res.blk Res.own Res.ex RVs RV
namespace Cell
open Ev Wide
set_option maxHeartbeats 2000000 in
theorem rof {m : Mem} (p : Option Addr) (c : Nat) (l : List Ev) (hl : l.length ≤ 1000000) (hV : ∀ e ∈ l, e.V < 18446744073709551616) (sl0 : Sl m Ev.cells 4 p c l) :
    Ct Try.prog 34 #[.slice p l.length c] m [] (fun v m' B => v = .tuple #[(ofL l).1.v, .int .i64 (ofL l).2] ∧ m = m' ∧ B = []) := by
  refine Ct.enterV (by rfl) Try.func34 rfl Try.ntmps34 rfl (fun w0 Rest => ?_)
  (repeat' (first | refine zss ?_ | refine zsM ?_ | ((with_reducible apply At.alloc (d := 2)); exact rfl; exact rfl; intro b2) | ((with_reducible apply At.alloc (d := 5)); exact rfl; exact rfl; intro b5) | ((with_reducible apply At.alloc (d := 6)); exact rfl; exact rfl; intro b6) | ((with_reducible apply At.alloc (d := 8)); exact rfl; exact rfl; intro b8) | ((with_reducible apply At.alloc (d := 9)); exact rfl; exact rfl; intro b9) | (refine zsp ?_ ?_ <;> (intro hc; (try simp only [zhcs, reduceCtorEq] at hc); (try (exfalso; first | contradiction | omega | exact absurd rfl hc | exact absurd (by decide) hc))))))
  change At _ w0 _ m (Res.blk b2 47 (cells z) :: Rest) _
  (refine At.loopk (σ := Nat) [0, 2, 11, 12] (fun s F0 => (13, .int .i64 (s : Int)) :: F0) (fun s => m) (fun s => .blk b2 47 (cells z) :: Rest) (fun s => s ≤ l.length ∧ ∀ i, i < s → (l[i]!).ok) (fun s => l.length - s) 0 (by rfl) ?_ zsubs zml zente ?_)
  · exact ⟨Nat.zero_le _, fun i h => absurd h (Nat.not_lt_zero i)⟩
  rintro s ⟨hs, hn⟩
  by_cases h : s < l.length
  · have hk := Ev.rcheck (l[s]!)
    by_cases ho : (l[s]!).ok
    · rw [show (l[s]!).chk = 0 from if_pos ho] at hk
      have hnn : ∀ i, i < s + 1 → (l[i]!).ok := fun i hi => by
        by_cases e : i = s
        · subst e; exact ho
        · exact hn i (by omega)
      (repeat' (first | refine zss ?_ | refine zsM ?_ | ((with_reducible first | apply AtM1.callp | apply AtQ.callp | apply At.callp); kernel_rfl; exact rfl; exact rfl; exact hk) | ((with_reducible apply At.alloc (d := 2)); exact rfl; exact rfl; intro b2) | ((with_reducible apply At.alloc (d := 5)); exact rfl; exact rfl; intro b5) | ((with_reducible apply At.alloc (d := 6)); exact rfl; exact rfl; intro b6) | ((with_reducible apply At.alloc (d := 8)); exact rfl; exact rfl; intro b8) | ((with_reducible apply At.alloc (d := 9)); exact rfl; exact rfl; intro b9) | (refine zsp ?_ ?_ <;> (intro hc; (try simp only [zhcs, reduceCtorEq] at hc); (try (exfalso; first | omega | contradiction | omega | exact absurd rfl hc | exact absurd (by decide) hc))))))
      all_goals ((with_reducible refine At.reachk ((s + 1)) ?_ ?_ ?_ ?_); exact zsubs; exact zml; exact zente; exact ⟨⟨h, hnn⟩, by omega⟩)
    · rw [show (l[s]!).chk = 2 from if_neg ho] at hk
      rw [of_bad h ho]
      (repeat' (first | refine zss ?_ | refine zsM ?_ | ((with_reducible first | apply AtM1.callp | apply AtQ.callp | apply At.callp); kernel_rfl; exact rfl; exact rfl; exact hk) | ((with_reducible apply At.alloc (d := 2)); exact rfl; exact rfl; intro b2) | ((with_reducible apply At.alloc (d := 5)); exact rfl; exact rfl; intro b5) | ((with_reducible apply At.alloc (d := 6)); exact rfl; exact rfl; intro b6) | ((with_reducible apply At.alloc (d := 8)); exact rfl; exact rfl; intro b8) | ((with_reducible apply At.alloc (d := 9)); exact rfl; exact rfl; intro b9) | (refine zsp ?_ ?_ <;> (intro hc; (try simp only [zhcs, reduceCtorEq] at hc); (try (exfalso; first | omega | contradiction | omega | exact absurd rfl hc | exact absurd (by decide) hc))))))
      all_goals ((with_reducible apply At.retV (B := [])); exact rfl; (repeat' (first | exact RVs.nil | (with_reducible apply RVs.cons) | exact rv_tmp (by rfl) | exact rv_cellN (by rfl) (by repeat constructor) (by rfl) (by rfl) (by rfl) | exact rv_cell1 (by rfl) (by repeat constructor) (by rfl) (by rfl))); exact zml; exact zkp; exact ⟨rfl, rfl, rfl⟩)
  · have ok : Mrg.aok l := fun i hi => hn i (by omega)
    (repeat' (first | refine zss ?_ | refine zsM ?_ | ((with_reducible apply At.alloc (d := 2)); exact rfl; exact rfl; intro b2) | ((with_reducible apply At.alloc (d := 5)); exact rfl; exact rfl; intro b5) | ((with_reducible apply At.alloc (d := 6)); exact rfl; exact rfl; intro b6) | ((with_reducible apply At.alloc (d := 8)); exact rfl; exact rfl; intro b8) | ((with_reducible apply At.alloc (d := 9)); exact rfl; exact rfl; intro b9) | (refine zsp ?_ ?_ <;> (intro hc; (try simp only [zhcs, reduceCtorEq] at hc); (try (exfalso; first | omega | contradiction | omega | exact absurd rfl hc | exact absurd (by decide) hc))))))
    change At _ w0 _ m (Res.blk b6 47 (cells z) :: Res.blk b2 47 (cells z) :: Rest) _
    (refine At.loopk (σ := AS) [0, 2, 6, 22, 23] (fun s F0 => (24, .int .i64 (s.i : Int)) :: F0) (fun s => m) (fun s => .blk b6 47 (cells s.c) :: .blk b2 47 (cells z) :: Rest) (fun s => Upto l s.i s.c) (fun s => l.length - s.i) ⟨0, z⟩ (by rfl) ?_ zsubs zml zente ?_)
    · exact Upto.zero l
    rintro ⟨i, x⟩ hu
    dsimp only at hu ⊢
    have hle := hu.le
    by_cases hi : i < l.length
    · have hm : l[i]! ∈ l := by rw [getElem!_pos l i hi]; exact List.getElem_mem hi
      rcases i with _ | j
      · obtain ⟨u1, _⟩ := hu.next hi ok hV (.inl rfl)
        have hx : x = z := hu.eq
        have hx0 : x.n = 0 := by rw [hx]
        have ey : add x (l[0]!) = ⟨x.n + 1, l[0]!, l[0]!, x.I, x.R, x.G, x.X⟩ := by rw [hx]; rfl
        rw [ey] at u1
        (repeat' (first | ((with_reducible apply At.mixed (id := 15) 13 (.q 0 (.q 1 (.q 2 (.q 3 (.q 4 (.q 5 (.q 6 (.q 7 (.q 8 (.q 9 (.l 10 (.x 11 (.q 12 .done)))))))))))))); exact rfl; kernel_rfl; kernel_rfl; kernel_rfl) | refine zsx ?_ | refine zss ?_ | ((with_reducible apply AtM.bo); exact rfl; exact rfl; exact rfl) | refine zsM ?_ | refine zxM ?_ | ((with_reducible apply At.alloc (d := 2)); exact rfl; exact rfl; intro b2) | ((with_reducible apply At.alloc (d := 5)); exact rfl; exact rfl; intro b5) | ((with_reducible apply At.alloc (d := 6)); exact rfl; exact rfl; intro b6) | ((with_reducible apply At.alloc (d := 8)); exact rfl; exact rfl; intro b8) | ((with_reducible apply At.alloc (d := 9)); exact rfl; exact rfl; intro b9) | (refine zsp ?_ ?_ <;> (intro hc; (try simp only [zhcs, reduceCtorEq] at hc); (try (exfalso; first | omega | contradiction | omega | exact absurd rfl hc | exact absurd (by decide) hc))))))
        all_goals ((with_reducible refine At.reachk (⟨1, ⟨x.n + 1, l[0]!, l[0]!, x.I, x.R, x.G, x.X⟩⟩) ?_ ?_ ?_ ?_); exact zsubs; exact zml; exact zente; exact ⟨u1, by show l.length - 1 < l.length - 0; omega⟩)
      · have hj : j < l.length := by omega
        have hmj : l[j]! ∈ l := by rw [getElem!_pos l j hj]; exact List.getElem_mem hj
        have hw : IntKind.wrap .i64 (((j + 1 : Nat) : Int) - 1) = (j : Int) := by rw [show (((j + 1 : Nat) : Int) - 1) = (j : Int) by omega]; exact IntWalk.i64_in _ (by omega)
        by_cases ha : (l[j]!).T < (l[j + 1]!).T
        · obtain ⟨u1, _⟩ := hu.next hi ok hV (.inr ha)
          obtain ⟨fx, xL⟩ := hu.st.resolve_left (Nat.succ_ne_zero j)
          have xL' : x.L = l[j]! := xL
          have kb := Ev.rbetween (l[j]!) (l[j + 1]!) (hV _ hmj) (hV _ hm)
          obtain ⟨w, xR, xG, xRG, xX, xXL, xI⟩ := btw_bd (ok j hj) (ok (j + 1) hi) ha
          have ey : add x (l[j + 1]!) = ⟨x.n + 1, x.F, l[j + 1]!, x.I + (btw (l[j]!) (l[j + 1]!)).1.I, x.R + (btw (l[j]!) (l[j + 1]!)).1.R, x.G + (btw (l[j]!) (l[j + 1]!)).1.G, x.X + (btw (l[j]!) (l[j + 1]!)).1.X⟩ := by
            rw [show add x (l[j + 1]!) = join x (one (l[j + 1]!)) from if_neg fx.ne]
            unfold join
            rw [xL']
            refine ext rfl rfl rfl ?_ ?_ ?_ ?_
            · exact Nat.add_zero _
            · exact Int.add_zero _
            · exact Int.add_zero _
            · exact Int.add_zero _
          rw [ey] at u1
          rw [w] at kb
          have xb := fx.bd
          have x1 := fx.n
          have x2 := fx.R
          have x3 := fx.G
          have x4 := fx.X
          have ⟨p1, p2, _⟩ := ok j hj
          have ⟨p3, p4, _⟩ := ok (j + 1) hi
          have hv := hV _ hm
          obtain ⟨y, ey2⟩ : ∃ y, (btw (l[j]!) (l[j + 1]!)).1 = y := ⟨_, rfl⟩
          rw [ey2] at kb u1 xR xG xRG xX xXL xI
          have kadd := Wide.add_r x.I y.I (by omega) (by omega)
          obtain ⟨e2, e3⟩ := sV_small (x := x.I + y.I) (by omega)
          rw [e2, e3] at kadd
          obtain ⟨q, eq⟩ : ∃ q, x.I + y.I = q := ⟨_, rfl⟩
          rw [eq] at kadd u1
          (repeat' (first | ((with_reducible apply At.mixed (id := 15) 13 (.q 0 (.q 1 (.q 2 (.q 3 (.q 4 (.q 5 (.q 6 (.q 7 (.q 8 (.q 9 (.l 10 (.x 11 (.q 12 .done)))))))))))))); exact rfl; kernel_rfl; kernel_rfl; kernel_rfl) | refine zsx ?_ | refine zss ?_ | ((with_reducible apply AtM.bo); exact rfl; exact rfl; exact rfl) | ((first | (with_reducible first | apply At.val | apply AtQ.val) | ((with_reducible first | apply AtM1.valz | apply AtM1.val); exact rfl) | ((with_reducible apply AtM1.val); exact rfl)); (exact pr_sub (by rfl) (by rfl) hw); exact rfl) | refine zsM ?_ | refine zxM ?_ | ((with_reducible first | apply AtM1.callp | apply AtQ.callp | apply At.callp); kernel_rfl; exact rfl; exact rfl; exact kb) | ((with_reducible first | apply AtM1.callp | apply AtQ.callp | apply At.callp); kernel_rfl; exact rfl; exact rfl; exact kadd) | ((with_reducible apply At.alloc (d := 2)); exact rfl; exact rfl; intro b2) | ((with_reducible apply At.alloc (d := 5)); exact rfl; exact rfl; intro b5) | ((with_reducible apply At.alloc (d := 6)); exact rfl; exact rfl; intro b6) | ((with_reducible apply At.alloc (d := 8)); exact rfl; exact rfl; intro b8) | ((with_reducible apply At.alloc (d := 9)); exact rfl; exact rfl; intro b9) | (refine zsp ?_ ?_ <;> (intro hc; (try simp only [zhcs, reduceCtorEq] at hc); (try (exfalso; first | omega | contradiction | omega | exact absurd rfl hc | exact absurd (by decide) hc))))))
          all_goals ((with_reducible refine At.reachk (⟨j + 2, ⟨x.n + 1, x.F, l[j + 1]!, q, x.R + y.R, x.G + y.G, x.X + y.X⟩⟩) ?_ ?_ ?_ ?_); exact zsubs; exact zml; exact zente; exact ⟨u1, by show l.length - (j + 2) < l.length - (j + 1); omega⟩)
        · obtain ⟨_, u2⟩ := hu.bad hi ok (fun h => h.elim (fun h => Nat.succ_ne_zero j h) ha)
          rw [u2]
          (repeat' (first | ((with_reducible apply At.mixed (id := 15) 13 (.q 0 (.q 1 (.q 2 (.q 3 (.q 4 (.q 5 (.q 6 (.q 7 (.q 8 (.q 9 (.l 10 (.x 11 (.q 12 .done)))))))))))))); exact rfl; kernel_rfl; kernel_rfl; kernel_rfl) | refine zsx ?_ | refine zss ?_ | ((with_reducible apply AtM.bo); exact rfl; exact rfl; exact rfl) | ((first | (with_reducible first | apply At.val | apply AtQ.val) | ((with_reducible first | apply AtM1.valz | apply AtM1.val); exact rfl) | ((with_reducible apply AtM1.val); exact rfl)); (exact pr_sub (by rfl) (by rfl) hw); exact rfl) | refine zsM ?_ | refine zxM ?_ | ((with_reducible apply At.alloc (d := 2)); exact rfl; exact rfl; intro b2) | ((with_reducible apply At.alloc (d := 5)); exact rfl; exact rfl; intro b5) | ((with_reducible apply At.alloc (d := 6)); exact rfl; exact rfl; intro b6) | ((with_reducible apply At.alloc (d := 8)); exact rfl; exact rfl; intro b8) | ((with_reducible apply At.alloc (d := 9)); exact rfl; exact rfl; intro b9) | (refine zsp ?_ ?_ <;> (intro hc; (try simp only [zhcs, reduceCtorEq] at hc); (try (exfalso; first | omega | contradiction | omega | exact absurd rfl hc | exact absurd (by decide) hc))))))
          all_goals ((with_reducible apply At.retV (B := [])); exact rfl; (repeat' (first | exact RVs.nil | (with_reducible apply RVs.cons) | exact rv_tmp (by rfl) | exact rv_cellN (by rfl) (by repeat constructor) (by rfl) (by rfl) (by rfl) | exact rv_cell1 (by rfl) (by repeat constructor) (by rfl) (by rfl))); exact zml; exact zkp; exact ⟨rfl, rfl, rfl⟩)
    · have ei : i = l.length := by omega
      subst ei
      rw [hu.done ok]
      (repeat' (first | refine zss ?_ | refine zsM ?_ | ((with_reducible apply At.alloc (d := 2)); exact rfl; exact rfl; intro b2) | ((with_reducible apply At.alloc (d := 5)); exact rfl; exact rfl; intro b5) | ((with_reducible apply At.alloc (d := 6)); exact rfl; exact rfl; intro b6) | ((with_reducible apply At.alloc (d := 8)); exact rfl; exact rfl; intro b8) | ((with_reducible apply At.alloc (d := 9)); exact rfl; exact rfl; intro b9) | (refine zsp ?_ ?_ <;> (intro hc; (try simp only [zhcs, reduceCtorEq] at hc); (try (exfalso; first | omega | contradiction | omega | exact absurd rfl hc | exact absurd (by decide) hc))))))
      all_goals ((with_reducible apply At.retV (B := [])); exact rfl; (repeat' (first | exact RVs.nil | (with_reducible apply RVs.cons) | exact rv_tmp (by rfl) | exact rv_cellN (by rfl) (by repeat constructor) (by rfl) (by rfl) (by rfl) | exact rv_cell1 (by rfl) (by repeat constructor) (by rfl) (by rfl))); exact zml; exact zkp; exact ⟨rfl, rfl, rfl⟩)
theorem of_one {e : Ev} : ofL [e] = if e.ok then (one e, 0) else (z, 2) := by
  have ha : Mrg.asc [e] := fun i hi => absurd hi (Nat.not_lt_zero i)
  by_cases h : e.ok
  · have ok : Mrg.aok [e] := fun i hi => by
      obtain rfl : i = 0 := by simp at hi; omega
      exact h
    rw [if_pos h]
    unfold ofL
    rw [show Mrg.chk [e] = 0 by unfold Mrg.chk; rw [if_pos ok, if_pos ha], if_neg (fun h => h rfl)]
    rfl
  · rw [if_neg h]
    exact of_bad (i := 0) (by simp) h
end Cell
end Go.Proofs.Ytoplagjjojlceaa

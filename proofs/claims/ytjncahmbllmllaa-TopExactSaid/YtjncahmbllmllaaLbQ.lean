/- The contracts of labels: Check, Value, Same, Small; the document's. -/
import Derived.Test.YtjncahmbllmllaaLb
import Derived.Test.YtjncahmbllmllaaJT
set_option linter.unusedSimpArgs false
set_option linter.unusedVariables false
set_option linter.unusedSectionVars false
set_option maxRecDepth 20000
set_option maxHeartbeats 4000000
namespace Go.Proofs.Ytjncahmbllmllaa
open Go Go.J
attribute [local irreducible] At AtQ AtM AtM1 PR Ct Pu Rd Res.blk Res.own Res.ex RVs RV
namespace Lb
/-- texts no longer than any can be -/
def Mid (l : List Lab) : Prop := ∀ i, i < l.length → l[i]!.n.length ≤ 1000000000000 ∧ l[i]!.v.length ≤ 1000000000000
theorem check {m : Mem} (p : Option Addr) (c : Nat) (l : List Lab) (hb : Mid l) (sl0 : Sl m cells 2 p c l) :
    Rd Try.prog 7 #[.slice p l.length c] m [] (.int .i64 (chk l)) := by
  unfold Rd
  by_cases hlen : l.length < 1 ∨ 16 < l.length
  · rw [bad_len hlen]
    refine Ct.enterV (by rfl) Try.func7 rfl Try.ntmps7 rfl (fun w0 Rest => ?_)
    (repeat' (first | refine zss ?_ | refine zsM ?_ | ((with_reducible apply At.alloc (d := 5)); exact rfl; exact rfl; intro b5) | (refine zsp ?_ ?_ <;> (intro hc; (try simp only [zhcs, reduceCtorEq] at hc); (try (exfalso; first | omega | contradiction | omega | exact absurd rfl hc | exact absurd (by decide) hc))))))
    all_goals ((with_reducible apply At.retB1 (B := [])); exact rfl; exact rfl; exact zml; exact zkp; exact ⟨rfl, rfl, rfl⟩)
  refine Ct.enterV (by rfl) Try.func7 rfl Try.ntmps7 rfl (fun w0 Rest => ?_)
  (repeat' (first | refine zss ?_ | refine zsM ?_ | ((with_reducible apply At.alloc (d := 5)); exact rfl; exact rfl; intro b5) | (refine zsp ?_ ?_ <;> (intro hc; (try simp only [zhcs, reduceCtorEq] at hc); (try (exfalso; first | omega | contradiction | omega | exact absurd rfl hc | exact absurd (by decide) hc))))))
  all_goals
    (refine At.loopk (σ := Nat) [0, 14, 15] (fun s F0 => (3, .int .i64 (256 - (tot (l.take s) : Int))) :: (16, .int .i64 (s : Int)) :: F0) (fun s => m) (fun s => Rest) (fun s => s ≤ l.length ∧ (∀ i, i < s → okAt l i = true) ∧ tot (l.take s) ≤ 256) (fun s => l.length - s) 0 (by rfl) ?_ zsubs zml zente ?_)
    · exact ⟨Nat.zero_le _, fun i h => absurd h (Nat.not_lt_zero i), by simp [tot]⟩
    rintro j ⟨hj, hn, ht⟩
    by_cases h : j < l.length
    · have hp := name (l[j]!.n)
      have hb1 := (hb j h).1
      have hb2 := (hb j h).2
      have htt := tot_take h
      cases e1 : nameB l[j]!.n with
      | false =>
        rw [e1] at hp
        rw [bad_at h fun k => absurd (k.1.symm.trans e1) (by decide)]
        (repeat' (first | refine zss ?_ | refine zsM ?_ | ((with_reducible first | apply AtM1.callp | apply AtQ.callp | apply At.callp); kernel_rfl; exact rfl; exact rfl; exact hp) | ((with_reducible apply At.alloc (d := 5)); exact rfl; exact rfl; intro b5) | (refine zsp ?_ ?_ <;> (intro hc; (try simp only [zhcs, reduceCtorEq] at hc); (try (exfalso; first | omega | contradiction | omega | exact absurd rfl hc | exact absurd (by decide) hc))))))
        all_goals ((with_reducible apply At.retB1 (B := [])); exact rfl; exact rfl; exact zml; exact zkp; exact ⟨rfl, rfl, rfl⟩)
      | true =>
        rw [e1] at hp
        by_cases e2 : l[j]!.v.length ≤ 128
        · by_cases e3 : tot (l.take (j + 1)) ≤ 256
          · cases j with
            | zero =>
              (repeat' (first | refine zss ?_ | refine zsM ?_ | ((with_reducible first | apply AtM1.callp | apply AtQ.callp | apply At.callp); kernel_rfl; exact rfl; exact rfl; exact hp) | ((with_reducible apply At.alloc (d := 5)); exact rfl; exact rfl; intro b5) | (refine zsp ?_ ?_ <;> (intro hc; (try simp only [zhcs, reduceCtorEq] at hc); (try (exfalso; first | omega | contradiction | omega | exact absurd rfl hc | exact absurd (by decide) hc))))))
              all_goals ((with_reducible refine At.reachk ((0 + 1)) ?_ ?_ ?_ ?_); exact zsubs; exact zml; exact zente; exact ⟨⟨h, fun i hi => by
                obtain rfl : i = 0 := by omega
                exact decide_eq_true ⟨e1, e2, fun k => absurd k (Nat.lt_irrefl 0)⟩, e3⟩, by omega⟩)
            | succ k =>
              have hw : IntKind.wrap .i64 (((k + 1 : Nat) : Int) - 1) = (k : Int) := by rw [show ((k + 1 : Nat) : Int) - 1 = (k : Int) by omega]; exact IntWalk.i64_in _ (by omega)
              cases e4 : ltB l[k]!.n l[k + 1]!.n with
              | true =>
                (repeat' (first | refine zss ?_ | ((first | (with_reducible first | apply At.val | apply AtQ.val)); (first | exact pr_sub (by rfl) (by rfl) hw | exact pr_strgeq (by rfl) (by rfl) e4); exact rfl) | refine zsM ?_ | ((with_reducible first | apply AtM1.callp | apply AtQ.callp | apply At.callp); kernel_rfl; exact rfl; exact rfl; exact hp) | ((with_reducible apply At.alloc (d := 5)); exact rfl; exact rfl; intro b5) | (refine zsp ?_ ?_ <;> (intro hc; (try simp only [zhcs, reduceCtorEq] at hc); (try (exfalso; first | omega | contradiction | omega | exact absurd rfl hc | exact absurd (by decide) hc))))))
                all_goals ((with_reducible refine At.reachk ((k + 1 + 1)) ?_ ?_ ?_ ?_); exact zsubs; exact zml; exact zente; exact ⟨⟨h, fun i hi => by
                  by_cases e : i = k + 1
                  · subst e; exact decide_eq_true ⟨e1, e2, fun _ => e4⟩
                  · exact hn i (by omega), e3⟩, by omega⟩)
              | false =>
                rw [bad_at h fun q => absurd ((q.2.2 (by omega)).symm.trans e4) (by decide)]
                (repeat' (first | refine zss ?_ | ((first | (with_reducible first | apply At.val | apply AtQ.val)); (first | exact pr_sub (by rfl) (by rfl) hw | exact pr_strgeq (by rfl) (by rfl) e4); exact rfl) | refine zsM ?_ | ((with_reducible first | apply AtM1.callp | apply AtQ.callp | apply At.callp); kernel_rfl; exact rfl; exact rfl; exact hp) | ((with_reducible apply At.alloc (d := 5)); exact rfl; exact rfl; intro b5) | (refine zsp ?_ ?_ <;> (intro hc; (try simp only [zhcs, reduceCtorEq] at hc); (try (exfalso; first | omega | contradiction | omega | exact absurd rfl hc | exact absurd (by decide) hc))))))
                all_goals ((with_reducible apply At.retB1 (B := [])); exact rfl; exact rfl; exact zml; exact zkp; exact ⟨rfl, rfl, rfl⟩)
          · rw [bad_tot (show 256 < tot (l.take (j + 1)) by omega)]
            (repeat' (first | refine zss ?_ | refine zsM ?_ | ((with_reducible first | apply AtM1.callp | apply AtQ.callp | apply At.callp); kernel_rfl; exact rfl; exact rfl; exact hp) | ((with_reducible apply At.alloc (d := 5)); exact rfl; exact rfl; intro b5) | (refine zsp ?_ ?_ <;> (intro hc; (try simp only [zhcs, reduceCtorEq] at hc); (try (exfalso; first | omega | contradiction | omega | exact absurd rfl hc | exact absurd (by decide) hc))))))
            all_goals ((with_reducible apply At.retB1 (B := [])); exact rfl; exact rfl; exact zml; exact zkp; exact ⟨rfl, rfl, rfl⟩)
        · rw [bad_at h fun k => e2 k.2.1]
          (repeat' (first | refine zss ?_ | refine zsM ?_ | ((with_reducible first | apply AtM1.callp | apply AtQ.callp | apply At.callp); kernel_rfl; exact rfl; exact rfl; exact hp) | ((with_reducible apply At.alloc (d := 5)); exact rfl; exact rfl; intro b5) | (refine zsp ?_ ?_ <;> (intro hc; (try simp only [zhcs, reduceCtorEq] at hc); (try (exfalso; first | omega | contradiction | omega | exact absurd rfl hc | exact absurd (by decide) hc))))))
          all_goals ((with_reducible apply At.retB1 (B := [])); exact rfl; exact rfl; exact zml; exact zkp; exact ⟨rfl, rfl, rfl⟩)
    · have hlj : l.take j = l := List.take_of_length_le (by omega)
      rw [chk_ok ⟨by omega, by omega, fun i hi => hn i (by omega), by rw [← hlj]; exact ht⟩]
      (repeat' (first | refine zss ?_ | refine zsM ?_ | ((with_reducible apply At.alloc (d := 5)); exact rfl; exact rfl; intro b5) | (refine zsp ?_ ?_ <;> (intro hc; (try simp only [zhcs, reduceCtorEq] at hc); (try (exfalso; first | omega | contradiction | omega | exact absurd rfl hc | exact absurd (by decide) hc))))))
      all_goals ((with_reducible apply At.retB1 (B := [])); exact rfl; exact rfl; exact zml; exact zkp; exact ⟨rfl, rfl, rfl⟩)
abbrev pt (b : Nat) : Value := .pointer (some ⟨b, 0, none⟩)
abbrev bx (b : Nat) (t : List UInt8) : List Res := [.blk b 9 [.string (str t)]]
theorem val1 {m : Mem} (b : Nat) (x : Lab) (t : List UInt8) (w : Bool) (h : decide (x.n = t) = w) : Ct Try.prog 21 #[x.val, pt b] m (bx b t) (fun v m' B => v = .bool w ∧ m = m' ∧ B = bx b t) := by
  subst h
  refine Ct.enterV (by rfl) Try.func21 rfl Try.ntmps21 rfl (fun w0 Rest => ?_)
  (repeat' (first | refine zss ?_ | refine zs0 ?_ | ((with_reducible apply At.box (d := 2)); exact rfl; exact rfl; exact rfl; intro b2) | (refine zsp ?_ ?_ <;> (intro hc; (try simp only [zhcs, reduceCtorEq] at hc); (try (exfalso; first | contradiction | omega | exact absurd rfl hc | exact absurd (by decide) hc))))))
  all_goals ((with_reducible apply At.retB1 (B := bx b t)); exact rfl; exact rfl; exact zml; exact zkp; exact ⟨congrArg Value.bool (by simp [str_inj]), rfl, rfl⟩)
theorem indexV {m : Mem} (b : Nat) (p : Option Addr) (c : Nat) (l : List Lab) (t : List UInt8) (hl : l.length ≤ 1000000000) (sl0 : Sl m cells 2 p c l) :
    Ct Try.prog 20 #[.slice p l.length c, .func (.func 21) #[] #[pt b]] m (bx b t) (fun v m' B => m = m' ∧ B = bx b t ∧
      ((v = .int .i64 (-1) ∧ ∀ i, i < l.length → l[i]!.n ≠ t) ∨ (∃ k : Nat, v = .int .i64 (k : Int) ∧ k < l.length ∧ l[k]!.n = t ∧ ∀ i, i < k → l[i]!.n ≠ t))) := by
  refine Ct.enterV (by rfl) Try.func20 rfl Try.ntmps20 rfl (fun w0 Rest => ?_)
  (repeat' (first | refine zss ?_ | refine zsM ?_ | (refine zsp ?_ ?_ <;> (intro hc; (try simp only [zhcs, reduceCtorEq] at hc); (try (exfalso; first | contradiction | omega | exact absurd rfl hc | exact absurd (by decide) hc))))))
  (refine At.loopk (σ := Nat) [0, 1, 7] (fun s F0 => (8, .int .i64 (s : Int)) :: F0) (fun s => m) (fun s => .blk b 9 [.string (str t)] :: Rest) (fun s => s ≤ l.length ∧ ∀ i, i < s → l[i]!.n ≠ t) (fun s => l.length - s) 0 (by rfl) ?_ zsubs zml zente ?_)
  · exact ⟨Nat.zero_le _, fun i h => absurd h (Nat.not_lt_zero i)⟩
  rintro j ⟨hs, hn⟩
  by_cases h : j < l.length
  · by_cases e : l[j]!.n = t
    · (repeat' (first | refine zss ?_ | refine zsM ?_ | ((with_reducible apply At.callf); exact rfl; kernel_rfl; exact rfl; exact rfl; exact val1 b (l[j]!) t true (decide_eq_true e); exact ztk; rintro v' m' B' hm' ⟨rfl, rfl, rfl⟩; (try replace sl0 := sl0.mono hm')) | (refine zsp ?_ ?_ <;> (intro hc; (try simp only [zhcs, reduceCtorEq] at hc); (try (exfalso; first | omega | contradiction | omega | exact absurd rfl hc | exact absurd (by decide) hc))))))
      all_goals ((with_reducible apply At.retB1 (B := bx b t)); exact rfl; exact rfl; exact zml; exact zkp; exact ⟨rfl, rfl, .inr ⟨j, rfl, h, e, hn⟩⟩)
    · have hnn : ∀ i, i < j + 1 → l[i]!.n ≠ t := fun i hi => by
        by_cases e1 : i = j
        · subst e1; exact e
        · exact hn i (by omega)
      (repeat' (first | refine zss ?_ | refine zsM ?_ | ((with_reducible apply At.callf); exact rfl; kernel_rfl; exact rfl; exact rfl; exact val1 b (l[j]!) t false (decide_eq_false e); exact ztk; rintro v' m' B' hm' ⟨rfl, rfl, rfl⟩; (try replace sl0 := sl0.mono hm')) | (refine zsp ?_ ?_ <;> (intro hc; (try simp only [zhcs, reduceCtorEq] at hc); (try (exfalso; first | omega | contradiction | omega | exact absurd rfl hc | exact absurd (by decide) hc))))))
      all_goals ((with_reducible refine At.reachk ((j + 1)) ?_ ?_ ?_ ?_); exact zsubs; exact zml; exact zente; exact ⟨⟨h, hnn⟩, by omega⟩)
  · (repeat' (first | refine zss ?_ | refine zsM ?_ | (refine zsp ?_ ?_ <;> (intro hc; (try simp only [zhcs, reduceCtorEq] at hc); (try (exfalso; first | omega | contradiction | omega | exact absurd rfl hc | exact absurd (by decide) hc))))))
    all_goals ((with_reducible apply At.retB1 (B := bx b t)); exact rfl; exact rfl; exact zml; exact zkp; exact ⟨rfl, rfl, .inl ⟨rfl, fun i hi => hn i (by omega)⟩⟩)
theorem value {m : Mem} (p : Option Addr) (c : Nat) (l : List Lab) (t : List UInt8) (hl : l.length ≤ 1000000000) (sl0 : Sl m cells 2 p c l) :
    Rd Try.prog 8 #[.slice p l.length c, .string (str t)] m [] (.string (str (val l t))) := by
  unfold Rd
  refine Ct.enterV (by rfl) Try.func8 rfl Try.ntmps8 rfl (fun w0 Rest => ?_)
  (repeat' (first | refine zss ?_ | refine zsM ?_ | ((with_reducible first | apply At.c1 | apply At.c0); exact rfl; exact rfl; exact indexV _ p c l t hl sl0; exact ztk; kernel_rfl; rintro v' m' B' hm' ⟨rfl, rfl, hv⟩; (try replace sl0 := sl0.mono hm'); (try (have hq0 : hm' = Mem.le_refl _ := rfl; clear hq0 hm'))) | (rcases hv with ⟨rfl, hn⟩ | ⟨k, rfl, hk, he, hn⟩) | ((with_reducible apply At.box (d := 3)); exact rfl; exact rfl; exact rfl; intro b3) | (refine zsp ?_ ?_ <;> (intro hc; (try simp only [zhcs, reduceCtorEq] at hc); (try (exfalso; first | omega | contradiction | omega | exact absurd rfl hc | exact absurd (by decide) hc))))))
  · rw [val_none hn]
    ((with_reducible apply At.retB1 (B := [])); exact rfl; exact rfl; exact zml; exact zkp; exact ⟨rfl, rfl, rfl⟩)
  · rw [val_at hk he hn]
    ((with_reducible apply At.retB1 (B := [])); exact rfl; exact rfl; exact zml; exact zkp; exact ⟨rfl, rfl, rfl⟩)
theorem small {m : Mem} (p : Option Addr) (c : Nat) (l : List Lab) (sl0 : Sl m cells 2 p c l) :
    Rd Try.prog 6 #[.slice p l.length c] m [] (.int .i64 (if few l then 1 else 0)) := by
  unfold Rd
  refine Ct.enterV (by rfl) Try.func6 rfl Try.ntmps6 rfl (fun w0 Rest => ?_)
  (repeat' (first | refine zss ?_ | refine zsM ?_ | ((with_reducible apply At.alloc (d := 4)); exact rfl; exact rfl; intro b4) | (refine zsp ?_ ?_ <;> (intro hc; (try simp only [zhcs, reduceCtorEq] at hc); (try (exfalso; first | contradiction | omega | exact absurd rfl hc | exact absurd (by decide) hc))))))
  (refine At.loopk (σ := Nat) [5, 6] (fun s F0 => (7, .int .i64 (s : Int)) :: F0) (fun s => m) (fun s => Rest) (fun s => s ≤ l.length ∧ s ≤ 40 ∧ ∀ i, i < s → l[i]!.n.length ≤ 1000 ∧ l[i]!.v.length ≤ 1000) (fun s => l.length - s) 0 (by rfl) ?_ zsubs zml zente ?_)
  · exact ⟨Nat.zero_le _, Nat.zero_le _, fun i h => absurd h (Nat.not_lt_zero i)⟩
  rintro j ⟨hj, h40, hn⟩
  by_cases h : j < l.length
  · by_cases e0 : j = 40
    · rw [if_neg (show ¬ few l from fun k => by have := k.1; omega)]
      (repeat' (first | refine zss ?_ | refine zsM ?_ | ((with_reducible apply At.alloc (d := 4)); exact rfl; exact rfl; intro b4) | (refine zsp ?_ ?_ <;> (intro hc; (try simp only [zhcs, reduceCtorEq] at hc); (try (exfalso; first | omega | contradiction | omega | exact absurd rfl hc | exact absurd (by decide) hc))))))
      all_goals ((with_reducible apply At.retB1 (B := [])); exact rfl; exact rfl; exact zml; exact zkp; exact ⟨rfl, rfl, rfl⟩)
    by_cases e : l[j]!.n.length ≤ 1000 ∧ l[j]!.v.length ≤ 1000
    · (repeat' (first | refine zss ?_ | refine zsM ?_ | ((with_reducible apply At.alloc (d := 4)); exact rfl; exact rfl; intro b4) | (refine zsp ?_ ?_ <;> (intro hc; (try simp only [zhcs, reduceCtorEq] at hc); (try (exfalso; first | omega | contradiction | omega | exact absurd rfl hc | exact absurd (by decide) hc))))))
      all_goals ((with_reducible refine At.reachk ((j + 1)) ?_ ?_ ?_ ?_); exact zsubs; exact zml; exact zente; exact ⟨⟨h, by omega, fun i hi => by
        by_cases e1 : i = j
        · subst e1; exact e
        · exact hn i (by omega)⟩, by omega⟩)
    · rw [if_neg (show ¬ few l from fun k => e (k.2 j h))]
      (repeat' (first | refine zss ?_ | refine zsM ?_ | ((with_reducible apply At.alloc (d := 4)); exact rfl; exact rfl; intro b4) | (refine zsp ?_ ?_ <;> (intro hc; (try simp only [zhcs, reduceCtorEq] at hc); (try (exfalso; first | omega | contradiction | omega | exact absurd rfl hc | exact absurd (by decide) hc))))))
      all_goals ((with_reducible apply At.retB1 (B := [])); exact rfl; exact rfl; exact zml; exact zkp; exact ⟨rfl, rfl, rfl⟩)
  · rw [if_pos (show few l from ⟨by omega, fun i hi => hn i (by omega)⟩)]
    (repeat' (first | refine zss ?_ | refine zsM ?_ | ((with_reducible apply At.alloc (d := 4)); exact rfl; exact rfl; intro b4) | (refine zsp ?_ ?_ <;> (intro hc; (try simp only [zhcs, reduceCtorEq] at hc); (try (exfalso; first | omega | contradiction | omega | exact absurd rfl hc | exact absurd (by decide) hc))))))
    all_goals ((with_reducible apply At.retB1 (B := [])); exact rfl; exact rfl; exact zml; exact zkp; exact ⟨rfl, rfl, rfl⟩)
theorem Mid.of {l : List Lab} (h : ∀ x ∈ l, x.n.length ≤ 1000000000000 ∧ x.v.length ≤ 1000000000000) : Mid l := fun i hi => h _ (Ls.mem! hi)
theorem few.mid {l : List Lab} (h : few l) : Mid l := fun i hi => by have := h.2 i hi; omega
end Lb
end Go.Proofs.Ytjncahmbllmllaa

/- Part 7 of what the law's proof needs: rules of the walk, contracts of functions, plain laws. No condition. -/
import Derived.Test.YtmnlmmbfjfgfeaaDoorQu4Z6
/- Quantiles: Check, open, Sort of quant. -/
set_option linter.unusedSimpArgs false
set_option linter.unusedVariables false
set_option linter.unusedSectionVars false
set_option maxRecDepth 20000
set_option maxHeartbeats 4000000
namespace Go.Proofs.YtmnlmmbfjfgfeaaDoor
open Go Go.J
attribute [local irreducible] At AtQ AtM AtM1 PR Ct Pu Rd Res.blk Res.own Res.ex RVs RV
namespace Qu
open Wide
def In (x : Nat) : Prop := x < 340282366920938463463374607431768211456
abbrev fd (p : Nat × Nat) : List Value := wd p.1 ++ wd p.2
abbrev fv (p : Nat × Nat) : Value := .agg (fd p).toArray
def In2 (p : Nat × Nat) : Prop := In p.1 ∧ In p.2
instance : Fl fd 4 := ⟨fun _ => rfl, fun x v h => by simp at h; rcases h with rfl | rfl | rfl | rfl <;> rfl, by decide⟩
def bad (p : Nat × Nat) : Bool := decide (Ra.chk p.1 p.2 ≠ 0)
def big (p : Nat × Nat) : Bool := decide (18446744073709551616 ≤ p.1 ∨ 18446744073709551616 ≤ p.2)
def chkL (l : List (Nat × Nat)) : Int := if l.any bad = true then 2 else if l.any big = true then 1 else 0
theorem chk_two {a b : Nat} (h : Ra.chk a b ≠ 0) : Ra.chk a b = 2 := by
  unfold Ra.chk at h ⊢
  split
  · rfl
  · rename_i k
    rw [if_neg k] at h
    exact absurd rfl h
theorem chk_sm {p : Nat × Nat} (h1 : bad p = false) (h2 : big p = false) : Sm p := by
  have h1 := of_decide_eq_false h1
  have h2 := of_decide_eq_false h2
  have h3 : Ra.chk p.1 p.2 = 0 := Classical.byContradiction fun e => h1 e
  unfold Ra.chk at h3
  by_cases k : p.2 = 0 ∨ Nat.gcd p.1 p.2 ≠ 1
  · rw [if_pos k] at h3; exact absurd h3 (by decide)
  · exact ⟨by omega, by omega, by omega, Classical.byContradiction fun e => k (.inr e)⟩
theorem sm_chk {p : Nat × Nat} (h : Sm p) : bad p = false ∧ big p = false := by
  have h3 : Ra.chk p.1 p.2 = 0 := if_neg (by rintro (k | k); have := h.2.2.1; omega; exact k h.2.2.2)
  exact ⟨decide_eq_false (fun e => e h3), decide_eq_false (by have := h.1; have := h.2.1; omega)⟩
theorem chkL_ok {l : List (Nat × Nat)} (h : chkL l = 0) : ∀ p ∈ l, Sm p := by
  unfold chkL at h
  by_cases h1 : l.any bad = true
  · rw [if_pos h1] at h; exact absurd h (by decide)
  · rw [if_neg h1] at h
    by_cases h2 : l.any big = true
    · rw [if_pos h2] at h; exact absurd h (by decide)
    · intro p hp
      rw [Bool.not_eq_true, List.any_eq_false] at h1 h2
      exact chk_sm (Bool.not_eq_true _ ▸ h1 p hp) (Bool.not_eq_true _ ▸ h2 p hp)
theorem ok_chkL {l : List (Nat × Nat)} (h : ∀ p ∈ l, Sm p) : chkL l = 0 := by
  unfold chkL
  rw [if_neg, if_neg]
  · rw [Bool.not_eq_true, List.any_eq_false]
    intro p hp
    rw [(sm_chk (h p hp)).2]
    decide
  · rw [Bool.not_eq_true, List.any_eq_false]
    intro p hp
    rw [(sm_chk (h p hp)).1]
    decide
theorem any_snoc {l : List (Nat × Nat)} {f : Nat × Nat → Bool} {i : Nat} (h : i < l.length) : (l.take (i + 1)).any f = ((l.take i).any f || f l[i]!) := by
  rw [Ls.take_snoc h, List.any_append, List.any_cons, List.any_nil, Bool.or_false]
theorem or_big {p : Nat × Nat} (h : In2 p) : ∃ r : Int, bits .or .u64 ((p.1 / 18446744073709551616 : Nat) : Int) ((p.2 / 18446744073709551616 : Nat) : Int) = r ∧ decide (0 < r) = big p := by
  obtain ⟨a, b⟩ := p
  obtain ⟨ha, hb⟩ := h
  unfold In at ha hb
  dsimp only at ha hb ⊢
  refine ⟨_, rfl, ?_⟩
  unfold big
  dsimp only
  by_cases h0 : a / 18446744073709551616 = 0 ∧ b / 18446744073709551616 = 0
  · rw [or_zero (by omega) (by omega), decide_eq_false (show ¬ (18446744073709551616 ≤ a ∨ 18446744073709551616 ≤ b) by omega)]
    rfl
  · have hne := or_ne (a := ((a / 18446744073709551616 : Nat) : Int)) (b := ((b / 18446744073709551616 : Nat) : Int)) (by omega) (by omega) (by omega)
    rw [decide_eq_true (show (18446744073709551616 ≤ a ∨ 18446744073709551616 ≤ b) by omega)]
    rw [u64_or _ _ (by omega) (by omega) (by omega) (by omega)] at hne ⊢
    exact decide_eq_true (by omega)
structure CK where
  (i : Nat) (g : Bool)
theorem check_ {m : Mem} (ht : Ra.TZ m) (p : Option Addr) (c : Nat) (l : List (Nat × Nat)) (hl : l.length ≤ 1000000) (hb : ∀ x ∈ l, In2 x) (sl0 : Sl m fd 4 p c l) :
    Rd Tryd.prog 16 #[.slice p l.length c] m [] (.int .i64 (chkL l)) := by
  unfold Rd
  refine Ct.enterV (by rfl) Tryd.func16 rfl Tryd.ntmps16 rfl (fun w0 Rest => ?_)
  (repeat' (first | refine zss ?_ | refine zsM ?_ | ((with_reducible apply At.alloc (d := 5)); exact rfl; exact rfl; intro b5) | (refine zsp ?_ ?_ <;> (intro hc; (try simp only [zhcs, reduceCtorEq] at hc); (try (exfalso; first | omega | contradiction | omega | exact absurd rfl hc | exact absurd (by decide) hc))))))
  (refine At.loopk (σ := CK) [7, 8] (fun s F0 => (9, .int .i64 (s.i : Int)) :: (3, .bool s.g) :: F0) (fun s => m) (fun s => Rest) (fun s => s.i ≤ l.length ∧ (l.take s.i).any bad = false ∧ s.g = (l.take s.i).any big) (fun s => l.length - s.i) ⟨0, false⟩ (by rfl) ?_ zsubs zml zente ?_)
  · exact ⟨Nat.zero_le _, rfl, rfl⟩
  rintro ⟨i, g⟩ ⟨hi, h1, h2⟩
  dsimp only at hi h1 h2 ⊢
  by_cases h : i < l.length
  · have hx : In2 l[i]! := hb _ (Ls.mem! h)
    have k1 := fun (m' : Mem) (hm' : m.le m') => Ra.check (m := m') (ht.mono hm') l[i]!.1 l[i]!.2 hx.1 hx.2
    have e1 := any_snoc (f := bad) h
    have e2 := any_snoc (f := big) h
    by_cases hk : Ra.chk l[i]!.1 l[i]!.2 = 0
    · rw [hk] at k1
      rw [h1, show bad l[i]! = false from decide_eq_false (fun e => e hk), Bool.or_false] at e1
      obtain ⟨r, hr, hrb⟩ := or_big hx
      rw [← h2, ← hrb] at e2
      cases g
      · (repeat' (first | refine zss ?_ | ((first | (with_reducible first | apply At.val | apply AtQ.val)); (exact pr_or (by rfl) (by rfl) hr); exact rfl) | refine zsM ?_ | ((with_reducible first | apply AtM1.cr | apply AtQ.cr | apply At.cr); exact rfl; exact rfl; exact fun _ hmm => k1 _ hmm; exact ztk; kernel_rfl) | ((with_reducible apply At.alloc (d := 5)); exact rfl; exact rfl; intro b5) | (refine zsp ?_ ?_ <;> (intro hc; (try simp only [zhcs, reduceCtorEq] at hc); (try (exfalso; first | omega | contradiction | omega | exact absurd rfl hc | exact absurd (by decide) hc))))))
        all_goals ((with_reducible refine At.reachk (⟨i + 1, decide (0 < r)⟩) ?_ ?_ ?_ ?_); exact zsubs; exact zml; exact zente; exact ⟨⟨h, e1, by rw [e2, Bool.false_or]⟩, by dsimp only; omega⟩)
      · (repeat' (first | refine zss ?_ | refine zsM ?_ | ((with_reducible first | apply AtM1.cr | apply AtQ.cr | apply At.cr); exact rfl; exact rfl; exact fun _ hmm => k1 _ hmm; exact ztk; kernel_rfl) | ((with_reducible apply At.alloc (d := 5)); exact rfl; exact rfl; intro b5) | (refine zsp ?_ ?_ <;> (intro hc; (try simp only [zhcs, reduceCtorEq] at hc); (try (exfalso; first | omega | contradiction | omega | exact absurd rfl hc | exact absurd (by decide) hc))))))
        all_goals ((with_reducible refine At.reachk (⟨i + 1, true⟩) ?_ ?_ ?_ ?_); exact zsubs; exact zml; exact zente; exact ⟨⟨h, e1, by rw [e2, Bool.true_or]⟩, by dsimp only; omega⟩)
    · rw [chk_two hk] at k1
      have e3 : chkL l = 2 := if_pos (List.any_eq_true.2 ⟨_, Ls.mem! h, decide_eq_true hk⟩)
      rw [e3]
      (repeat' (first | refine zss ?_ | refine zsM ?_ | ((with_reducible first | apply AtM1.cr | apply AtQ.cr | apply At.cr); exact rfl; exact rfl; exact fun _ hmm => k1 _ hmm; exact ztk; kernel_rfl) | ((with_reducible apply At.alloc (d := 5)); exact rfl; exact rfl; intro b5) | (refine zsp ?_ ?_ <;> (intro hc; (try simp only [zhcs, reduceCtorEq] at hc); (try (exfalso; first | omega | contradiction | omega | exact absurd rfl hc | exact absurd (by decide) hc))))))
      all_goals ((with_reducible apply At.retB1 (B := [])); exact rfl; exact rfl; exact zml; exact zkp; exact ⟨rfl, rfl, rfl⟩)
  · rw [List.take_of_length_le (by omega)] at h1 h2
    cases g
    · have e3 : chkL l = 0 := by unfold chkL; rw [if_neg (by rw [h1]; decide), if_neg (by rw [← h2]; decide)]
      rw [e3]
      (repeat' (first | refine zss ?_ | refine zsM ?_ | ((with_reducible apply At.alloc (d := 5)); exact rfl; exact rfl; intro b5) | (refine zsp ?_ ?_ <;> (intro hc; (try simp only [zhcs, reduceCtorEq] at hc); (try (exfalso; first | omega | contradiction | omega | exact absurd rfl hc | exact absurd (by decide) hc))))))
      all_goals ((with_reducible apply At.retB1 (B := [])); exact rfl; exact rfl; exact zml; exact zkp; exact ⟨rfl, rfl, rfl⟩)
    · have e3 : chkL l = 1 := by unfold chkL; rw [if_neg (by rw [h1]; decide), if_pos h2.symm]
      rw [e3]
      (repeat' (first | refine zss ?_ | refine zsM ?_ | ((with_reducible apply At.alloc (d := 5)); exact rfl; exact rfl; intro b5) | (refine zsp ?_ ?_ <;> (intro hc; (try simp only [zhcs, reduceCtorEq] at hc); (try (exfalso; first | omega | contradiction | omega | exact absurd rfl hc | exact absurd (by decide) hc))))))
      all_goals ((with_reducible apply At.retB1 (B := [])); exact rfl; exact rfl; exact zml; exact zkp; exact ⟨rfl, rfl, rfl⟩)
def outO (l : List (Nat × Nat)) : List (Nat × Nat) := if chkL l = 0 then l else []
def outS (l : List (Nat × Nat)) : List (Nat × Nat) := if chkL l = 0 then srt l else []
theorem fill_set {l : List (Nat × Nat)} {i : Nat} (h : i < l.length) : (l.take i ++ List.replicate (l.length - i) (0, 0)).set i l[i]! = l.take (i + 1) ++ List.replicate (l.length - (i + 1)) (0, 0) := by
  rw [Ls.take_snoc h, List.set_append_right _ _ (by rw [List.length_take]; omega), List.length_take, show i - min i l.length = 0 by omega, show l.length - i = (l.length - (i + 1)) + 1 by omega, List.replicate_succ, List.set_cons_zero, List.append_assoc]
  rfl
theorem fill_len {l : List (Nat × Nat)} {i : Nat} (h : i ≤ l.length) : (l.take i ++ List.replicate (l.length - i) (0, 0)).length = l.length := by
  rw [List.length_append, List.length_take, List.length_replicate]; omega
theorem open_ {m : Mem} (ht : Ra.TZ m) (p : Option Addr) (c : Nat) (l : List (Nat × Nat)) (hl : l.length ≤ 1000000) (hb : ∀ x ∈ l, In2 x) (sl0 : Sl m fd 4 p c l) :
    Ct Tryd.prog 25 #[.slice p l.length c] m [] (fun v m' B => m = m' ∧ ∃ p' c', v = .tuple #[.slice p' (outO l).length c', .int .i64 (chkL l)] ∧ B = [.own sm 2 57 p' c' (outO l)]) := by
  have k1 := fun (m' : Mem) (hm' : m.le m') => check_ (m := m') (ht.mono hm') p c l hl hb (sl0.mono hm')
  unfold outO
  by_cases hk : chkL l = 0
  · have hsm := chkL_ok hk
    rw [hk] at k1 ⊢
    rw [if_pos rfl]
    refine Ct.enterV (by rfl) Tryd.func25 rfl Tryd.ntmps25 rfl (fun w0 Rest => ?_)
    (repeat' (first | refine zss ?_ | refine zsM ?_ | ((with_reducible first | apply AtM1.cr | apply AtQ.cr | apply At.cr); exact rfl; exact rfl; exact fun _ hmm => k1 _ hmm; exact ztk; kernel_rfl) | ((with_reducible apply At.makeN (f := sm) ((0, 0))); exact inferInstance; (iterate 5 exact rfl); exact zlq; exact rfl; exact zom; exact rfl; intro b9) | ((with_reducible apply At.alloc (d := 7)); exact rfl; exact rfl; intro b7) | (refine zsp ?_ ?_ <;> (intro hc; (try simp only [zhcs, reduceCtorEq] at hc); (try (exfalso; first | omega | contradiction | omega | exact absurd rfl hc | exact absurd (by decide) hc))))))
    rw [show List.replicate l.length ((0, 0) : Nat × Nat) = l.take 0 ++ List.replicate (l.length - 0) (0, 0) from rfl]
    (refine At.loopk (σ := Nat) [5, 16, 17] (fun s F0 => (18, .int .i64 (s : Int)) :: F0) (fun s => m) (fun s => .own sm 2 57 (some ⟨b9, 0, none⟩) l.length (l.take s ++ List.replicate (l.length - s) (0, 0)) :: Rest) (fun s => s ≤ l.length) (fun s => l.length - s) 0 (by rfl) ?_ zsubs zml zente ?_)
    · exact Nat.zero_le _
    rintro i hi
    by_cases h : i < l.length
    · have hs := fill_set h
      have hn := fill_len (Nat.le_of_lt h)
      have hx := hsm _ (Ls.mem! h)
      have ex : (l[i]!.1 % 18446744073709551616, l[i]!.2 % 18446744073709551616) = l[i]! := by
        rw [Nat.mod_eq_of_lt hx.1, Nat.mod_eq_of_lt hx.2.1]
      rw [← ex] at hs
      clear hx ex hsm hb
      generalize l.take i ++ List.replicate (l.length - i) ((0, 0) : Nat × Nat) = X at hs hn ⊢
      (repeat' (first | refine zss ?_ | refine zsOM ?_ | ((with_reducible apply At.storeW (f := sm) (x' := (l[i]!.1 % 18446744073709551616, l[i]!.2 % 18446744073709551616))); (case hx => exact rfl); (case hy => exact rfl); (case hv => exact rfl); (case hp => exact (by repeat constructor)); (case hr => exact rfl); (case hf => exact inferInstance); (case hk => exact zom); (case hs => exact rfl); (case hq => exact rfl); (case h1 => exact rfl)) | ((with_reducible apply At.alloc (d := 7)); exact rfl; exact rfl; intro b7) | (refine zsp ?_ ?_ <;> (intro hc; (try simp only [zhcs, reduceCtorEq] at hc); (try (exfalso; first | omega | contradiction | omega | exact absurd rfl hc | exact absurd (by decide) hc))))))
      all_goals rw [hs]
      all_goals ((with_reducible refine At.reachk ((i + 1)) ?_ ?_ ?_ ?_); exact zsubs; exact zml; exact zente; exact ⟨h, by omega⟩)
    · have e0 : l.take i ++ List.replicate (l.length - i) ((0, 0) : Nat × Nat) = l := by
        rw [List.take_of_length_le (by omega), show l.length - i = 0 by omega]
        exact List.append_nil l
      rw [e0]
      (repeat' (first | refine zss ?_ | refine zsM ?_ | ((with_reducible apply At.alloc (d := 7)); exact rfl; exact rfl; intro b7) | (refine zsp ?_ ?_ <;> (intro hc; (try simp only [zhcs, reduceCtorEq] at hc); (try (exfalso; first | omega | contradiction | omega | exact absurd rfl hc | exact absurd (by decide) hc))))))
      all_goals ((with_reducible apply At.retV (B := [.own sm 2 57 _ _ _])); exact rfl; (repeat' (first | exact RVs.nil | (with_reducible apply RVs.cons) | exact rv_tmp (by rfl) | exact rv_cellN (by rfl) (by repeat constructor) (by rfl) (by rfl) (by rfl) | exact rv_cell1 (by rfl) (by repeat constructor) (by rfl) (by rfl))); exact zml; exact zkp; exact ⟨rfl, _, _, rfl, rfl⟩)
  · rw [if_neg hk]
    refine Ct.enterV (by rfl) Tryd.func25 rfl Tryd.ntmps25 rfl (fun w0 Rest => ?_)
    (repeat' (first | refine zss ?_ | refine zsM ?_ | ((with_reducible first | apply AtM1.cr | apply AtQ.cr | apply At.cr); exact rfl; exact rfl; exact fun _ hmm => k1 _ hmm; exact ztk; kernel_rfl) | ((with_reducible apply At.alloc (d := 7)); exact rfl; exact rfl; intro b7) | (refine zsp ?_ ?_ <;> (intro hc; (try simp only [zhcs, reduceCtorEq] at hc); (try (exfalso; first | (first | omega | exact absurd hc hk) | contradiction | omega | exact absurd rfl hc | exact absurd (by decide) hc))))))
    refine At.own_nil sm 2 57 ?_
    all_goals ((with_reducible apply At.retV (B := [.own sm 2 57 _ _ _])); exact rfl; (repeat' (first | exact RVs.nil | (with_reducible apply RVs.cons) | exact rv_tmp (by rfl) | exact rv_cellN (by rfl) (by repeat constructor) (by rfl) (by rfl) (by rfl) | exact rv_cell1 (by rfl) (by repeat constructor) (by rfl) (by rfl))); exact zml; exact zkp; exact ⟨rfl, _, _, rfl, rfl⟩)
theorem fraction_ (p : Nat × Nat) (h : Sm p) : Pu Tryd.prog 28 #[sv p] (fv p) := Pu.intro fun m => by
  obtain ⟨a, b⟩ := p
  have k1 := of_ a h.1
  have k2 := of_ b h.2.1
  clear h
  refine Ct.enterV (by rfl) Tryd.func28 rfl Tryd.ntmps28 rfl (fun w0 Rest => ?_)
  (repeat' (first | ((with_reducible apply At.mixed (id := 1) 8 (.q 0 (.q 1 (.q 2 (.q 3 (.q 4 (.q 5 (.q 6 (.x 7 .done))))))))); exact rfl; kernel_rfl; kernel_rfl; kernel_rfl) | refine zsx ?_ | refine zss ?_ | ((with_reducible apply AtM.bo); exact rfl; exact rfl; exact rfl) | refine zs0 ?_ | refine zx0 ?_ | ((with_reducible first | apply AtM1.callp | apply AtQ.callp | apply At.callp); kernel_rfl; exact rfl; exact rfl; exact k1) | ((with_reducible first | apply AtM1.callp | apply AtQ.callp | apply At.callp); kernel_rfl; exact rfl; exact rfl; exact k2) | ((with_reducible apply At.box (d := 1)); exact rfl; exact rfl; exact rfl; intro b1) | ((with_reducible apply At.alloc (d := 2)); exact rfl; exact rfl; intro b2) | (refine zsp ?_ ?_ <;> (intro hc; (try simp only [zhcs, reduceCtorEq] at hc); (try (exfalso; first | contradiction | omega | exact absurd rfl hc | exact absurd (by decide) hc))))))
  all_goals ((with_reducible apply At.retV (B := [])); exact rfl; (repeat' (first | exact RVs.nil | (with_reducible apply RVs.cons) | exact rv_tmp (by rfl) | exact rv_cellN (by rfl) (by repeat constructor) (by rfl) (by rfl) (by rfl) | exact rv_cell1 (by rfl) (by repeat constructor) (by rfl) (by rfl))); exact zml; exact zkp; exact ⟨rfl, rfl, rfl⟩)
theorem fill_set' {l : List (Nat × Nat)} {i : Nat} (h : i < l.length) : (l.take i ++ List.replicate (l.length - i) (0, 0)).set i l[i]! = l.take (i + 1) ++ List.replicate (l.length - (i + 1)) (0, 0) := fill_set h
theorem sort_ {m : Mem} (ht : Ra.TZ m) (p : Option Addr) (c : Nat) (l : List (Nat × Nat)) (hl : l.length ≤ 1000000) (hb : ∀ x ∈ l, In2 x) (sl0 : Sl m fd 4 p c l) :
    Ct Tryd.prog 8 #[.slice p l.length c] m [] (fun v m' B => m = m' ∧ ∃ p' c', v = .tuple #[.slice p' (outS l).length c', .int .i64 (chkL l)] ∧ B = [.own fd 4 27 p' c' (outS l)]) := by
  have k1 := fun (m' : Mem) (hm' : m.le m') => open_ (m := m') (ht.mono hm') p c l hl hb (sl0.mono hm')
  unfold outS
  by_cases hk : chkL l = 0
  · have hsm := chkL_ok hk
    have eo : outO l = l := if_pos hk
    obtain ⟨L, rfl⟩ := lift hsm
    rw [eo, hk] at k1
    rw [hk, if_pos rfl]
    have k2 := fun (m' : Mem) (p' : Option Addr) (c' : Nat) => sort_s (m := m') p' c' L (by rw [List.length_map] at hl; omega)
    have en : L.length = (L.map Subtype.val).length := (List.length_map _).symm
    rw [en] at k2
    have hsS : ∀ x ∈ srt (L.map Subtype.val), Sm x := fun x hx => hsm x (srt_mem.1 hx)
    have hn := srt_len (L.map Subtype.val)
    generalize srt (L.map Subtype.val) = X at k2 hsS hn ⊢
    generalize L.map Subtype.val = l at *
    clear hk hsm eo hb en
    rw [← hn] at hl
    refine Ct.enterV (by rfl) Tryd.func8 rfl Tryd.ntmps8 rfl (fun w0 Rest => ?_)
    (repeat' (first | refine zss ?_ | refine zsOM ?_ | ((with_reducible first | apply At.c1 | apply At.c0); exact rfl; exact rfl; exact k1 _ zml; exact ztk; kernel_rfl; rintro v' m' B' hm' ⟨rfl, p1, c1, rfl, rfl⟩; (try replace sl0 := sl0.mono hm'); (try (have hq0 : hm' = Mem.le_refl _ := rfl; clear hq0 hm'))) | ((with_reducible first | apply At.c1 | apply At.c0); exact rfl; exact rfl; exact k2 _ p1 c1; exact ztk; kernel_rfl; rintro v' m' B' hm' ⟨rfl, rfl, rfl⟩; (try replace sl0 := sl0.mono hm'); (try (have hq0 : hm' = Mem.le_refl _ := rfl; clear hq0 hm'))) | ((with_reducible apply At.makeN (f := fd) ((0, 0))); exact inferInstance; (iterate 5 exact rfl); exact zlq; exact rfl; exact zom; exact rfl; intro b9) | ((with_reducible apply At.alloc (d := 8)); exact rfl; exact rfl; intro b8) | (refine zsp ?_ ?_ <;> (intro hc; (try simp only [zhcs, reduceCtorEq] at hc); (try (exfalso; first | omega | contradiction | omega | exact absurd rfl hc | exact absurd (by decide) hc))))))
    rw [← hn]
    rw [show List.replicate X.length ((0, 0) : Nat × Nat) = X.take 0 ++ List.replicate (X.length - 0) (0, 0) from rfl]
    (refine At.loopk (σ := Nat) [6, 22, 23] (fun s F0 => (24, .int .i64 (s : Int)) :: F0) (fun s => m) (fun s => .own fd 4 27 (some ⟨b9, 0, none⟩) X.length (X.take s ++ List.replicate (X.length - s) (0, 0)) :: .own sm 2 57 p1 c1 X :: Rest) (fun s => s ≤ X.length) (fun s => X.length - s) 0 (by rfl) ?_ zsubs zml zente ?_)
    · exact Nat.zero_le _
    rintro i hi
    by_cases h : i < X.length
    · have hs := fill_set' h
      have hm := fill_len (Nat.le_of_lt h)
      have k3 := fraction_ _ (hsS _ (Ls.mem! h))
      clear hsS k1 k2
      generalize X.take i ++ List.replicate (X.length - i) ((0, 0) : Nat × Nat) = Y at hs hm ⊢
      (repeat' (first | refine zss ?_ | refine zsO ?_ | ((with_reducible first | apply AtM1.callp | apply AtQ.callp | apply At.callp); kernel_rfl; exact rfl; exact rfl; exact k3) | ((with_reducible apply At.storeW (f := fd) (x' := (X[i]!))); (case hx => exact rfl); (case hy => exact rfl); (case hv => exact rfl); (case hp => exact (by repeat constructor)); (case hr => exact rfl); (case hf => exact inferInstance); (case hk => exact zom); (case hs => exact rfl); (case hq => exact rfl); (case h1 => exact rfl)) | ((with_reducible apply At.alloc (d := 8)); exact rfl; exact rfl; intro b8) | (refine zsp ?_ ?_ <;> (intro hc; (try simp only [zhcs, reduceCtorEq] at hc); (try (exfalso; first | omega | contradiction | omega | exact absurd rfl hc | exact absurd (by decide) hc))))))
      all_goals rw [hs]
      all_goals ((with_reducible refine At.reachk ((i + 1)) ?_ ?_ ?_ ?_); exact zsubs; exact zml; exact zente; exact ⟨h, by omega⟩)
    · have e0 : X.take i ++ List.replicate (X.length - i) ((0, 0) : Nat × Nat) = X := by
        rw [List.take_of_length_le (by omega), show X.length - i = 0 by omega]
        exact List.append_nil X
      rw [e0]
      (repeat' (first | refine zss ?_ | refine zsO ?_ | ((with_reducible apply At.alloc (d := 8)); exact rfl; exact rfl; intro b8) | (refine zsp ?_ ?_ <;> (intro hc; (try simp only [zhcs, reduceCtorEq] at hc); (try (exfalso; first | omega | contradiction | omega | exact absurd rfl hc | exact absurd (by decide) hc))))))
      all_goals ((with_reducible apply At.retV (B := [.own fd 4 27 _ _ _])); exact rfl; (repeat' (first | exact RVs.nil | (with_reducible apply RVs.cons) | exact rv_tmp (by rfl) | exact rv_cellN (by rfl) (by repeat constructor) (by rfl) (by rfl) (by rfl) | exact rv_cell1 (by rfl) (by repeat constructor) (by rfl) (by rfl))); exact zml; exact zkp; exact ⟨rfl, _, _, rfl, rfl⟩)
  · rw [if_neg hk]
    have eo : outO l = [] := if_neg hk
    rw [eo] at k1
    generalize chkL l = w at *
    refine Ct.enterV (by rfl) Tryd.func8 rfl Tryd.ntmps8 rfl (fun w0 Rest => ?_)
    (repeat' (first | refine zss ?_ | refine zsM ?_ | ((with_reducible first | apply At.c1 | apply At.c0); exact rfl; exact rfl; exact k1 _ zml; exact ztk; kernel_rfl; rintro v' m' B' hm' ⟨rfl, p1, c1, rfl, rfl⟩; (try replace sl0 := sl0.mono hm'); (try (have hq0 : hm' = Mem.le_refl _ := rfl; clear hq0 hm'))) | ((with_reducible apply At.alloc (d := 8)); exact rfl; exact rfl; intro b8) | (refine zsp ?_ ?_ <;> (intro hc; (try simp only [zhcs, reduceCtorEq] at hc); (try (exfalso; first | (first | omega | exact absurd hc hk) | contradiction | omega | exact absurd rfl hc | exact absurd (by decide) hc))))))
    refine At.own_nil fd 4 27 ?_
    all_goals ((with_reducible apply At.retV (B := [.own fd 4 27 _ _ _])); exact rfl; (repeat' (first | exact RVs.nil | (with_reducible apply RVs.cons) | exact rv_tmp (by rfl) | exact rv_cellN (by rfl) (by repeat constructor) (by rfl) (by rfl) (by rfl) | exact rv_cell1 (by rfl) (by repeat constructor) (by rfl) (by rfl))); exact zml; exact zkp; exact ⟨rfl, _, _, rfl, rfl⟩)
end Qu
end Go.Proofs.YtmnlmmbfjfgfeaaDoor
/- Quantiles: Rank, Of, Share of quant. -/
set_option linter.unusedSimpArgs false
set_option linter.unusedVariables false
set_option linter.unusedSectionVars false
set_option maxRecDepth 20000
set_option maxHeartbeats 4000000
namespace Go.Proofs.YtmnlmmbfjfgfeaaDoor
open Go Go.J
attribute [local irreducible] At AtQ AtM AtM1 PR Ct Pu Rd Res.blk Res.own Res.ex RVs RV
namespace Qu
open Wide
def rkV (n : Int) (num den : Nat) : Int × Int := if n < 1 ∨ den = 0 ∨ num > den then (0, 1) else (((rk n.toNat num den : Nat) : Int), 0)
theorem rank_ (n : Int) (hn : n ≤ 9223372036854775807) (num den : Nat) (h1 : num < 18446744073709551616) (h2 : den < 18446744073709551616) :
    Pu Tryd.prog 10 #[.int .i64 n, .int .u64 (num : Int), .int .u64 (den : Int)] (.tuple #[.int .i64 (rkV n num den).1, .int .i64 (rkV n num den).2]) := Pu.intro fun m => by
  unfold rkV
  by_cases h : n < 1 ∨ den = 0 ∨ num > den
  · rw [if_pos h]
    refine Ct.enterV (by rfl) Tryd.func10 rfl Tryd.ntmps10 rfl (fun w0 Rest => ?_)
    (repeat' (first | refine zss ?_ | ((first | (with_reducible first | apply At.val | apply AtQ.val)); (exact zprA); exact rfl) | refine zs0 ?_ | (refine zsp ?_ ?_ <;> (intro hc; (try simp only [zhcs, reduceCtorEq] at hc); (try (exfalso; first | omega | contradiction | omega | exact absurd rfl hc | exact absurd (by decide) hc))))))
    all_goals ((with_reducible apply At.retV (B := [])); exact rfl; (repeat' (first | exact RVs.nil | (with_reducible apply RVs.cons) | exact rv_tmp (by rfl) | exact rv_cellN (by rfl) (by repeat constructor) (by rfl) (by rfl) (by rfl) | exact rv_cell1 (by rfl) (by repeat constructor) (by rfl) (by rfl) | exact rv_cellA (by rfl) (by repeat constructor) (by rfl) (by rfl) zlq)); exact zml; exact zkp; exact ⟨rfl, rfl, rfl⟩)
  · rw [if_neg h]
    obtain ⟨N, rfl⟩ : ∃ N : Nat, n = (N : Int) := ⟨n.toNat, by omega⟩
    rw [Int.toNat_natCast]
    have hd : 0 < den := by omega
    have hle : num ≤ den := by omega
    have hN : 1 ≤ N := by omega
    have hN2 : N ≤ 9223372036854775807 := by omega
    have hr := rk_le hN hd hle
    have hV : N * num ≤ N * den := Nat.mul_le_mul_left _ hle
    have hV2 : N * den ≤ 9223372036854775807 * den := Nat.mul_le_mul_right _ hN2
    have m1 := mul64 (N : Int) (num : Int) (by omega) (by omega) (by omega) (by omega)
    rw [← Int.natCast_mul] at m1
    unfold rk up at hr ⊢
    generalize N * num = V at *
    have m2 := div64 (V / 18446744073709551616) (V % 18446744073709551616) den V (by omega) (by omega) h2 (by omega)
    generalize V / den = q at *
    generalize V % den = r at *
    by_cases h0 : r = 0
    · rw [if_pos h0] at hr ⊢
      clear hV hV2 h
      refine Ct.enterV (by rfl) Tryd.func10 rfl Tryd.ntmps10 rfl (fun w0 Rest => ?_)
      (repeat' (first | refine zss ?_ | ((first | (with_reducible first | apply At.val | apply AtQ.val)); (exact zprA); exact rfl) | refine zs0 ?_ | ((with_reducible first | apply AtM1.callp | apply AtQ.callp | apply At.callp); kernel_rfl; exact rfl; exact rfl; exact m1) | ((with_reducible first | apply AtM1.callp | apply AtQ.callp | apply At.callp); kernel_rfl; exact rfl; exact rfl; exact m2) | (refine zsp ?_ ?_ <;> (intro hc; (try simp only [zhcs, reduceCtorEq] at hc); (try (exfalso; first | omega | contradiction | omega | exact absurd rfl hc | exact absurd (by decide) hc))))))
      all_goals ((with_reducible apply At.retV (B := [])); exact rfl; (repeat' (first | exact RVs.nil | (with_reducible apply RVs.cons) | exact rv_tmp (by rfl) | exact rv_cellN (by rfl) (by repeat constructor) (by rfl) (by rfl) (by rfl) | exact rv_cell1 (by rfl) (by repeat constructor) (by rfl) (by rfl) | exact rv_cellA (by rfl) (by repeat constructor) (by rfl) (by rfl) zlq)); exact zml; exact zkp; exact ⟨congrArg (fun x => Value.tuple #[.int .i64 x, .int .i64 0]) (by first | omega | (split <;> omega)), rfl, rfl⟩)
    · rw [if_neg h0] at hr ⊢
      clear hV hV2 h
      refine Ct.enterV (by rfl) Tryd.func10 rfl Tryd.ntmps10 rfl (fun w0 Rest => ?_)
      (repeat' (first | refine zss ?_ | ((first | (with_reducible first | apply At.val | apply AtQ.val)); (exact zprA); exact rfl) | refine zs0 ?_ | ((with_reducible first | apply AtM1.callp | apply AtQ.callp | apply At.callp); kernel_rfl; exact rfl; exact rfl; exact m1) | ((with_reducible first | apply AtM1.callp | apply AtQ.callp | apply At.callp); kernel_rfl; exact rfl; exact rfl; exact m2) | (refine zsp ?_ ?_ <;> (intro hc; (try simp only [zhcs, reduceCtorEq] at hc); (try (exfalso; first | omega | contradiction | omega | exact absurd rfl hc | exact absurd (by decide) hc))))))
      all_goals ((with_reducible apply At.retV (B := [])); exact rfl; (repeat' (first | exact RVs.nil | (with_reducible apply RVs.cons) | exact rv_tmp (by rfl) | exact rv_cellN (by rfl) (by repeat constructor) (by rfl) (by rfl) (by rfl) | exact rv_cell1 (by rfl) (by repeat constructor) (by rfl) (by rfl) | exact rv_cellA (by rfl) (by repeat constructor) (by rfl) (by rfl) zlq)); exact zml; exact zkp; exact ⟨congrArg (fun x => Value.tuple #[.int .i64 x, .int .i64 0]) (by first | omega | (split <;> omega)), rfl, rfl⟩)
def ofV (num den : Nat) (l : List (Nat × Nat)) : (Nat × Nat) × Int := if chkL l ≠ 0 then ((0, 0), chkL l) else if (rkV l.length num den).2 ≠ 0 then ((0, 0), 1) else ((srt l)[(rkV l.length num den).1.toNat - 1]!, 0)
theorem rkV_no {n : Int} {num den : Nat} (h : (rkV n num den).2 ≠ 0) : rkV n num den = (0, 1) := by
  unfold rkV at h ⊢
  split
  · rfl
  · rename_i k
    rw [if_neg k] at h
    exact absurd rfl h
theorem rkV_yes {n : Int} {num den : Nat} (h : (rkV n num den).2 = 0) : ∃ K : Nat, rkV n num den = (((K + 1 : Nat) : Int), 0) ∧ ((K + 1 : Nat) : Int) ≤ n := by
  unfold rkV at h ⊢
  by_cases k : n < 1 ∨ den = 0 ∨ num > den
  · rw [if_pos k] at h; exact absurd h (by decide)
  · rw [if_neg k]
    have h1 := rk_one n.toNat num den
    have h2 := rk_le (n := n.toNat) (num := num) (den := den) (by omega) (by omega) (by omega)
    exact ⟨rk n.toNat num den - 1, by rw [show rk n.toNat num den - 1 + 1 = rk n.toNat num den by omega], by omega⟩
theorem fv0 : fv (0, 0) = .agg #[.int .u64 0, .int .u64 0, .int .u64 0, .int .u64 0] := by rfl
theorem none_v (w : Int) : Value.tuple #[.agg #[.int .u64 0, .int .u64 0, .int .u64 0, .int .u64 0], .int .i64 w] = .tuple #[fv ((0, 0), w).1, .int .i64 ((0, 0), w).2] := by
  show _ = Value.tuple #[fv (0, 0), .int .i64 w]
  rw [fv0]
theorem of_q {m : Mem} (ht : Ra.TZ m) (num den : Nat) (h1 : num < 18446744073709551616) (h2 : den < 18446744073709551616) (p : Option Addr) (c : Nat) (l : List (Nat × Nat)) (hl : l.length ≤ 1000000) (hb : ∀ x ∈ l, In2 x) (sl0 : Sl m fd 4 p c l) :
    Ct Tryd.prog 12 #[.int .u64 (num : Int), .int .u64 (den : Int), .slice p l.length c] m [] (fun v m' B => v = .tuple #[fv (ofV num den l).1, .int .i64 (ofV num den l).2] ∧ m = m' ∧ B = []) := by
  have k1 := fun (m' : Mem) (hm' : m.le m') => sort_ (m := m') (ht.mono hm') p c l hl hb (sl0.mono hm')
  have k2 := rank_ (l.length : Int) (by omega) num den h1 h2
  unfold ofV
  unfold outS at k1
  by_cases hk : chkL l = 0
  · rw [hk, if_pos rfl] at k1
    rw [hk, if_neg (fun e => e rfl)]
    have hn := srt_len l
    have hR : rkV ((srt l).length : Nat) num den = rkV l.length num den := by rw [hn]
    rw [← hn, hR] at k2
    clear hR
    generalize srt l = X at *
    by_cases hr : (rkV l.length num den).2 = 0
    · obtain ⟨K, eK, hK⟩ := rkV_yes hr
      rw [eK] at k2 ⊢
      rw [if_neg (fun e => e rfl)]
      have hw : IntKind.wrap .i64 (((K + 1 : Nat) : Int) - 1) = (K : Int) := by rw [show ((K + 1 : Nat) : Int) - 1 = (K : Int) by omega]; exact IntWalk.i64_in _ (by omega)
      rw [show ((((K + 1 : Nat) : Int), (0 : Int)).1).toNat - 1 = K from rfl]
      clear eK hr
      refine Ct.enterV (by rfl) Tryd.func12 rfl Tryd.ntmps12 rfl (fun w0 Rest => ?_)
      (repeat' (first | refine zss ?_ | ((first | (with_reducible first | apply At.val | apply AtQ.val)); (first | exact pr_sub (by rfl) (by rfl) hw | exact zprA); exact rfl) | refine zsOM ?_ | ((with_reducible first | apply At.c1 | apply At.c0); exact rfl; exact rfl; exact k1 _ zml; exact ztk; kernel_rfl; rintro v' m' B' hm' ⟨rfl, p1, c1, rfl, rfl⟩; (try replace sl0 := sl0.mono hm'); (try (have hq0 : hm' = Mem.le_refl _ := rfl; clear hq0 hm'))) | ((with_reducible first | apply AtM1.callp | apply AtQ.callp | apply At.callp); kernel_rfl; exact rfl; exact rfl; exact k2) | ((with_reducible apply At.alloc (d := 6)); exact rfl; exact rfl; intro b6) | (refine zsp ?_ ?_ <;> (intro hc; (try simp only [zhcs, reduceCtorEq] at hc); (try (exfalso; first | omega | contradiction | omega | exact absurd rfl hc | exact absurd (by decide) hc))))))
      all_goals ((with_reducible apply At.retV (B := [])); exact rfl; (repeat' (first | exact RVs.nil | (with_reducible apply RVs.cons) | exact rv_tmp (by rfl) | exact rv_cellN (by rfl) (by repeat constructor) (by rfl) (by rfl) (by rfl) | exact rv_cell1 (by rfl) (by repeat constructor) (by rfl) (by rfl) | exact rv_cellA (by rfl) (by repeat constructor) (by rfl) (by rfl) zlq)); exact zml; exact zkp; exact ⟨rfl, rfl, rfl⟩)
    · rw [rkV_no hr] at k2
      rw [if_pos hr]
      refine Ct.enterV (by rfl) Tryd.func12 rfl Tryd.ntmps12 rfl (fun w0 Rest => ?_)
      (repeat' (first | refine zss ?_ | ((first | (with_reducible first | apply At.val | apply AtQ.val)); (exact zprA); exact rfl) | refine zsOM ?_ | ((with_reducible first | apply At.c1 | apply At.c0); exact rfl; exact rfl; exact k1 _ zml; exact ztk; kernel_rfl; rintro v' m' B' hm' ⟨rfl, p1, c1, rfl, rfl⟩; (try replace sl0 := sl0.mono hm'); (try (have hq0 : hm' = Mem.le_refl _ := rfl; clear hq0 hm'))) | ((with_reducible first | apply AtM1.callp | apply AtQ.callp | apply At.callp); kernel_rfl; exact rfl; exact rfl; exact k2) | ((with_reducible apply At.alloc (d := 6)); exact rfl; exact rfl; intro b6) | (refine zsp ?_ ?_ <;> (intro hc; (try simp only [zhcs, reduceCtorEq] at hc); (try (exfalso; first | omega | contradiction | omega | exact absurd rfl hc | exact absurd (by decide) hc))))))
      all_goals ((with_reducible apply At.retV (B := [])); exact rfl; (repeat' (first | exact RVs.nil | (with_reducible apply RVs.cons) | exact rv_tmp (by rfl) | exact rv_cellN (by rfl) (by repeat constructor) (by rfl) (by rfl) (by rfl) | exact rv_cell1 (by rfl) (by repeat constructor) (by rfl) (by rfl) | exact rv_cellA (by rfl) (by repeat constructor) (by rfl) (by rfl) zlq)); exact zml; exact zkp; exact ⟨rfl, rfl, rfl⟩)
  · rw [if_neg hk] at k1
    rw [if_pos hk]
    generalize chkL l = w at *
    refine Ct.enterV (by rfl) Tryd.func12 rfl Tryd.ntmps12 rfl (fun w0 Rest => ?_)
    (repeat' (first | refine zss ?_ | ((first | (with_reducible first | apply At.val | apply AtQ.val)); (exact zprA); exact rfl) | refine zsOM ?_ | ((with_reducible first | apply At.c1 | apply At.c0); exact rfl; exact rfl; exact k1 _ zml; exact ztk; kernel_rfl; rintro v' m' B' hm' ⟨rfl, p1, c1, rfl, rfl⟩; (try replace sl0 := sl0.mono hm'); (try (have hq0 : hm' = Mem.le_refl _ := rfl; clear hq0 hm'))) | ((with_reducible apply At.alloc (d := 6)); exact rfl; exact rfl; intro b6) | (refine zsp ?_ ?_ <;> (intro hc; (try simp only [zhcs, reduceCtorEq] at hc); (try (exfalso; first | (first | omega | exact absurd hc hk) | contradiction | omega | exact absurd rfl hc | exact absurd (by decide) hc))))))
    all_goals ((with_reducible apply At.retV (B := [])); exact rfl; (repeat' (first | exact RVs.nil | (with_reducible apply RVs.cons) | exact rv_tmp (by rfl) | exact rv_cellN (by rfl) (by repeat constructor) (by rfl) (by rfl) (by rfl) | exact rv_cell1 (by rfl) (by repeat constructor) (by rfl) (by rfl) | exact rv_cellA (by rfl) (by repeat constructor) (by rfl) (by rfl) zlq)); exact zml; exact zkp; exact ⟨none_v w, rfl, rfl⟩)
def shV (f : Nat × Nat) (l : List (Nat × Nat)) : (Nat × Nat) × Int := if chkL [f] ≠ 0 then ((0, 0), chkL [f]) else if chkL l ≠ 0 then ((0, 0), chkL l) else if l.length = 0 then ((0, 0), 3) else Ra.red (cnt f l) l.length
theorem openC {m : Mem} (ht : Ra.TZ m) (p : Option Addr) (c n k : Nat) (l o : List (Nat × Nat)) (w : Int) (hn : l.length = n) (hl : l.length ≤ 1000000) (hb : ∀ x ∈ l, In2 x) (ho : outO l = o) (hw : chkL l = w) (hk : o.length = k) (sl0 : Sl m fd 4 p c l) :
    Ct Tryd.prog 25 #[.slice p n c] m [] (fun v m' B => m = m' ∧ ∃ p' c', v = .tuple #[.slice p' k c', .int .i64 w] ∧ B = [.own sm 2 57 p' c' o]) := by
  subst hn ho hw hk
  exact open_ ht p c l hl hb sl0
theorem cnt_snoc {f : Nat × Nat} {l : List (Nat × Nat)} {i : Nat} (h : i < l.length) : cnt f (l.take (i + 1)) = cnt f (l.take i) + (if lq l[i]! f = true then 1 else 0) := by
  unfold cnt
  rw [Ls.take_snoc h, List.filter_append, List.length_append]
  congr 1
  by_cases e : lq l[i]! f = true
  · rw [if_pos e, List.filter_cons_of_pos (p := fun y => lq y f) e]; rfl
  · rw [if_neg e, List.filter_cons_of_neg (p := fun y => lq y f) e]; rfl
theorem cfi_lq (y f : Nat × Nat) : (cfi y f ≤ 0) ↔ lq y f = true := by
  unfold cfi lq
  rw [decide_eq_true_eq]
  split
  · omega
  · split <;> omega
structure SK where
  (i n : Nat)
theorem share_ {m : Mem} (ht : Ra.TZ m) (f : Nat × Nat) (hf : In2 f) (p : Option Addr) (c : Nat) (l : List (Nat × Nat)) (hl : l.length ≤ 1000000) (hb : ∀ x ∈ l, In2 x) (sl0 : Sl m fd 4 p c l) :
    Ct Tryd.prog 14 #[fv f, .slice p l.length c] m [] (fun v m' B => v = .tuple #[fv (shV f l).1, .int .i64 (shV f l).2] ∧ m.le m' ∧ B = []) := by
  have hb1 : ∀ x ∈ [f], In2 x := fun x hx => by rw [List.mem_singleton.1 hx]; exact hf
  have k1 := fun (m' : Mem) (hm' : m.le m') (p : Option Addr) (c : Nat) => openC (m := m') (ht.mono hm') p c 1 (outO [f]).length [f] (outO [f]) (chkL [f]) rfl (show 1 ≤ 1000000 by decide) hb1 rfl rfl rfl
  have k2 := fun (m' : Mem) (hm' : m.le m') => open_ (m := m') (ht.mono hm') p c l hl hb (sl0.mono hm')
  unfold shV
  unfold outO at k1 k2
  by_cases hk : chkL [f] = 0
  rotate_left
  · rw [if_neg hk] at k1
    rw [if_pos hk]
    generalize chkL [f] = w at *
    refine Ct.enterV (by rfl) Tryd.func14 rfl Tryd.ntmps14 rfl (fun w0 Rest => ?_)
    (repeat' (first | refine zss ?_ | ((first | (with_reducible first | apply At.val | apply AtQ.val)); (exact zprA); exact rfl) | refine zsOM ?_ | ((with_reducible apply At.litF fd [f]); exact inferInstance; (iterate 7 exact rfl); intro b' m' hm' sl5; (try replace sl0 := sl0.mono hm')) | ((with_reducible first | apply At.c1 | apply At.c0); exact rfl; exact rfl; exact k1 _ zml _ _ sl5; exact ztk; kernel_rfl; rintro v' m' B' hm' ⟨rfl, p1, c1, rfl, rfl⟩; (try replace sl0 := sl0.mono hm'); (try replace sl5 := sl5.mono hm'); (try (have hq0 : hm' = Mem.le_refl _ := rfl; clear hq0 hm'))) | ((with_reducible apply At.box (d := 2)); exact rfl; exact rfl; exact rfl; intro b2) | ((with_reducible apply At.alloc (d := 4)); exact rfl; exact rfl; intro b4) | ((with_reducible apply At.alloc (d := 11)); exact rfl; exact rfl; intro b11) | (refine zsp ?_ ?_ <;> (intro hc; (try simp only [zhcs, reduceCtorEq] at hc); (try (exfalso; first | (first | omega | exact absurd hc hk) | contradiction | omega | exact absurd rfl hc | exact absurd (by decide) hc))))))
    all_goals ((with_reducible apply At.retV (B := [])); exact rfl; (repeat' (first | exact RVs.nil | (with_reducible apply RVs.cons) | exact rv_tmp (by rfl) | exact rv_cellN (by rfl) (by repeat constructor) (by rfl) (by rfl) (by rfl) | exact rv_cell1 (by rfl) (by repeat constructor) (by rfl) (by rfl) | exact rv_cellA (by rfl) (by repeat constructor) (by rfl) (by rfl) zlq)); exact zml; exact zkp; exact ⟨none_v w, zml, rfl⟩)
  have hsf := chkL_ok hk f (List.mem_singleton.2 rfl)
  rw [hk, if_pos rfl] at k1
  rw [hk, if_neg (fun e => e rfl)]
  rw [show [f].length = 1 from rfl] at k1
  by_cases hk2 : chkL l = 0
  rotate_left
  · rw [if_neg hk2] at k2
    rw [if_pos hk2]
    generalize chkL l = w at *
    refine Ct.enterV (by rfl) Tryd.func14 rfl Tryd.ntmps14 rfl (fun w0 Rest => ?_)
    (repeat' (first | refine zss ?_ | ((first | (with_reducible first | apply At.val | apply AtQ.val)); (exact zprA); exact rfl) | refine zsOM ?_ | ((with_reducible apply At.litF fd [f]); exact inferInstance; (iterate 7 exact rfl); intro b' m' hm' sl5; (try replace sl0 := sl0.mono hm')) | ((with_reducible first | apply At.c1 | apply At.c0); exact rfl; exact rfl; exact k1 _ zml _ _ sl5; exact ztk; kernel_rfl; rintro v' m' B' hm' ⟨rfl, p1, c1, rfl, rfl⟩; (try replace sl0 := sl0.mono hm'); (try replace sl5 := sl5.mono hm'); (try (have hq0 : hm' = Mem.le_refl _ := rfl; clear hq0 hm'))) | ((with_reducible first | apply At.c1 | apply At.c0); exact rfl; exact rfl; exact k2 _ zml; exact ztk; kernel_rfl; rintro v' m' B' hm' ⟨rfl, p2, c2, rfl, rfl⟩; (try replace sl0 := sl0.mono hm'); (try replace sl5 := sl5.mono hm'); (try (have hq0 : hm' = Mem.le_refl _ := rfl; clear hq0 hm'))) | ((with_reducible apply At.box (d := 2)); exact rfl; exact rfl; exact rfl; intro b2) | ((with_reducible apply At.alloc (d := 4)); exact rfl; exact rfl; intro b4) | ((with_reducible apply At.alloc (d := 11)); exact rfl; exact rfl; intro b11) | (refine zsp ?_ ?_ <;> (intro hc; (try simp only [zhcs, reduceCtorEq] at hc); (try (exfalso; first | (first | omega | exact absurd hc hk2) | contradiction | omega | exact absurd rfl hc | exact absurd (by decide) hc))))))
    all_goals ((with_reducible apply At.retV (B := [])); exact rfl; (repeat' (first | exact RVs.nil | (with_reducible apply RVs.cons) | exact rv_tmp (by rfl) | exact rv_cellN (by rfl) (by repeat constructor) (by rfl) (by rfl) (by rfl) | exact rv_cell1 (by rfl) (by repeat constructor) (by rfl) (by rfl) | exact rv_cellA (by rfl) (by repeat constructor) (by rfl) (by rfl) zlq)); exact zml; exact zkp; exact ⟨none_v w, zml, rfl⟩)
  have hsl := chkL_ok hk2
  rw [hk2, if_pos rfl] at k2
  rw [hk2, if_neg (fun e => e rfl)]
  by_cases h0 : l.length = 0
  · rw [if_pos h0]
    refine Ct.enterV (by rfl) Tryd.func14 rfl Tryd.ntmps14 rfl (fun w0 Rest => ?_)
    (repeat' (first | refine zss ?_ | ((first | (with_reducible first | apply At.val | apply AtQ.val)); (exact zprA); exact rfl) | refine zsOM ?_ | ((with_reducible apply At.litF fd [f]); exact inferInstance; (iterate 7 exact rfl); intro b' m' hm' sl5; (try replace sl0 := sl0.mono hm')) | ((with_reducible first | apply At.c1 | apply At.c0); exact rfl; exact rfl; exact k1 _ zml _ _ sl5; exact ztk; kernel_rfl; rintro v' m' B' hm' ⟨rfl, p1, c1, rfl, rfl⟩; (try replace sl0 := sl0.mono hm'); (try replace sl5 := sl5.mono hm'); (try (have hq0 : hm' = Mem.le_refl _ := rfl; clear hq0 hm'))) | ((with_reducible first | apply At.c1 | apply At.c0); exact rfl; exact rfl; exact k2 _ zml; exact ztk; kernel_rfl; rintro v' m' B' hm' ⟨rfl, p2, c2, rfl, rfl⟩; (try replace sl0 := sl0.mono hm'); (try replace sl5 := sl5.mono hm'); (try (have hq0 : hm' = Mem.le_refl _ := rfl; clear hq0 hm'))) | ((with_reducible apply At.box (d := 2)); exact rfl; exact rfl; exact rfl; intro b2) | ((with_reducible apply At.alloc (d := 4)); exact rfl; exact rfl; intro b4) | ((with_reducible apply At.alloc (d := 11)); exact rfl; exact rfl; intro b11) | (refine zsp ?_ ?_ <;> (intro hc; (try simp only [zhcs, reduceCtorEq] at hc); (try (exfalso; first | omega | contradiction | omega | exact absurd rfl hc | exact absurd (by decide) hc))))))
    all_goals ((with_reducible apply At.retV (B := [])); exact rfl; (repeat' (first | exact RVs.nil | (with_reducible apply RVs.cons) | exact rv_tmp (by rfl) | exact rv_cellN (by rfl) (by repeat constructor) (by rfl) (by rfl) (by rfl) | exact rv_cell1 (by rfl) (by repeat constructor) (by rfl) (by rfl) | exact rv_cellA (by rfl) (by repeat constructor) (by rfl) (by rfl) zlq)); exact zml; exact zkp; exact ⟨rfl, zml, rfl⟩)
  rw [if_neg h0]
  have hcl := cnt_le f l
  have k3 := fun (m' : Mem) (hm' : m.le m') => Ra.reduce (m := m') (ht.mono hm') (cnt f l) l.length (by omega) (by omega)
  have k4 := of_ (cnt f l) (by omega)
  have k5 := of_ l.length (by omega)
  generalize Ra.red (cnt f l) l.length = R at *
  refine Ct.enterV (by rfl) Tryd.func14 rfl Tryd.ntmps14 rfl (fun w0 Rest => ?_)
  (repeat' (first | refine zss ?_ | ((first | (with_reducible first | apply At.val | apply AtQ.val)); (exact zprA); exact rfl) | refine zsOM ?_ | ((with_reducible apply At.litF fd [f]); exact inferInstance; (iterate 7 exact rfl); intro b' m' hm' sl5; (try replace sl0 := sl0.mono hm')) | ((with_reducible first | apply At.c1 | apply At.c0); exact rfl; exact rfl; exact k1 _ zml _ _ sl5; exact ztk; kernel_rfl; rintro v' m' B' hm' ⟨rfl, p1, c1, rfl, rfl⟩; (try replace sl0 := sl0.mono hm'); (try replace sl5 := sl5.mono hm'); (try (have hq0 : hm' = Mem.le_refl _ := rfl; clear hq0 hm'))) | ((with_reducible first | apply At.c1 | apply At.c0); exact rfl; exact rfl; exact k2 _ zml; exact ztk; kernel_rfl; rintro v' m' B' hm' ⟨rfl, p2, c2, rfl, rfl⟩; (try replace sl0 := sl0.mono hm'); (try replace sl5 := sl5.mono hm'); (try (have hq0 : hm' = Mem.le_refl _ := rfl; clear hq0 hm'))) | ((with_reducible apply At.box (d := 2)); exact rfl; exact rfl; exact rfl; intro b2) | ((with_reducible apply At.alloc (d := 4)); exact rfl; exact rfl; intro b4) | ((with_reducible apply At.alloc (d := 11)); exact rfl; exact rfl; intro b11) | (refine zsp ?_ ?_ <;> (intro hc; (try simp only [zhcs, reduceCtorEq] at hc); (try (exfalso; first | omega | contradiction | omega | exact absurd rfl hc | exact absurd (by decide) hc))))))
  have k3' := fun (m2 : Mem) (h : m'.le m2) => k3 m2 (Mem.le_trans (by assumption) h)
  clear k1 k2 k3 hk hk2 hb hb1 hf
  (refine At.loopk (σ := SK) [4, 6, 8, 35, 36] (fun s F0 => (37, .int .i64 (s.i : Int)) :: (9, .int .i64 (s.n : Int)) :: F0) (fun s => m') (fun s => .blk b4 27 [.int .u64 0, .int .u64 0, .int .u64 0, .int .u64 0] :: .own sm 2 57 p1 c1 [f] :: .own sm 2 57 p2 c2 l :: Rest) (fun s => s.i ≤ l.length ∧ s.n = cnt f (l.take s.i)) (fun s => l.length - s.i) ⟨0, 0⟩ (by rfl) ?_ zsubs zml zente ?_)
  · exact ⟨Nat.zero_le _, rfl⟩
  rintro ⟨i, n⟩ ⟨hi, hn⟩
  dsimp only at hi hn ⊢
  by_cases h : i < l.length
  · have e1 := cnt_snoc (f := f) h
    rw [← hn] at e1
    have hcn := cnt_le f (l.take i)
    rw [← hn, List.length_take] at hcn
    have k6 := compare_ l[i]! f (hsl _ (Ls.mem! h)) hsf
    have hcf := cfi_lq l[i]! f
    generalize cfi l[i]! f = r at k6 hcf
    by_cases hq : lq l[i]! f = true
    · rw [if_pos hq] at e1
      have hr := hcf.2 hq
      clear hcf hsl hsf k3' k4 k5 hcl
      (repeat' (first | refine zss ?_ | ((first | (with_reducible first | apply At.val | apply AtQ.val)); (exact zprA); exact rfl) | refine zsO ?_ | ((with_reducible first | apply AtM1.callp | apply AtQ.callp | apply At.callp); kernel_rfl; exact rfl; exact rfl; exact k6) | ((with_reducible apply At.box (d := 2)); exact rfl; exact rfl; exact rfl; intro b2) | ((with_reducible apply At.alloc (d := 4)); exact rfl; exact rfl; intro b4) | ((with_reducible apply At.alloc (d := 11)); exact rfl; exact rfl; intro b11) | (refine zsp ?_ ?_ <;> (intro hc; (try simp only [zhcs, reduceCtorEq] at hc); (try (exfalso; first | omega | contradiction | omega | exact absurd rfl hc | exact absurd (by decide) hc))))))
      all_goals ((with_reducible refine At.reachk (⟨i + 1, n + 1⟩) ?_ ?_ ?_ ?_); exact zsubs; exact zml; exact zente; exact ⟨⟨h, e1.symm⟩, by dsimp only; omega⟩)
    · rw [if_neg hq] at e1
      have hr : ¬ r ≤ 0 := fun e => hq (hcf.1 e)
      clear hcf hsl hsf k3' k4 k5 hcl
      (repeat' (first | refine zss ?_ | ((first | (with_reducible first | apply At.val | apply AtQ.val)); (exact zprA); exact rfl) | refine zsO ?_ | ((with_reducible first | apply AtM1.callp | apply AtQ.callp | apply At.callp); kernel_rfl; exact rfl; exact rfl; exact k6) | ((with_reducible apply At.box (d := 2)); exact rfl; exact rfl; exact rfl; intro b2) | ((with_reducible apply At.alloc (d := 4)); exact rfl; exact rfl; intro b4) | ((with_reducible apply At.alloc (d := 11)); exact rfl; exact rfl; intro b11) | (refine zsp ?_ ?_ <;> (intro hc; (try simp only [zhcs, reduceCtorEq] at hc); (try (exfalso; first | omega | contradiction | omega | exact absurd rfl hc | exact absurd (by decide) hc))))))
      all_goals ((with_reducible refine At.reachk (⟨i + 1, n⟩) ?_ ?_ ?_ ?_); exact zsubs; exact zml; exact zente; exact ⟨⟨h, e1.symm⟩, by dsimp only; omega⟩)
  · rw [List.take_of_length_le (by omega)] at hn
    subst hn
    clear hsl hsf hi
    (repeat' (first | refine zss ?_ | ((first | (with_reducible first | apply At.val | apply AtQ.val)); (exact zprA); exact rfl) | refine zsO ?_ | ((with_reducible first | apply AtM1.callp | apply AtQ.callp | apply At.callp); kernel_rfl; exact rfl; exact rfl; exact k4) | ((with_reducible first | apply AtM1.callp | apply AtQ.callp | apply At.callp); kernel_rfl; exact rfl; exact rfl; exact k5) | ((with_reducible first | apply AtM1.cr | apply AtQ.cr | apply At.cr); exact rfl; exact rfl; exact fun _ hmm => k3' _ hmm; exact ztk; kernel_rfl) | fail | ((with_reducible apply At.box (d := 2)); exact rfl; exact rfl; exact rfl; intro b2) | ((with_reducible apply At.alloc (d := 4)); exact rfl; exact rfl; intro b4) | ((with_reducible apply At.alloc (d := 11)); exact rfl; exact rfl; intro b11) | (refine zsp ?_ ?_ <;> (intro hc; (try simp only [zhcs, reduceCtorEq] at hc); (try (exfalso; first | omega | contradiction | omega | exact absurd rfl hc | exact absurd (by decide) hc))))))
    all_goals ((with_reducible apply At.retV (B := [])); exact rfl; (repeat' (first | exact RVs.nil | (with_reducible apply RVs.cons) | exact rv_tmp (by rfl) | exact rv_cellN (by rfl) (by repeat constructor) (by rfl) (by rfl) (by rfl) | exact rv_cell1 (by rfl) (by repeat constructor) (by rfl) (by rfl) | exact rv_cellA (by rfl) (by repeat constructor) (by rfl) (by rfl) zlq)); exact zml; exact zkp; exact ⟨rfl, zml, rfl⟩)
end Qu
end Go.Proofs.YtmnlmmbfjfgfeaaDoor
/- Ratios: Rate. -/
set_option linter.unusedSimpArgs false
set_option linter.unusedVariables false
set_option linter.unusedSectionVars false
set_option maxRecDepth 20000
set_option maxHeartbeats 4000000
namespace Go.Proofs.YtmnlmmbfjfgfeaaDoor
open Go Go.J
attribute [local irreducible] At AtQ AtM AtM1 PR Ct Pu Rd Res.blk Res.own Res.ex RVs RV
namespace Ra
open Wide
def rat (x k : Nat) : (Nat × Nat) × Int := if k = 0 then ((0, 0), 12) else if sE (x * 1000) ≠ 0 then ((0, 0), sE (x * 1000)) else red (x * 1000) k
theorem sE_cases (x : Nat) : sE x = 0 ∨ sE x = 1 := by
  unfold sE
  by_cases h : x < 340282366920938463463374607431768211456
  · rw [if_pos h]; exact .inl rfl
  · rw [if_neg h]; exact .inr rfl
end Ra
end Go.Proofs.YtmnlmmbfjfgfeaaDoor
/- The document's numbers, as sixteen bytes. -/
set_option linter.unusedSimpArgs false
set_option linter.unusedVariables false
set_option linter.unusedSectionVars false
set_option maxRecDepth 20000
set_option maxHeartbeats 4000000
namespace Go.Proofs.YtmnlmmbfjfgfeaaDoor
open Go Go.J
attribute [local irreducible] At AtQ AtM AtM1 PR Ct Pu Rd Res.blk Res.own Res.ex RVs RV
namespace Wide
def tab (f : Nat → Nat) : List Int := (List.range 16).map (fun i => ((f i : Nat) : Int))
def dg (S i : Nat) : Nat := S / 256 ^ i % 256
abbrev gi : Int → Value := fun x => .int .i64 x
abbrev av (f : Nat → Nat) : Value := .agg ((tab f).map gi).toArray
theorem tab_len (f : Nat → Nat) : (tab f).length = 16 := by simp [tab]
theorem tabm_len (f : Nat → Nat) : ((tab f).map gi).length = 16 := by simp [tab]
theorem all_gi (l : List Int) : (l.map gi).all oneCell = true := by
  rw [List.all_eq_true]; intro x hx; obtain ⟨y, -, rfl⟩ := List.mem_map.1 hx; rfl
theorem tab_get (f : Nat → Nat) {i : Nat} (h : i < 16) : (tab f)[i]! = (f i : Int) := by
  rw [getElem!_pos _ i (by rw [tab_len]; exact h)]; simp [tab]
theorem tab_congr {f g : Nat → Nat} (h : ∀ j, j < 16 → f j = g j) : tab f = tab g := by
  unfold tab
  apply List.map_congr_left
  intro j hj
  rw [h j (List.mem_range.1 hj)]
theorem tab_set (f : Nat → Nat) {k : Nat} (v : Nat) (h : k < 16) : (tab f).set k (v : Int) = tab (fun j => if j = k then v else f j) := by
  apply List.ext_getElem (by simp [tab])
  intro j h1 h2
  rw [List.getElem_set]
  simp only [tab, List.getElem_map, List.getElem_range]
  by_cases e : k = j
  · subst e; simp
  · rw [if_neg e, if_neg (Ne.symm e)]
theorem pr_load_tab {n : Nat} {w0 : World} {F : Fr} {m : Mem} {Rs : List Res} {f : Nat → Nat} {x : Operand} {t : TypeId} {b k : Nat} {E : TypeId} {Rs' : List Res} (hx : ev F x = some (.pointer (some ⟨b, k, none⟩))) (hp : Pick Rs (.blk b E ((tab f).map gi)) Rs') (ht : isAggB Tryd.prog t = some false) (hk : k < 16) :
    PR Tryd.prog n F (HW w0 m Rs) (.load t x) (.int .i64 ((f k : Nat) : Int)) := by
  have := pr_load_arr (n := n) (w0 := w0) (m := m) (P := Tryd.prog) (g := gi) hx hp ht (by rw [tab_len]; exact hk)
  rwa [tab_get f hk] at this
theorem dg_lt (S i : Nat) : dg S i < 256 := Nat.mod_lt _ (by decide)
theorem pow256 (i : Nat) : (2 : Int) ^ (8 * (i : Int)).toNat = ((256 ^ i : Nat) : Int) := by
  rw [show (8 * (i : Int)).toNat = 8 * i by omega, show (256 : Nat) ^ i = 2 ^ (8 * i) by rw [Nat.pow_mul], Int.natCast_pow]; rfl
theorem lo_div (x : Nat) {i : Nat} (hi : i < 8) : x % 18446744073709551616 / 256 ^ i % 256 = dg x i := by
  have e : (18446744073709551616 : Nat) = 256 ^ i * 256 ^ (8 - i) := by rw [← Nat.pow_add, show i + (8 - i) = 8 by omega]
  rw [e, Nat.mod_mul_right_div_self]
  have hd : (256 : Nat) ∣ 256 ^ (8 - i) := by
    rw [show 8 - i = (7 - i) + 1 by omega, Nat.pow_succ]; exact Nat.dvd_mul_left _ _
  rw [Nat.mod_mod_of_dvd _ hd]; rfl
theorem hi_div (x i : Nat) : x / 18446744073709551616 / 256 ^ i % 256 = dg x (8 + i) := by
  unfold dg
  rw [Nat.div_div_eq_div_mul, show (18446744073709551616 : Nat) = 256 ^ 8 from rfl, ← Nat.pow_add]
theorem and255 (y : Nat) (h : y < 18446744073709551616) : bits .and .u64 (y : Int) 255 = ((y % 256 : Nat) : Int) := by
  rw [u64_and _ _ (by omega) (by omega) (by decide) (by decide), Int.toNat_natCast, show ((255 : Int)).toNat = 255 from rfl, nat_mask8]
theorem lo_dig (x : Nat) {i : Nat} (hi : i < 8) : bits .and .u64 (((x % 18446744073709551616 : Nat) : Int) / 2 ^ (8 * (i : Int)).toNat) 255 = ((dg x i : Nat) : Int) := by
  rw [pow256, ← Int.natCast_ediv, and255 _ (Nat.lt_of_le_of_lt (Nat.div_le_self _ _) (Nat.mod_lt _ (by decide))), lo_div x hi]
theorem hi_dig (x i : Nat) (hx : x < 340282366920938463463374607431768211456) : bits .and .u64 (((x / 18446744073709551616 : Nat) : Int) / 2 ^ (8 * (i : Int)).toNat) 255 = ((dg x (8 + i) : Nat) : Int) := by
  rw [pow256, ← Int.natCast_ediv, and255 _ (Nat.lt_of_le_of_lt (Nat.div_le_self _ _) (by omega)), hi_div x i]

theorem bytes (x : Nat) (hx : x < 340282366920938463463374607431768211456) : Pu Tryd.prog 49 #[wv x] (av (dg x)) := Pu.intro fun m => by
  refine Ct.enterV (by rfl) Tryd.func49 rfl Tryd.ntmps49 rfl (fun w0 Rest => ?_)
  (repeat' (first | refine zss ?_ | ((first | (with_reducible first | apply At.val | apply AtQ.val)); (exact zprA); exact rfl) | refine zs0 ?_ | ((with_reducible apply At.box (d := 1)); exact rfl; exact rfl; exact rfl; intro b1) | ((with_reducible apply At.alloc (d := 2)); exact rfl; exact rfl; intro b2) | ((with_reducible apply At.alloc (d := 3)); exact rfl; exact rfl; intro b3) | (refine zsp ?_ ?_ <;> (intro hc; (try simp only [zhcs, reduceCtorEq] at hc); (try (exfalso; first | contradiction | omega | exact absurd rfl hc | exact absurd (by decide) hc))))))
  (refine At.loopk (σ := Nat) [1, 2, 3] (fun s F0 => (4, .int .i64 (s : Int)) :: F0) (fun s => m) (fun s => .blk b3 77 ((tab (fun j => if j < s ∨ (8 ≤ j ∧ j < 8 + s) then dg x j else 0)).map gi) :: .blk b2 77 ((tab (fun _ => 0)).map gi) :: .blk b1 25 (wd x) :: Rest) (fun s => s ≤ 8) (fun s => 8 - s) 0 (by rfl) ?_ zsubs zml zente ?_)
  · exact Nat.zero_le _
  intro s hs
  by_cases h : s < 8
  · have h1 := dg_lt x s
    have h2 := dg_lt x (8 + s)
    have hl := tab_len (fun j => if j < s ∨ (8 ≤ j ∧ j < 8 + s) then dg x j else 0)
    (repeat' (first | refine zss ?_ | ((first | (with_reducible first | apply At.val | apply AtQ.val)); (first | exact pr_and (by rfl) (by rfl) (lo_dig x h) | exact pr_and (by rfl) (by rfl) (hi_dig x s hx) | exact zprA); exact rfl) | refine zs0 ?_ | ((with_reducible apply At.storeArr (g := gi) (((dg x s : Nat) : Int))); exact rfl; exact rfl; exact rfl; exact rfl; exact rfl; exact rfl; exact (by repeat constructor); (first | omega | (simp only [lns] <;> omega))) | ((with_reducible apply At.storeArr (g := gi) (((dg x (8 + s) : Nat) : Int))); exact rfl; exact rfl; exact rfl; exact rfl; exact rfl; exact rfl; exact (by repeat constructor); (first | omega | (simp only [lns] <;> omega))) | ((with_reducible apply At.box (d := 1)); exact rfl; exact rfl; exact rfl; intro b1) | ((with_reducible apply At.alloc (d := 2)); exact rfl; exact rfl; intro b2) | ((with_reducible apply At.alloc (d := 3)); exact rfl; exact rfl; intro b3) | (refine zsp ?_ ?_ <;> (intro hc; (try simp only [zhcs, reduceCtorEq] at hc); (try (exfalso; first | omega | contradiction | omega | exact absurd rfl hc | exact absurd (by decide) hc))))))
    have e : ((tab (fun j => if j < s ∨ (8 ≤ j ∧ j < 8 + s) then dg x j else 0)).set s ((dg x s : Nat) : Int)).set (8 + s) ((dg x (8 + s) : Nat) : Int) = tab (fun j => if j < s + 1 ∨ (8 ≤ j ∧ j < 8 + (s + 1)) then dg x j else 0) := by
      rw [tab_set _ _ (by omega), tab_set _ _ (by omega)]
      apply tab_congr
      intro j hj
      by_cases e1 : j = 8 + s
      · subst e1; rw [if_pos rfl, if_pos (by omega)]
      · rw [if_neg e1]
        by_cases e2 : j = s
        · subst e2; rw [if_pos rfl, if_pos (by omega)]
        · rw [if_neg e2]
          by_cases e3 : j < s ∨ (8 ≤ j ∧ j < 8 + s)
          · rw [if_pos e3, if_pos (by omega)]
          · rw [if_neg e3, if_neg (by omega)]
    all_goals (rw [e])
    all_goals ((with_reducible refine At.reachk ((s + 1)) ?_ ?_ ?_ ?_); exact zsubs; exact zml; exact zente; exact ⟨by omega, by omega⟩)
  · have e : tab (fun j => if j < s ∨ (8 ≤ j ∧ j < 8 + s) then dg x j else 0) = tab (dg x) := tab_congr fun j hj => by rw [if_pos (by omega)]
    rw [e]
    have hl := tabm_len (dg x)
    have hl0 := tabm_len (fun _ => 0)
    (repeat' (first | refine zss ?_ | ((first | (with_reducible first | apply At.val | apply AtQ.val)); (exact zprA); exact rfl) | refine zs0 ?_ | ((with_reducible apply At.storeA); exact rfl; exact rfl; exact rfl; exact all_gi _; exact (by repeat constructor); (first | exact rfl | (first | omega | (simp only [lns] <;> omega))); (first | exact rfl | (first | omega | (simp only [lns] <;> omega)))) | ((with_reducible apply At.box (d := 1)); exact rfl; exact rfl; exact rfl; intro b1) | ((with_reducible apply At.alloc (d := 2)); exact rfl; exact rfl; intro b2) | ((with_reducible apply At.alloc (d := 3)); exact rfl; exact rfl; intro b3) | (refine zsp ?_ ?_ <;> (intro hc; (try simp only [zhcs, reduceCtorEq] at hc); (try (exfalso; first | omega | contradiction | omega | exact absurd rfl hc | exact absurd (by decide) hc))))))
    all_goals ((with_reducible apply At.retV (B := [])); exact rfl; (repeat' (first | exact RVs.nil | (with_reducible apply RVs.cons) | exact rv_tmp (by rfl) | exact rv_cellN (by rfl) (by repeat constructor) (by rfl) (by rfl) (by rfl) | exact rv_cell1 (by rfl) (by repeat constructor) (by rfl) (by rfl) | exact rv_cellA (by rfl) (by repeat constructor) (by rfl) (by rfl) zlq)); exact zml; exact zkp; exact ⟨rfl, rfl, rfl⟩)

/-! ### the number that sixteen bytes stand for -/
theorem dig_succ (S i : Nat) : S % 256 ^ (i + 1) = S % 256 ^ i + 256 ^ i * dg S i := Nat.mod_pow_succ
theorem or_dig {q d i : Nat} (hq : q < 256 ^ i) (hd : d < 256) (hi : i < 8) : bits .or .u64 (q : Int) (((d : Int) * 2 ^ (8 * (i : Int)).toNat) % 18446744073709551616) = ((q + 256 ^ i * d : Nat) : Int) := by
  have e : (18446744073709551616 : Nat) = 256 ^ i * 256 ^ (8 - i) := by rw [← Nat.pow_add, show i + (8 - i) = 8 by omega]
  have h1 : d * 256 ^ i < 18446744073709551616 := by
    rw [e, Nat.mul_comm]
    refine Nat.mul_lt_mul_of_pos_left (Nat.lt_of_lt_of_le hd ?_) (Nat.pow_pos (by decide))
    rw [show (256 : Nat) = 256 ^ 1 from rfl, ← Nat.pow_mul, Nat.one_mul]
    exact Nat.pow_le_pow_right (by decide) (by omega)
  have h2 : q < 18446744073709551616 := by
    refine Nat.lt_of_lt_of_le hq ?_
    rw [show (18446744073709551616 : Nat) = 256 ^ 8 from rfl]
    exact Nat.pow_le_pow_right (by decide) (by omega)
  rw [pow256, ← Int.natCast_mul, Int.emod_eq_of_lt (by omega) (by omega), u64_or _ _ (by omega) (by omega) (by omega) (by omega), Int.toNat_natCast, Int.toNat_natCast]
  congr 1
  rw [show (256 : Nat) ^ i = 2 ^ (8 * i) by rw [Nat.pow_mul]] at hq ⊢
  rw [Nat.or_comm, Nat.mul_comm, ← Nat.two_pow_add_eq_or_of_lt hq, Nat.add_comm]
theorem hi_dg (x i : Nat) : dg (x / 18446744073709551616) i = dg x (8 + i) := by
  unfold dg; exact hi_div x i
structure OS where
  (i : Nat) (h : Nat) (l : Nat)
theorem of_r (x : Nat) (hx : x < 340282366920938463463374607431768211456) : Pu Tryd.prog 52 #[av (dg x)] (wv x) := Pu.intro fun m => by
  refine Ct.enterV (by rfl) Tryd.func52 rfl Tryd.ntmps52 rfl (fun w0 Rest => ?_)
  have hl := tabm_len (dg x)
  have hl1 := tab_len (dg x)
  (repeat' (first | refine zss ?_ | ((first | (with_reducible first | apply At.val | apply AtQ.val)); (exact zprA); exact rfl) | refine zs0 ?_ | ((with_reducible apply At.boxA (d := 1)); exact rfl; exact rfl; intro b1) | ((with_reducible apply At.box (d := 1)); exact rfl; exact rfl; exact rfl; intro b1) | ((with_reducible apply At.alloc (d := 2)); exact rfl; exact rfl; intro b2) | ((with_reducible apply At.alloc (d := 3)); exact rfl; exact rfl; intro b3) | (refine zsp ?_ ?_ <;> (intro hc; (try simp only [zhcs, reduceCtorEq] at hc); (try (exfalso; first | contradiction | omega | exact absurd rfl hc | exact absurd (by decide) hc))))))
  (refine At.loopk (σ := OS) [1, 2, 3] (fun s F0 => (4, .int .i64 (s.i : Int)) :: F0) (fun s => m) (fun s => .blk b3 25 [.int .u64 (s.h : Int), .int .u64 (s.l : Int)] :: .blk b2 25 (wd 0) :: .blk b1 77 ((tab (dg x)).map gi) :: Rest) (fun s => s.i ≤ 8 ∧ s.h = x / 18446744073709551616 % 256 ^ s.i ∧ s.l = x % 256 ^ s.i) (fun s => 8 - s.i) ⟨0, 0, 0⟩ (by rfl) ?_ zsubs zml zente ?_)
  · exact ⟨Nat.zero_le _, by rw [Nat.pow_zero, Nat.mod_one], by rw [Nat.pow_zero, Nat.mod_one]⟩
  rintro ⟨s, p, q⟩ ⟨hs, hp, hq⟩
  dsimp only at hs hp hq ⊢
  by_cases h : s < 8
  · have h1 := dg_lt x s
    have h2 := dg_lt x (8 + s)
    have hp0 : p < 256 ^ s := hp ▸ Nat.mod_lt _ (Nat.pow_pos (by decide))
    have hq0 : q < 256 ^ s := hq ▸ Nat.mod_lt _ (Nat.pow_pos (by decide))
    (repeat' (first | ((with_reducible apply At.mixed (id := 5) 12 (.q 0 (.q 1 (.q 2 (.q 3 (.q 4 (.q 5 (.q 6 (.q 7 (.q 8 (.q 9 (.q 10 (.x 11 .done))))))))))))); exact rfl; kernel_rfl; kernel_rfl; kernel_rfl) | ((with_reducible apply At.mixed (id := 6) 13 (.q 0 (.q 1 (.q 2 (.q 3 (.q 4 (.q 5 (.q 6 (.q 7 (.q 8 (.q 9 (.q 10 (.q 11 (.x 12 .done)))))))))))))); exact rfl; kernel_rfl; kernel_rfl; kernel_rfl) | refine zsx ?_ | refine zss ?_ | ((with_reducible apply AtM.bo); exact rfl; exact rfl; exact rfl) | ((first | (with_reducible first | apply At.val | apply AtQ.val) | ((with_reducible first | apply AtM1.valz | apply AtM1.val); exact rfl) | ((with_reducible apply AtM1.val); exact rfl)); (first | exact pr_indexArr1 (k := 8 + s) (by rfl) (by rfl) (by rfl) (by rfl) (by omega) | exact pr_load_tab (k := s) (by rfl) (by first | exact pk0 | exact pk1 | exact pk2 | exact pk3) (by rfl) (by omega) | exact pr_load_tab (k := 8 + s) (by rfl) (by first | exact pk0 | exact pk1 | exact pk2 | exact pk3) (by rfl) (by omega) | exact pr_or (by rfl) (by rfl) (or_dig hq0 h1 h) | exact pr_or (by rfl) (by rfl) (or_dig hp0 h2 h) | exact zprA); exact rfl) | refine zs0 ?_ | refine zx0 ?_ | ((with_reducible apply At.box (d := 1)); exact rfl; exact rfl; exact rfl; intro b1) | ((with_reducible apply At.alloc (d := 2)); exact rfl; exact rfl; intro b2) | ((with_reducible apply At.alloc (d := 3)); exact rfl; exact rfl; intro b3) | (refine zsp ?_ ?_ <;> (intro hc; (try simp only [zhcs, reduceCtorEq] at hc); (try (exfalso; first | omega | contradiction | omega | exact absurd rfl hc | exact absurd (by decide) hc))))))
    all_goals ((with_reducible refine At.reachk (⟨s + 1, p + 256 ^ s * dg x (8 + s), q + 256 ^ s * dg x s⟩) ?_ ?_ ?_ ?_); exact zsubs; exact zml; exact zente; exact ⟨⟨Nat.succ_le_of_lt h, by show p + _ = _; rw [dig_succ, hp, hi_dg], by show q + _ = _; rw [dig_succ, hq]⟩, by show 8 - (s + 1) < 8 - s; omega⟩)
  · have e8 : s = 8 := by omega
    subst e8
    have e : (256 : Nat) ^ 8 = 18446744073709551616 := rfl
    rw [e] at hp hq
    rw [Nat.mod_eq_of_lt (by omega)] at hp
    subst hp hq
    (repeat' (first | refine zss ?_ | ((first | (with_reducible first | apply At.val | apply AtQ.val)); (exact zprA); exact rfl) | refine zs0 ?_ | ((with_reducible apply At.box (d := 1)); exact rfl; exact rfl; exact rfl; intro b1) | ((with_reducible apply At.alloc (d := 2)); exact rfl; exact rfl; intro b2) | ((with_reducible apply At.alloc (d := 3)); exact rfl; exact rfl; intro b3) | (refine zsp ?_ ?_ <;> (intro hc; (try simp only [zhcs, reduceCtorEq] at hc); (try (exfalso; first | omega | contradiction | omega | exact absurd rfl hc | exact absurd (by decide) hc))))))
    all_goals ((with_reducible apply At.retV (B := [])); exact rfl; (repeat' (first | exact RVs.nil | (with_reducible apply RVs.cons) | exact rv_tmp (by rfl) | exact rv_cellN (by rfl) (by repeat constructor) (by rfl) (by rfl) (by rfl) | exact rv_cell1 (by rfl) (by repeat constructor) (by rfl) (by rfl) | exact rv_cellA (by rfl) (by repeat constructor) (by rfl) (by rfl) zlq)); exact zml; exact zkp; exact ⟨rfl, rfl, rfl⟩)

/-! ### the sum, digit by digit -/
theorem pr_load_tabv {n : Nat} {w0 : World} {F : Fr} {m : Mem} {Rs : List Res} {f : Nat → Nat} {x : Operand} {t : TypeId} {b k v : Nat} {E : TypeId} {Rs' : List Res} (hx : ev F x = some (.pointer (some ⟨b, k, none⟩))) (hp : Pick Rs (.blk b E ((tab f).map gi)) Rs') (ht : isAggB Tryd.prog t = some false) (hk : k < 16) (hv : f k = v) :
    PR Tryd.prog n F (HW w0 m Rs) (.load t x) (.int .i64 ((v : Nat) : Int)) := hv ▸ pr_load_tab hx hp ht hk
def cy (x y i : Nat) : Nat := (x % 256 ^ i + y % 256 ^ i) / 256 ^ i
theorem cy_lt (x y i : Nat) : cy x y i < 2 := by
  have h : 0 < 256 ^ i := Nat.pow_pos (by decide)
  unfold cy
  rw [Nat.div_lt_iff_lt_mul h]
  have h1 := Nat.mod_lt x h
  have h2 := Nat.mod_lt y h
  omega
theorem cy_succ (x y i : Nat) : (dg x i + dg y i + cy x y i) / 256 = cy x y (i + 1) := by
  have h : 0 < 256 ^ i := Nat.pow_pos (by decide)
  unfold cy
  rw [dig_succ, dig_succ, Nat.pow_succ, ← Nat.div_div_eq_div_mul]
  congr 1
  rw [show x % 256 ^ i + 256 ^ i * dg x i + (y % 256 ^ i + 256 ^ i * dg y i) = (x % 256 ^ i + y % 256 ^ i) + 256 ^ i * (dg x i + dg y i) by rw [Nat.mul_add]; omega, Nat.add_mul_div_left _ _ h]
  omega
theorem cy_dig (x y i : Nat) : (dg x i + dg y i + cy x y i) % 256 = dg (x + y) i := by
  have h : 0 < 256 ^ i := Nat.pow_pos (by decide)
  unfold dg cy
  have e : (x + y) / 256 ^ i = x / 256 ^ i + y / 256 ^ i + (x % 256 ^ i + y % 256 ^ i) / 256 ^ i := by
    conv => lhs; rw [← Nat.mod_add_div x (256 ^ i), ← Nat.mod_add_div y (256 ^ i)]
    rw [show x % 256 ^ i + 256 ^ i * (x / 256 ^ i) + (y % 256 ^ i + 256 ^ i * (y / 256 ^ i)) = (x % 256 ^ i + y % 256 ^ i) + 256 ^ i * (x / 256 ^ i + y / 256 ^ i) by rw [Nat.mul_add]; omega, Nat.add_mul_div_left _ _ h]
    omega
  rw [e]; omega
theorem cy_end (x y : Nat) (hx : x < 340282366920938463463374607431768211456) (hy : y < 340282366920938463463374607431768211456) : cy x y 16 = (x + y) / 340282366920938463463374607431768211456 := by
  unfold cy
  rw [show (256 : Nat) ^ 16 = 340282366920938463463374607431768211456 from rfl, Nat.mod_eq_of_lt hx, Nat.mod_eq_of_lt hy]
structure AS where
  (i : Nat) (c : Nat)
theorem add_r (x y : Nat) (hx : x < 340282366920938463463374607431768211456) (hy : y < 340282366920938463463374607431768211456) : Pu Tryd.prog 48 #[wv x, wv y] (.tuple #[wv (sV (x + y)), .int .i64 (sE (x + y))]) := Pu.intro fun m => by
  have hlx := tab_len (dg x)
  have hly := tab_len (dg y)
  have hmx := tabm_len (dg x)
  have hmy := tabm_len (dg y)
  refine Ct.enterV (by rfl) Tryd.func48 rfl Tryd.ntmps48 rfl (fun w0 Rest => ?_)
  (repeat' (first | ((with_reducible apply At.mixed (id := 1) 8 (.q 0 (.q 1 (.q 2 (.q 3 (.b 4 5 (.l 5 (.x 6 (.x 7 .done))) (.l 4 (.x 6 (.x 7 .done))))))))); exact rfl; kernel_rfl; kernel_rfl; kernel_rfl) | refine zsx ?_ | refine zss ?_ | ((with_reducible apply AtM.bo); exact rfl; exact rfl; exact rfl) | ((first | (with_reducible first | apply At.val | apply AtQ.val) | ((with_reducible first | apply AtM1.valz | apply AtM1.val); exact rfl) | ((with_reducible apply AtM1.val); exact rfl)); (exact zprA); exact rfl) | refine zs0 ?_ | refine zx0 ?_ | ((with_reducible first | apply AtM1.callp | apply AtQ.callp | apply At.callp); kernel_rfl; exact rfl; exact rfl; exact bytes x hx) | ((with_reducible first | apply AtM1.callp | apply AtQ.callp | apply At.callp); kernel_rfl; exact rfl; exact rfl; exact bytes y hy) | ((with_reducible apply At.storeA); exact rfl; exact rfl; exact rfl; exact all_gi _; exact (by repeat constructor); (first | exact rfl | (first | omega | (simp only [lns] <;> omega))); (first | exact rfl | (first | omega | (simp only [lns] <;> omega)))) | ((with_reducible apply At.box (d := 2)); exact rfl; exact rfl; exact rfl; intro b2) | ((with_reducible apply At.box (d := 3)); exact rfl; exact rfl; exact rfl; intro b3) | ((with_reducible apply At.alloc (d := 4)); exact rfl; exact rfl; intro b4) | ((with_reducible apply At.alloc (d := 6)); exact rfl; exact rfl; intro b6) | ((with_reducible apply At.alloc (d := 7)); exact rfl; exact rfl; intro b7) | (refine zsp ?_ ?_ <;> (intro hc; (try simp only [zhcs, reduceCtorEq] at hc); (try (exfalso; first | contradiction | omega | exact absurd rfl hc | exact absurd (by decide) hc))))))
  all_goals (refine At.loopk (σ := AS) [4, 6, 7] (fun s F0 => (15, .int .i64 (s.i : Int)) :: (8, .int .i64 (s.c : Int)) :: F0) (fun s => m) (fun s => .blk b7 77 ((tab (dg y)).map gi) :: .blk b6 77 ((tab (fun j => if j < s.i then dg (x + y) j else dg x j)).map gi) :: .blk b4 25 (wd 0) :: Rest) (fun s => s.i ≤ 16 ∧ s.c = cy x y s.i) (fun s => 16 - s.i) ⟨0, 0⟩ (by rfl) ?_ zsubs zml zente ?_)
  all_goals try exact ⟨Nat.zero_le _, by simp [cy, Nat.mod_one]⟩
  all_goals
    rintro ⟨s, c⟩ ⟨hs, hc0⟩
    dsimp only at hs hc0 ⊢
    have hc2 := cy_lt x y s
    rw [← hc0] at hc2
    by_cases h : s < 16
    · have h1 := dg_lt x s
      have h2 := dg_lt y s
      have hl := tab_len (fun j => if j < s then dg (x + y) j else dg x j)
      (repeat' (first | refine zss ?_ | ((first | (with_reducible first | apply At.val | apply AtQ.val)); (first | exact pr_load_tabv (k := s) (v := dg x s) (by rfl) (by first | exact pk0 | exact pk1 | exact pk2 | exact pk3) (by rfl) (by omega) (if_neg (Nat.lt_irrefl s)) | exact pr_load_tab (k := s) (by rfl) (by first | exact pk0 | exact pk1 | exact pk2 | exact pk3) (by rfl) (by omega) | exact zprA); exact rfl) | refine zs0 ?_ | ((with_reducible apply At.storeArr (g := gi) (((((dg x s : Nat) : Int) + ((dg y s : Nat) : Int) + (c : Int)) % 256))); exact rfl; exact rfl; exact rfl; exact rfl; exact rfl; exact rfl; exact (by repeat constructor); (first | omega | (simp only [lns] <;> omega))) | ((with_reducible apply At.box (d := 2)); exact rfl; exact rfl; exact rfl; intro b2) | ((with_reducible apply At.box (d := 3)); exact rfl; exact rfl; exact rfl; intro b3) | ((with_reducible apply At.alloc (d := 4)); exact rfl; exact rfl; intro b4) | ((with_reducible apply At.alloc (d := 6)); exact rfl; exact rfl; intro b6) | ((with_reducible apply At.alloc (d := 7)); exact rfl; exact rfl; intro b7) | (refine zsp ?_ ?_ <;> (intro hc; (try simp only [zhcs, reduceCtorEq] at hc); (try (exfalso; first | omega | contradiction | omega | exact absurd rfl hc | exact absurd (by decide) hc))))))
      have e : (tab (fun j => if j < s then dg (x + y) j else dg x j)).set s ((((dg x s : Nat) : Int) + ((dg y s : Nat) : Int) + (c : Int)) % 256) = tab (fun j => if j < s + 1 then dg (x + y) j else dg x j) := by
        rw [show (((dg x s : Nat) : Int) + ((dg y s : Nat) : Int) + (c : Int)) % 256 = ((dg (x + y) s : Nat) : Int) by rw [← cy_dig, ← hc0]; omega, tab_set _ _ h]
        apply tab_congr
        intro j hj
        by_cases e1 : j = s
        · subst e1; rw [if_pos rfl, if_pos (by omega)]
        · rw [if_neg e1]
          by_cases e2 : j < s
          · rw [if_pos e2, if_pos (by omega)]
          · rw [if_neg e2, if_neg (by omega)]
      all_goals (rw [e])
      all_goals ((with_reducible refine At.reachk (⟨s + 1, (dg x s + dg y s + c) / 256⟩) ?_ ?_ ?_ ?_); exact zsubs; exact zml; exact zente; exact ⟨⟨Nat.succ_le_of_lt h, by show _ / 256 = _; rw [hc0, cy_succ]⟩, by show 16 - (s + 1) < 16 - s; omega⟩)
    · have e16 : s = 16 := by omega
      subst e16
      rw [cy_end x y hx hy] at hc0
      have e : tab (fun j => if j < 16 then dg (x + y) j else dg x j) = tab (dg (x + y)) := tab_congr fun j hj => if_pos hj
      rw [e]
      by_cases ho : x + y < 340282366920938463463374607431768211456
      · have e1 : sV (x + y) = x + y := if_pos ho
        have e2 : sE (x + y) = 0 := if_pos ho
        rw [e1, e2]
        have hlz := tabm_len (dg (x + y))
        (repeat' (first | refine zss ?_ | ((first | (with_reducible first | apply At.val | apply AtQ.val)); (exact zprA); exact rfl) | refine zs0 ?_ | ((with_reducible first | apply AtM1.callp | apply AtQ.callp | apply At.callp); kernel_rfl; exact rfl; exact rfl; exact of_r (x + y) ho) | ((with_reducible apply At.box (d := 2)); exact rfl; exact rfl; exact rfl; intro b2) | ((with_reducible apply At.box (d := 3)); exact rfl; exact rfl; exact rfl; intro b3) | ((with_reducible apply At.alloc (d := 4)); exact rfl; exact rfl; intro b4) | ((with_reducible apply At.alloc (d := 6)); exact rfl; exact rfl; intro b6) | ((with_reducible apply At.alloc (d := 7)); exact rfl; exact rfl; intro b7) | (refine zsp ?_ ?_ <;> (intro hc; (try simp only [zhcs, reduceCtorEq] at hc); (try (exfalso; first | omega | contradiction | omega | exact absurd rfl hc | exact absurd (by decide) hc))))))
        all_goals ((with_reducible apply At.retV (B := [])); exact rfl; (repeat' (first | exact RVs.nil | (with_reducible apply RVs.cons) | exact rv_tmp (by rfl) | exact rv_cellN (by rfl) (by repeat constructor) (by rfl) (by rfl) (by rfl) | exact rv_cell1 (by rfl) (by repeat constructor) (by rfl) (by rfl) | exact rv_cellA (by rfl) (by repeat constructor) (by rfl) (by rfl) zlq)); exact zml; exact zkp; exact ⟨rfl, rfl, rfl⟩)
      · have e1 : sV (x + y) = 0 := if_neg ho
        have e2 : sE (x + y) = 1 := if_neg ho
        rw [e1, e2]
        (repeat' (first | refine zss ?_ | ((first | (with_reducible first | apply At.val | apply AtQ.val)); (exact zprA); exact rfl) | refine zs0 ?_ | ((with_reducible apply At.box (d := 2)); exact rfl; exact rfl; exact rfl; intro b2) | ((with_reducible apply At.box (d := 3)); exact rfl; exact rfl; exact rfl; intro b3) | ((with_reducible apply At.alloc (d := 4)); exact rfl; exact rfl; intro b4) | ((with_reducible apply At.alloc (d := 6)); exact rfl; exact rfl; intro b6) | ((with_reducible apply At.alloc (d := 7)); exact rfl; exact rfl; intro b7) | (refine zsp ?_ ?_ <;> (intro hc; (try simp only [zhcs, reduceCtorEq] at hc); (try (exfalso; first | omega | contradiction | omega | exact absurd rfl hc | exact absurd (by decide) hc))))))
        all_goals ((with_reducible apply At.retV (B := [])); exact rfl; (repeat' (first | exact RVs.nil | (with_reducible apply RVs.cons) | exact rv_tmp (by rfl) | exact rv_cellN (by rfl) (by repeat constructor) (by rfl) (by rfl) (by rfl) | exact rv_cell1 (by rfl) (by repeat constructor) (by rfl) (by rfl) | exact rv_cellA (by rfl) (by repeat constructor) (by rfl) (by rfl) zlq)); exact zml; exact zkp; exact ⟨rfl, rfl, rfl⟩)
end Wide
end Go.Proofs.YtmnlmmbfjfgfeaaDoor
/- The document's numbers: the sum of many, which is less, a number many times. -/
set_option linter.unusedSimpArgs false
set_option linter.unusedVariables false
set_option linter.unusedSectionVars false
set_option maxRecDepth 20000
set_option maxHeartbeats 4000000
namespace Go.Proofs.YtmnlmmbfjfgfeaaDoor
open Go Go.J
attribute [local irreducible] At AtQ AtM AtM1 PR Ct Pu Rd Res.blk Res.own Res.ex RVs RV
namespace Wide
theorem top_dg (x s : Nat) : x / 256 ^ s = x / 256 ^ (s + 1) * 256 + dg x s := by
  unfold dg
  rw [Nat.pow_succ, ← Nat.div_div_eq_div_mul]
  omega
theorem lt_dg {x y s : Nat} (h : x / 256 ^ (s + 1) = y / 256 ^ (s + 1)) (hd : dg x s < dg y s) : x < y := by
  have h1 := top_dg x s
  have h2 := top_dg y s
  have h3 : x / 256 ^ s < y / 256 ^ s := by omega
  apply Classical.byContradiction
  intro hn
  have := Nat.div_le_div_right (c := 256 ^ s) (Nat.le_of_not_lt hn)
  omega
theorem less_r (x y : Nat) (hx : x < 340282366920938463463374607431768211456) (hy : y < 340282366920938463463374607431768211456) : Pu Tryd.prog 50 #[wv x, wv y] (.bool (decide (x < y))) := Pu.intro fun m => by
  have hlx := tab_len (dg x)
  have hly := tab_len (dg y)
  have hmx := tabm_len (dg x)
  have hmy := tabm_len (dg y)
  refine Ct.enterV (by rfl) Tryd.func50 rfl Tryd.ntmps50 rfl (fun w0 Rest => ?_)
  (repeat' (first | ((with_reducible apply At.mixed (id := 1) 8 (.q 0 (.q 1 (.q 2 (.q 3 (.b 4 5 (.l 5 (.x 6 (.x 7 .done))) (.l 4 (.x 6 (.x 7 .done))))))))); exact rfl; kernel_rfl; kernel_rfl; kernel_rfl) | refine zsx ?_ | refine zss ?_ | ((with_reducible apply AtM.bo); exact rfl; exact rfl; exact rfl) | ((first | (with_reducible first | apply At.val | apply AtQ.val) | ((with_reducible first | apply AtM1.valz | apply AtM1.val); exact rfl) | ((with_reducible apply AtM1.val); exact rfl)); (exact zprA); exact rfl) | refine zs0 ?_ | refine zx0 ?_ | ((with_reducible first | apply AtM1.callp | apply AtQ.callp | apply At.callp); kernel_rfl; exact rfl; exact rfl; exact bytes x hx) | ((with_reducible first | apply AtM1.callp | apply AtQ.callp | apply At.callp); kernel_rfl; exact rfl; exact rfl; exact bytes y hy) | ((with_reducible apply At.storeA); exact rfl; exact rfl; exact rfl; exact all_gi _; exact (by repeat constructor); (first | exact rfl | (first | omega | (simp only [lns] <;> omega))); (first | exact rfl | (first | omega | (simp only [lns] <;> omega)))) | ((with_reducible apply At.box (d := 2)); exact rfl; exact rfl; exact rfl; intro b2) | ((with_reducible apply At.box (d := 3)); exact rfl; exact rfl; exact rfl; intro b3) | ((with_reducible apply At.alloc (d := 5)); exact rfl; exact rfl; intro b5) | ((with_reducible apply At.alloc (d := 6)); exact rfl; exact rfl; intro b6) | (refine zsp ?_ ?_ <;> (intro hc; (try simp only [zhcs, reduceCtorEq] at hc); (try (exfalso; first | contradiction | omega | exact absurd rfl hc | exact absurd (by decide) hc))))))
  all_goals (refine At.loopk (σ := Nat) [5, 6] (fun s F0 => (7, .int .i64 ((s : Int) - 1)) :: F0) (fun s => m) (fun s => .blk b6 77 ((tab (dg y)).map gi) :: .blk b5 77 ((tab (dg x)).map gi) :: Rest) (fun s => s ≤ 16 ∧ x / 256 ^ s = y / 256 ^ s) (fun s => s) 16 (by rfl) ?_ zsubs zml zente ?_)
  all_goals try exact ⟨Nat.le_refl _, by rw [show (256 : Nat) ^ 16 = 340282366920938463463374607431768211456 from rfl, Nat.div_eq_of_lt hx, Nat.div_eq_of_lt hy]⟩
  all_goals
    rintro s ⟨hs, he⟩
    rcases s with _ | s
    · rw [Nat.pow_zero, Nat.div_one, Nat.div_one] at he
      rw [show decide (x < y) = false from decide_eq_false (by omega)]
      (repeat' (first | refine zss ?_ | ((first | (with_reducible first | apply At.val | apply AtQ.val)); (exact zprA); exact rfl) | refine zs0 ?_ | ((with_reducible apply At.box (d := 2)); exact rfl; exact rfl; exact rfl; intro b2) | ((with_reducible apply At.box (d := 3)); exact rfl; exact rfl; exact rfl; intro b3) | ((with_reducible apply At.alloc (d := 5)); exact rfl; exact rfl; intro b5) | ((with_reducible apply At.alloc (d := 6)); exact rfl; exact rfl; intro b6) | (refine zsp ?_ ?_ <;> (intro hc; (try simp only [zhcs, reduceCtorEq] at hc); (try (exfalso; first | omega | contradiction | omega | exact absurd rfl hc | exact absurd (by decide) hc))))))
      all_goals ((with_reducible apply At.retB1 (B := [])); exact rfl; exact rfl; exact zml; exact zkp; exact ⟨rfl, rfl, rfl⟩)
    · rw [show (((s + 1 : Nat) : Int) - 1) = (s : Int) by omega]
      by_cases hd : dg x s = dg y s
      · have ht : x / 256 ^ s = y / 256 ^ s := by rw [top_dg x s, top_dg y s, he, hd]
        (repeat' (first | ((with_reducible apply At.mixed (id := 1) 8 (.q 0 (.q 1 (.q 2 (.q 3 (.b 4 5 (.l 5 (.x 6 (.x 7 .done))) (.l 4 (.x 6 (.x 7 .done))))))))); exact rfl; kernel_rfl; kernel_rfl; kernel_rfl) | refine zsx ?_ | refine zss ?_ | ((with_reducible apply AtM.bo); exact rfl; exact rfl; exact rfl) | ((first | (with_reducible first | apply At.val | apply AtQ.val) | ((with_reducible first | apply AtM1.valz | apply AtM1.val); exact rfl) | ((with_reducible apply AtM1.val); exact rfl)); (first | exact pr_load_tab (k := s) (by rfl) (by first | exact pk0 | exact pk1 | exact pk2 | exact pk3) (by rfl) (by omega) | exact zprA); exact rfl) | refine zs0 ?_ | refine zx0 ?_ | ((with_reducible apply At.box (d := 2)); exact rfl; exact rfl; exact rfl; intro b2) | ((with_reducible apply At.box (d := 3)); exact rfl; exact rfl; exact rfl; intro b3) | ((with_reducible apply At.alloc (d := 5)); exact rfl; exact rfl; intro b5) | ((with_reducible apply At.alloc (d := 6)); exact rfl; exact rfl; intro b6) | (refine zsp ?_ ?_ <;> (intro hc; (try simp only [zhcs, reduceCtorEq] at hc); (try (exfalso; first | omega | contradiction | omega | exact absurd rfl hc | exact absurd (by decide) hc))))))
        all_goals ((with_reducible refine At.reachk (s) ?_ ?_ ?_ ?_); exact zsubs; exact zml; exact zente; exact ⟨⟨by omega, ht⟩, Nat.lt_succ_self s⟩)
      · have hxy : decide (x < y) = decide (((dg x s : Nat) : Int) < ((dg y s : Nat) : Int)) := by
          by_cases hl : dg x s < dg y s
          · rw [decide_eq_true (lt_dg he hl), decide_eq_true (by omega)]
          · have := lt_dg he.symm (show dg y s < dg x s by omega)
            rw [decide_eq_false (by omega), decide_eq_false (by omega)]
        rw [hxy]
        (repeat' (first | ((with_reducible apply At.mixed (id := 1) 8 (.q 0 (.q 1 (.q 2 (.q 3 (.b 4 5 (.l 5 (.x 6 (.x 7 .done))) (.l 4 (.x 6 (.x 7 .done))))))))); exact rfl; kernel_rfl; kernel_rfl; kernel_rfl) | refine zsx ?_ | refine zss ?_ | ((with_reducible apply AtM.bo); exact rfl; exact rfl; exact rfl) | ((first | (with_reducible first | apply At.val | apply AtQ.val) | ((with_reducible first | apply AtM1.valz | apply AtM1.val); exact rfl) | ((with_reducible apply AtM1.val); exact rfl)); (first | exact pr_load_tab (k := s) (by rfl) (by first | exact pk0 | exact pk1 | exact pk2 | exact pk3) (by rfl) (by omega) | exact zprA); exact rfl) | refine zs0 ?_ | refine zx0 ?_ | ((with_reducible apply At.box (d := 2)); exact rfl; exact rfl; exact rfl; intro b2) | ((with_reducible apply At.box (d := 3)); exact rfl; exact rfl; exact rfl; intro b3) | ((with_reducible apply At.alloc (d := 5)); exact rfl; exact rfl; intro b5) | ((with_reducible apply At.alloc (d := 6)); exact rfl; exact rfl; intro b6) | (refine zsp ?_ ?_ <;> (intro hc; (try simp only [zhcs, reduceCtorEq] at hc); (try (exfalso; first | omega | contradiction | omega | exact absurd rfl hc | exact absurd (by decide) hc))))))
        all_goals ((with_reducible apply At.retB1 (B := [])); exact rfl; exact rfl; exact zml; exact zkp; exact ⟨rfl, rfl, rfl⟩)

structure TS where
  (n : Nat) (a : Nat) (A : Nat) (v : Bool) (o : Nat)
theorem times_r (x k : Nat) (hx : x < 340282366920938463463374607431768211456) (hk : k < 18446744073709551616) : Pu Tryd.prog 32 #[wv x, .int .u64 (k : Int)] (.tuple #[wv (sV (x * k)), .int .i64 (sE (x * k))]) := Pu.intro fun m => by
  refine Ct.enterV (by rfl) Tryd.func32 rfl Tryd.ntmps32 rfl (fun w0 Rest => ?_)
  (repeat' (first | refine zss ?_ | ((first | (with_reducible first | apply At.val | apply AtQ.val)); (exact zprA); exact rfl) | refine zs0 ?_ | ((with_reducible apply At.box (d := 2)); exact rfl; exact rfl; exact rfl; intro b2) | ((with_reducible apply At.alloc (d := 4)); exact rfl; exact rfl; intro b4) | ((with_reducible apply At.alloc (d := 6)); exact rfl; exact rfl; intro b6) | ((with_reducible apply At.alloc (d := 9)); exact rfl; exact rfl; intro b9) | (refine zsp ?_ ?_ <;> (intro hc; (try simp only [zhcs, reduceCtorEq] at hc); (try (exfalso; first | contradiction | omega | exact absurd rfl hc | exact absurd (by decide) hc))))))
  rw [show ([.int .u64 0, .int .u64 0] : List Value) = wd 0 from rfl]
  (refine At.loopk (σ := TS) [2, 4, 6] (fun s F0 => (1, .int .u64 (s.n : Int)) :: (8, .bool s.v) :: F0) (fun s => m) (fun s => .blk b6 25 (wd s.o) :: .blk b4 25 (wd 0) :: .blk b2 25 (wd s.a) :: Rest) (fun s => s.o + s.A * s.n = x * k ∧ s.o < 340282366920938463463374607431768211456 ∧ s.a < 340282366920938463463374607431768211456 ∧ s.n < 18446744073709551616 ∧ (s.v = false → s.a = s.A) ∧ (s.v = true → 340282366920938463463374607431768211456 ≤ s.A)) (fun s => s.n) ⟨k, x, x, false, 0⟩ (by rfl) ?_ zsubs zml zente ?_)
  · exact ⟨by simp, by show 0 < _; decide, hx, hk, fun _ => rfl, (fun h => by cases h)⟩
  rintro ⟨n, a, A, v, o⟩ ⟨h1, h2, h3, h4, h5, h6⟩
  dsimp only at h1 h2 h3 h4 h5 h6 ⊢
  by_cases hn : n = 0
  · subst hn
    have e : o = x * k := by simpa using h1
    rw [show sV (x * k) = o by rw [← e]; exact if_pos h2, show sE (x * k) = 0 by rw [← e]; exact if_pos h2]
    (repeat' (first | refine zss ?_ | ((first | (with_reducible first | apply At.val | apply AtQ.val)); (exact zprA); exact rfl) | refine zs0 ?_ | ((with_reducible apply At.box (d := 2)); exact rfl; exact rfl; exact rfl; intro b2) | ((with_reducible apply At.alloc (d := 4)); exact rfl; exact rfl; intro b4) | ((with_reducible apply At.alloc (d := 6)); exact rfl; exact rfl; intro b6) | ((with_reducible apply At.alloc (d := 9)); exact rfl; exact rfl; intro b9) | (refine zsp ?_ ?_ <;> (intro hc; (try simp only [zhcs, reduceCtorEq] at hc); (try (exfalso; first | omega | contradiction | omega | exact absurd rfl hc | exact absurd (by decide) hc))))))
    all_goals ((with_reducible apply At.retV (B := [])); exact rfl; (repeat' (first | exact RVs.nil | (with_reducible apply RVs.cons) | exact rv_tmp (by rfl) | exact rv_cellN (by rfl) (by repeat constructor) (by rfl) (by rfl) (by rfl) | exact rv_cell1 (by rfl) (by repeat constructor) (by rfl) (by rfl) | exact rv_cellA (by rfl) (by repeat constructor) (by rfl) (by rfl) zlq)); exact zml; exact zkp; exact ⟨rfl, rfl, rfl⟩)
  · have hA : A ≤ A * n := Nat.le_mul_of_pos_right A (by omega)
    have ad2 := add_r a a h3 h3
    have hs2 := sV_lt (a + a)
    cases v
    · have e := h5 rfl
      subst e
      by_cases hodd : n % 2 = 1
      · obtain ⟨q, hq⟩ : ∃ q, n = 2 * q + 1 := ⟨n / 2, by omega⟩
        have hm : a + a * (2 * q) = a * n := by rw [hq, Nat.mul_add]; omega
        have hm2 : (a + a) * q = a * (2 * q) := by rw [← Nat.two_mul, Nat.mul_comm 2 a, Nat.mul_assoc]
        have ad1 := add_r o a h2 h3
        by_cases ho : o + a < 340282366920938463463374607431768211456
        · rw [show sV (o + a) = o + a from if_pos ho, show sE (o + a) = 0 from if_pos ho] at ad1
          by_cases hd : a + a < 340282366920938463463374607431768211456
          · rw [show sV (a + a) = a + a from if_pos hd, show sE (a + a) = 0 from if_pos hd] at ad2
            (repeat' (first | refine zss ?_ | ((first | (with_reducible first | apply At.val | apply AtQ.val)); (exact zprA); exact rfl) | refine zs0 ?_ | ((with_reducible first | apply AtM1.callp | apply AtQ.callp | apply At.callp); kernel_rfl; exact rfl; exact rfl; exact ad1) | ((with_reducible first | apply AtM1.callp | apply AtQ.callp | apply At.callp); kernel_rfl; exact rfl; exact rfl; exact ad2) | ((with_reducible apply At.box (d := 2)); exact rfl; exact rfl; exact rfl; intro b2) | ((with_reducible apply At.alloc (d := 4)); exact rfl; exact rfl; intro b4) | ((with_reducible apply At.alloc (d := 6)); exact rfl; exact rfl; intro b6) | ((with_reducible apply At.alloc (d := 9)); exact rfl; exact rfl; intro b9) | (refine zsp ?_ ?_ <;> (intro hc; (try simp only [zhcs, reduceCtorEq] at hc); (try (exfalso; first | omega | contradiction | omega | exact absurd rfl hc | exact absurd (by decide) hc))))))
            all_goals ((with_reducible refine At.reachk (⟨n / 2, a + a, a + a, false, o + a⟩) ?_ ?_ ?_ ?_); exact zsubs; exact zml; exact zente; exact ⟨⟨by show o + a + (a + a) * (n / 2) = _; rw [show n / 2 = q by omega, hm2]; omega, ho, hd, by show n / 2 < _; omega, fun _ => rfl, (fun h => by cases h)⟩, by show n / 2 < n; omega⟩)
          · rw [show sV (a + a) = 0 from if_neg hd, show sE (a + a) = 1 from if_neg hd] at ad2
            (repeat' (first | refine zss ?_ | ((first | (with_reducible first | apply At.val | apply AtQ.val)); (exact zprA); exact rfl) | refine zs0 ?_ | ((with_reducible first | apply AtM1.callp | apply AtQ.callp | apply At.callp); kernel_rfl; exact rfl; exact rfl; exact ad1) | ((with_reducible first | apply AtM1.callp | apply AtQ.callp | apply At.callp); kernel_rfl; exact rfl; exact rfl; exact ad2) | ((with_reducible apply At.box (d := 2)); exact rfl; exact rfl; exact rfl; intro b2) | ((with_reducible apply At.alloc (d := 4)); exact rfl; exact rfl; intro b4) | ((with_reducible apply At.alloc (d := 6)); exact rfl; exact rfl; intro b6) | ((with_reducible apply At.alloc (d := 9)); exact rfl; exact rfl; intro b9) | (refine zsp ?_ ?_ <;> (intro hc; (try simp only [zhcs, reduceCtorEq] at hc); (try (exfalso; first | omega | contradiction | omega | exact absurd rfl hc | exact absurd (by decide) hc))))))
            all_goals ((with_reducible refine At.reachk (⟨n / 2, 0, a + a, true, o + a⟩) ?_ ?_ ?_ ?_); exact zsubs; exact zml; exact zente; exact ⟨⟨by show o + a + (a + a) * (n / 2) = _; rw [show n / 2 = q by omega, hm2]; omega, ho, by show 0 < _; decide, by show n / 2 < _; omega, (fun h => by cases h), fun _ => by show _ ≤ a + a; omega⟩, by show n / 2 < n; omega⟩)
        · rw [show sV (o + a) = 0 from if_neg ho, show sE (o + a) = 1 from if_neg ho] at ad1
          rw [show sV (x * k) = 0 from if_neg (by omega), show sE (x * k) = 1 from if_neg (by omega)]
          (repeat' (first | refine zss ?_ | ((first | (with_reducible first | apply At.val | apply AtQ.val)); (exact zprA); exact rfl) | refine zs0 ?_ | ((with_reducible first | apply AtM1.callp | apply AtQ.callp | apply At.callp); kernel_rfl; exact rfl; exact rfl; exact ad1) | ((with_reducible apply At.box (d := 2)); exact rfl; exact rfl; exact rfl; intro b2) | ((with_reducible apply At.alloc (d := 4)); exact rfl; exact rfl; intro b4) | ((with_reducible apply At.alloc (d := 6)); exact rfl; exact rfl; intro b6) | ((with_reducible apply At.alloc (d := 9)); exact rfl; exact rfl; intro b9) | (refine zsp ?_ ?_ <;> (intro hc; (try simp only [zhcs, reduceCtorEq] at hc); (try (exfalso; first | omega | contradiction | omega | exact absurd rfl hc | exact absurd (by decide) hc))))))
          all_goals ((with_reducible apply At.retV (B := [])); exact rfl; (repeat' (first | exact RVs.nil | (with_reducible apply RVs.cons) | exact rv_tmp (by rfl) | exact rv_cellN (by rfl) (by repeat constructor) (by rfl) (by rfl) (by rfl) | exact rv_cell1 (by rfl) (by repeat constructor) (by rfl) (by rfl) | exact rv_cellA (by rfl) (by repeat constructor) (by rfl) (by rfl) zlq)); exact zml; exact zkp; exact ⟨rfl, rfl, rfl⟩)
      · obtain ⟨q, hq⟩ : ∃ q, n = 2 * q := ⟨n / 2, by omega⟩
        have hm2 : (a + a) * q = a * n := by rw [hq, ← Nat.two_mul, Nat.mul_comm 2 a, Nat.mul_assoc]
        by_cases hd : a + a < 340282366920938463463374607431768211456
        · rw [show sV (a + a) = a + a from if_pos hd, show sE (a + a) = 0 from if_pos hd] at ad2
          (repeat' (first | refine zss ?_ | ((first | (with_reducible first | apply At.val | apply AtQ.val)); (exact zprA); exact rfl) | refine zs0 ?_ | ((with_reducible first | apply AtM1.callp | apply AtQ.callp | apply At.callp); kernel_rfl; exact rfl; exact rfl; exact ad2) | ((with_reducible apply At.box (d := 2)); exact rfl; exact rfl; exact rfl; intro b2) | ((with_reducible apply At.alloc (d := 4)); exact rfl; exact rfl; intro b4) | ((with_reducible apply At.alloc (d := 6)); exact rfl; exact rfl; intro b6) | ((with_reducible apply At.alloc (d := 9)); exact rfl; exact rfl; intro b9) | (refine zsp ?_ ?_ <;> (intro hc; (try simp only [zhcs, reduceCtorEq] at hc); (try (exfalso; first | omega | contradiction | omega | exact absurd rfl hc | exact absurd (by decide) hc))))))
          all_goals ((with_reducible refine At.reachk (⟨n / 2, a + a, a + a, false, o⟩) ?_ ?_ ?_ ?_); exact zsubs; exact zml; exact zente; exact ⟨⟨by show o + (a + a) * (n / 2) = _; rw [show n / 2 = q by omega, hm2]; omega, h2, hd, by show n / 2 < _; omega, fun _ => rfl, (fun h => by cases h)⟩, by show n / 2 < n; omega⟩)
        · rw [show sV (a + a) = 0 from if_neg hd, show sE (a + a) = 1 from if_neg hd] at ad2
          (repeat' (first | refine zss ?_ | ((first | (with_reducible first | apply At.val | apply AtQ.val)); (exact zprA); exact rfl) | refine zs0 ?_ | ((with_reducible first | apply AtM1.callp | apply AtQ.callp | apply At.callp); kernel_rfl; exact rfl; exact rfl; exact ad2) | ((with_reducible apply At.box (d := 2)); exact rfl; exact rfl; exact rfl; intro b2) | ((with_reducible apply At.alloc (d := 4)); exact rfl; exact rfl; intro b4) | ((with_reducible apply At.alloc (d := 6)); exact rfl; exact rfl; intro b6) | ((with_reducible apply At.alloc (d := 9)); exact rfl; exact rfl; intro b9) | (refine zsp ?_ ?_ <;> (intro hc; (try simp only [zhcs, reduceCtorEq] at hc); (try (exfalso; first | omega | contradiction | omega | exact absurd rfl hc | exact absurd (by decide) hc))))))
          all_goals ((with_reducible refine At.reachk (⟨n / 2, 0, a + a, true, o⟩) ?_ ?_ ?_ ?_); exact zsubs; exact zml; exact zente; exact ⟨⟨by show o + (a + a) * (n / 2) = _; rw [show n / 2 = q by omega, hm2]; omega, h2, by show 0 < _; decide, by show n / 2 < _; omega, (fun h => by cases h), fun _ => by show _ ≤ a + a; omega⟩, by show n / 2 < n; omega⟩)
    · have e := h6 rfl
      by_cases hodd : n % 2 = 1
      · rw [show sV (x * k) = 0 from if_neg (by omega), show sE (x * k) = 1 from if_neg (by omega)]
        (repeat' (first | refine zss ?_ | ((first | (with_reducible first | apply At.val | apply AtQ.val)); (exact zprA); exact rfl) | refine zs0 ?_ | ((with_reducible apply At.box (d := 2)); exact rfl; exact rfl; exact rfl; intro b2) | ((with_reducible apply At.alloc (d := 4)); exact rfl; exact rfl; intro b4) | ((with_reducible apply At.alloc (d := 6)); exact rfl; exact rfl; intro b6) | ((with_reducible apply At.alloc (d := 9)); exact rfl; exact rfl; intro b9) | (refine zsp ?_ ?_ <;> (intro hc; (try simp only [zhcs, reduceCtorEq] at hc); (try (exfalso; first | omega | contradiction | omega | exact absurd rfl hc | exact absurd (by decide) hc))))))
        all_goals ((with_reducible apply At.retV (B := [])); exact rfl; (repeat' (first | exact RVs.nil | (with_reducible apply RVs.cons) | exact rv_tmp (by rfl) | exact rv_cellN (by rfl) (by repeat constructor) (by rfl) (by rfl) (by rfl) | exact rv_cell1 (by rfl) (by repeat constructor) (by rfl) (by rfl) | exact rv_cellA (by rfl) (by repeat constructor) (by rfl) (by rfl) zlq)); exact zml; exact zkp; exact ⟨rfl, rfl, rfl⟩)
      · obtain ⟨q, hq⟩ : ∃ q, n = 2 * q := ⟨n / 2, by omega⟩
        have hm2 : (A + A) * q = A * n := by rw [hq, ← Nat.two_mul, Nat.mul_comm 2 A, Nat.mul_assoc]
        (repeat' (first | refine zss ?_ | ((first | (with_reducible first | apply At.val | apply AtQ.val)); (exact zprA); exact rfl) | refine zs0 ?_ | ((with_reducible first | apply AtM1.callp | apply AtQ.callp | apply At.callp); kernel_rfl; exact rfl; exact rfl; exact ad2) | ((with_reducible apply At.box (d := 2)); exact rfl; exact rfl; exact rfl; intro b2) | ((with_reducible apply At.alloc (d := 4)); exact rfl; exact rfl; intro b4) | ((with_reducible apply At.alloc (d := 6)); exact rfl; exact rfl; intro b6) | ((with_reducible apply At.alloc (d := 9)); exact rfl; exact rfl; intro b9) | (refine zsp ?_ ?_ <;> (intro hc; (try simp only [zhcs, reduceCtorEq] at hc); (try (exfalso; first | omega | contradiction | omega | exact absurd rfl hc | exact absurd (by decide) hc))))))
        all_goals ((with_reducible refine At.reachk (⟨n / 2, sV (a + a), A + A, true, o⟩) ?_ ?_ ?_ ?_); exact zsubs; exact zml; exact zente; exact ⟨⟨by show o + (A + A) * (n / 2) = _; rw [show n / 2 = q by omega, hm2]; omega, h2, hs2, by show n / 2 < _; omega, (fun h => by cases h), fun _ => by show _ ≤ A + A; omega⟩, by show n / 2 < n; omega⟩)
end Wide
end Go.Proofs.YtmnlmmbfjfgfeaaDoor

/- Part 15 of what the law's proof needs: rules of the walk, contracts of functions, plain laws. No condition. -/
import Derived.Test.YtkoijdmlehkhbaaGreatDoorQmMWZ14
/- Quantiles: Check, open, Sort of quant. -/
set_option linter.unusedSimpArgs false
set_option linter.unusedVariables false
set_option linter.unusedSectionVars false
set_option maxRecDepth 20000
set_option maxHeartbeats 4000000
namespace Go.Proofs.YtkoijdmlehkhbaaGreatDoor
open Go Go.J
attribute [local irreducible] At AtQ AtM AtM1 PR Ct Pu Rd Res.blk Res.own Res.ex RVs RV
namespace Qu
open Wide
def In (x : Nat) : Prop := x < 340282366920938463463374607431768211456
abbrev fd (p : Nat × Nat) : List Value := wd p.1 ++ wd p.2
abbrev fv (p : Nat × Nat) : Value := .agg (fd p).toArray
def In2 (p : Nat × Nat) : Prop := In p.1 ∧ In p.2
instance : Fl fd 4 := ⟨fun _ => rfl, fun x v h => by simp at h; rcases h with rfl | rfl | rfl | rfl <;> rfl, by decide⟩
def bad (p : Nat × Nat) : Bool := decide (Ra.chk p.1 p.2 ≠ 0)
def big (p : Nat × Nat) : Bool := decide (18446744073709551616 ≤ p.1 ∨ 18446744073709551616 ≤ p.2)
def chkL (l : List (Nat × Nat)) : Int := if l.any bad = true then 2 else if l.any big = true then 1 else 0
theorem chk_two {a b : Nat} (h : Ra.chk a b ≠ 0) : Ra.chk a b = 2 := by
  unfold Ra.chk at h ⊢
  split
  · rfl
  · rename_i k
    rw [if_neg k] at h
    exact absurd rfl h
theorem chk_sm {p : Nat × Nat} (h1 : bad p = false) (h2 : big p = false) : Sm p := by
  have h1 := of_decide_eq_false h1
  have h2 := of_decide_eq_false h2
  have h3 : Ra.chk p.1 p.2 = 0 := Classical.byContradiction fun e => h1 e
  unfold Ra.chk at h3
  by_cases k : p.2 = 0 ∨ Nat.gcd p.1 p.2 ≠ 1
  · rw [if_pos k] at h3; exact absurd h3 (by decide)
  · exact ⟨by omega, by omega, by omega, Classical.byContradiction fun e => k (.inr e)⟩
theorem sm_chk {p : Nat × Nat} (h : Sm p) : bad p = false ∧ big p = false := by
  have h3 : Ra.chk p.1 p.2 = 0 := if_neg (by rintro (k | k); have := h.2.2.1; omega; exact k h.2.2.2)
  exact ⟨decide_eq_false (fun e => e h3), decide_eq_false (by have := h.1; have := h.2.1; omega)⟩
theorem chkL_ok {l : List (Nat × Nat)} (h : chkL l = 0) : ∀ p ∈ l, Sm p := by
  unfold chkL at h
  by_cases h1 : l.any bad = true
  · rw [if_pos h1] at h; exact absurd h (by decide)
  · rw [if_neg h1] at h
    by_cases h2 : l.any big = true
    · rw [if_pos h2] at h; exact absurd h (by decide)
    · intro p hp
      rw [Bool.not_eq_true, List.any_eq_false] at h1 h2
      exact chk_sm (Bool.not_eq_true _ ▸ h1 p hp) (Bool.not_eq_true _ ▸ h2 p hp)
theorem ok_chkL {l : List (Nat × Nat)} (h : ∀ p ∈ l, Sm p) : chkL l = 0 := by
  unfold chkL
  rw [if_neg, if_neg]
  · rw [Bool.not_eq_true, List.any_eq_false]
    intro p hp
    rw [(sm_chk (h p hp)).2]
    decide
  · rw [Bool.not_eq_true, List.any_eq_false]
    intro p hp
    rw [(sm_chk (h p hp)).1]
    decide
theorem any_snoc {l : List (Nat × Nat)} {f : Nat × Nat → Bool} {i : Nat} (h : i < l.length) : (l.take (i + 1)).any f = ((l.take i).any f || f l[i]!) := by
  rw [Ls.take_snoc h, List.any_append, List.any_cons, List.any_nil, Bool.or_false]
theorem or_big {p : Nat × Nat} (h : In2 p) : ∃ r : Int, bits .or .u64 ((p.1 / 18446744073709551616 : Nat) : Int) ((p.2 / 18446744073709551616 : Nat) : Int) = r ∧ decide (0 < r) = big p := by
  obtain ⟨a, b⟩ := p
  obtain ⟨ha, hb⟩ := h
  unfold In at ha hb
  dsimp only at ha hb ⊢
  refine ⟨_, rfl, ?_⟩
  unfold big
  dsimp only
  by_cases h0 : a / 18446744073709551616 = 0 ∧ b / 18446744073709551616 = 0
  · rw [or_zero (by omega) (by omega), decide_eq_false (show ¬ (18446744073709551616 ≤ a ∨ 18446744073709551616 ≤ b) by omega)]
    rfl
  · have hne := or_ne (a := ((a / 18446744073709551616 : Nat) : Int)) (b := ((b / 18446744073709551616 : Nat) : Int)) (by omega) (by omega) (by omega)
    rw [decide_eq_true (show (18446744073709551616 ≤ a ∨ 18446744073709551616 ≤ b) by omega)]
    rw [u64_or _ _ (by omega) (by omega) (by omega) (by omega)] at hne ⊢
    exact decide_eq_true (by omega)
structure CK where
  (i : Nat) (g : Bool)
theorem check_ {m : Mem} (ht : Ra.TZ m) (p : Option Addr) (c : Nat) (l : List (Nat × Nat)) (hl : l.length ≤ 1000000) (hb : ∀ x ∈ l, In2 x) (sl0 : Sl m fd 4 p c l) :
    Rd Tryz.prog 29 #[.slice p l.length c] m [] (.int .i64 (chkL l)) := by
  unfold Rd
  refine Ct.enterV (by rfl) Tryz.func29 rfl Tryz.ntmps29 rfl (fun w0 Rest => ?_)
  (repeat' (first | refine zss ?_ | refine zsM ?_ | ((with_reducible apply At.alloc (d := 5)); exact rfl; exact rfl; intro b5) | (refine zsp ?_ ?_ <;> (intro hc; (try simp only [zhcs, reduceCtorEq] at hc); (try (exfalso; first | omega | contradiction | omega | exact absurd rfl hc | exact absurd (by decide) hc))))))
  (refine At.loopk (σ := CK) [7, 8] (fun s F0 => (9, .int .i64 (s.i : Int)) :: (3, .bool s.g) :: F0) (fun s => m) (fun s => Rest) (fun s => s.i ≤ l.length ∧ (l.take s.i).any bad = false ∧ s.g = (l.take s.i).any big) (fun s => l.length - s.i) ⟨0, false⟩ (by rfl) ?_ zsubs zml zente ?_)
  · exact ⟨Nat.zero_le _, rfl, rfl⟩
  rintro ⟨i, g⟩ ⟨hi, h1, h2⟩
  dsimp only at hi h1 h2 ⊢
  by_cases h : i < l.length
  · have hx : In2 l[i]! := hb _ (Ls.mem! h)
    have k1 := fun (m' : Mem) (hm' : m.le m') => Ra.check (m := m') (ht.mono hm') l[i]!.1 l[i]!.2 hx.1 hx.2
    have e1 := any_snoc (f := bad) h
    have e2 := any_snoc (f := big) h
    by_cases hk : Ra.chk l[i]!.1 l[i]!.2 = 0
    · rw [hk] at k1
      rw [h1, show bad l[i]! = false from decide_eq_false (fun e => e hk), Bool.or_false] at e1
      obtain ⟨r, hr, hrb⟩ := or_big hx
      rw [← h2, ← hrb] at e2
      cases g
      · (repeat' (first | refine zss ?_ | ((first | (with_reducible first | apply At.val | apply AtQ.val)); (exact pr_or (by rfl) (by rfl) hr); exact rfl) | refine zsM ?_ | ((with_reducible first | apply AtM1.cr | apply AtQ.cr | apply At.cr); exact rfl; exact rfl; exact fun _ hmm => k1 _ hmm; exact ztk; kernel_rfl) | ((with_reducible apply At.alloc (d := 5)); exact rfl; exact rfl; intro b5) | (refine zsp ?_ ?_ <;> (intro hc; (try simp only [zhcs, reduceCtorEq] at hc); (try (exfalso; first | omega | contradiction | omega | exact absurd rfl hc | exact absurd (by decide) hc))))))
        all_goals ((with_reducible refine At.reachk (⟨i + 1, decide (0 < r)⟩) ?_ ?_ ?_ ?_); exact zsubs; exact zml; exact zente; exact ⟨⟨h, e1, by rw [e2, Bool.false_or]⟩, by dsimp only; omega⟩)
      · (repeat' (first | refine zss ?_ | refine zsM ?_ | ((with_reducible first | apply AtM1.cr | apply AtQ.cr | apply At.cr); exact rfl; exact rfl; exact fun _ hmm => k1 _ hmm; exact ztk; kernel_rfl) | ((with_reducible apply At.alloc (d := 5)); exact rfl; exact rfl; intro b5) | (refine zsp ?_ ?_ <;> (intro hc; (try simp only [zhcs, reduceCtorEq] at hc); (try (exfalso; first | omega | contradiction | omega | exact absurd rfl hc | exact absurd (by decide) hc))))))
        all_goals ((with_reducible refine At.reachk (⟨i + 1, true⟩) ?_ ?_ ?_ ?_); exact zsubs; exact zml; exact zente; exact ⟨⟨h, e1, by rw [e2, Bool.true_or]⟩, by dsimp only; omega⟩)
    · rw [chk_two hk] at k1
      have e3 : chkL l = 2 := if_pos (List.any_eq_true.2 ⟨_, Ls.mem! h, decide_eq_true hk⟩)
      rw [e3]
      (repeat' (first | refine zss ?_ | refine zsM ?_ | ((with_reducible first | apply AtM1.cr | apply AtQ.cr | apply At.cr); exact rfl; exact rfl; exact fun _ hmm => k1 _ hmm; exact ztk; kernel_rfl) | ((with_reducible apply At.alloc (d := 5)); exact rfl; exact rfl; intro b5) | (refine zsp ?_ ?_ <;> (intro hc; (try simp only [zhcs, reduceCtorEq] at hc); (try (exfalso; first | omega | contradiction | omega | exact absurd rfl hc | exact absurd (by decide) hc))))))
      all_goals ((with_reducible apply At.retB1 (B := [])); exact rfl; exact rfl; exact zml; exact zkp; exact ⟨rfl, rfl, rfl⟩)
  · rw [List.take_of_length_le (by omega)] at h1 h2
    cases g
    · have e3 : chkL l = 0 := by unfold chkL; rw [if_neg (by rw [h1]; decide), if_neg (by rw [← h2]; decide)]
      rw [e3]
      (repeat' (first | refine zss ?_ | refine zsM ?_ | ((with_reducible apply At.alloc (d := 5)); exact rfl; exact rfl; intro b5) | (refine zsp ?_ ?_ <;> (intro hc; (try simp only [zhcs, reduceCtorEq] at hc); (try (exfalso; first | omega | contradiction | omega | exact absurd rfl hc | exact absurd (by decide) hc))))))
      all_goals ((with_reducible apply At.retB1 (B := [])); exact rfl; exact rfl; exact zml; exact zkp; exact ⟨rfl, rfl, rfl⟩)
    · have e3 : chkL l = 1 := by unfold chkL; rw [if_neg (by rw [h1]; decide), if_pos h2.symm]
      rw [e3]
      (repeat' (first | refine zss ?_ | refine zsM ?_ | ((with_reducible apply At.alloc (d := 5)); exact rfl; exact rfl; intro b5) | (refine zsp ?_ ?_ <;> (intro hc; (try simp only [zhcs, reduceCtorEq] at hc); (try (exfalso; first | omega | contradiction | omega | exact absurd rfl hc | exact absurd (by decide) hc))))))
      all_goals ((with_reducible apply At.retB1 (B := [])); exact rfl; exact rfl; exact zml; exact zkp; exact ⟨rfl, rfl, rfl⟩)
def outO (l : List (Nat × Nat)) : List (Nat × Nat) := if chkL l = 0 then l else []
def outS (l : List (Nat × Nat)) : List (Nat × Nat) := if chkL l = 0 then srt l else []
theorem fill_set {l : List (Nat × Nat)} {i : Nat} (h : i < l.length) : (l.take i ++ List.replicate (l.length - i) (0, 0)).set i l[i]! = l.take (i + 1) ++ List.replicate (l.length - (i + 1)) (0, 0) := by
  rw [Ls.take_snoc h, List.set_append_right _ _ (by rw [List.length_take]; omega), List.length_take, show i - min i l.length = 0 by omega, show l.length - i = (l.length - (i + 1)) + 1 by omega, List.replicate_succ, List.set_cons_zero, List.append_assoc]
  rfl
theorem fill_len {l : List (Nat × Nat)} {i : Nat} (h : i ≤ l.length) : (l.take i ++ List.replicate (l.length - i) (0, 0)).length = l.length := by
  rw [List.length_append, List.length_take, List.length_replicate]; omega
theorem open_ {m : Mem} (ht : Ra.TZ m) (p : Option Addr) (c : Nat) (l : List (Nat × Nat)) (hl : l.length ≤ 1000000) (hb : ∀ x ∈ l, In2 x) (sl0 : Sl m fd 4 p c l) :
    Ct Tryz.prog 71 #[.slice p l.length c] m [] (fun v m' B => m = m' ∧ ∃ p' c', v = .tuple #[.slice p' (outO l).length c', .int .i64 (chkL l)] ∧ B = [.own sm 2 157 p' c' (outO l)]) := by
  have k1 := fun (m' : Mem) (hm' : m.le m') => check_ (m := m') (ht.mono hm') p c l hl hb (sl0.mono hm')
  unfold outO
  by_cases hk : chkL l = 0
  · have hsm := chkL_ok hk
    rw [hk] at k1 ⊢
    rw [if_pos rfl]
    refine Ct.enterV (by rfl) Tryz.func71 rfl Tryz.ntmps71 rfl (fun w0 Rest => ?_)
    (repeat' (first | refine zss ?_ | refine zsM ?_ | ((with_reducible first | apply AtM1.cr | apply AtQ.cr | apply At.cr); exact rfl; exact rfl; exact fun _ hmm => k1 _ hmm; exact ztk; kernel_rfl) | ((with_reducible apply At.makeN (f := sm) ((0, 0))); exact inferInstance; (iterate 5 exact rfl); exact zlq; exact rfl; exact zom; exact rfl; intro b9) | ((with_reducible apply At.alloc (d := 7)); exact rfl; exact rfl; intro b7) | (refine zsp ?_ ?_ <;> (intro hc; (try simp only [zhcs, reduceCtorEq] at hc); (try (exfalso; first | omega | contradiction | omega | exact absurd rfl hc | exact absurd (by decide) hc))))))
    rw [show List.replicate l.length ((0, 0) : Nat × Nat) = l.take 0 ++ List.replicate (l.length - 0) (0, 0) from rfl]
    (refine At.loopk (σ := Nat) [5, 16, 17] (fun s F0 => (18, .int .i64 (s : Int)) :: F0) (fun s => m) (fun s => .own sm 2 157 (some ⟨b9, 0, none⟩) l.length (l.take s ++ List.replicate (l.length - s) (0, 0)) :: Rest) (fun s => s ≤ l.length) (fun s => l.length - s) 0 (by rfl) ?_ zsubs zml zente ?_)
    · exact Nat.zero_le _
    rintro i hi
    by_cases h : i < l.length
    · have hs := fill_set h
      have hn := fill_len (Nat.le_of_lt h)
      have hx := hsm _ (Ls.mem! h)
      have ex : (l[i]!.1 % 18446744073709551616, l[i]!.2 % 18446744073709551616) = l[i]! := by
        rw [Nat.mod_eq_of_lt hx.1, Nat.mod_eq_of_lt hx.2.1]
      rw [← ex] at hs
      clear hx ex hsm hb
      generalize l.take i ++ List.replicate (l.length - i) ((0, 0) : Nat × Nat) = X at hs hn ⊢
      (repeat' (first | refine zss ?_ | refine zsOM ?_ | ((with_reducible apply At.storeW (f := sm) (x' := (l[i]!.1 % 18446744073709551616, l[i]!.2 % 18446744073709551616))); (case hx => exact rfl); (case hy => exact rfl); (case hv => exact rfl); (case hp => exact (by repeat constructor)); (case hr => exact rfl); (case hf => exact inferInstance); (case hk => exact zom); (case hs => exact rfl); (case hq => exact rfl); (case h1 => exact rfl)) | ((with_reducible apply At.alloc (d := 7)); exact rfl; exact rfl; intro b7) | (refine zsp ?_ ?_ <;> (intro hc; (try simp only [zhcs, reduceCtorEq] at hc); (try (exfalso; first | omega | contradiction | omega | exact absurd rfl hc | exact absurd (by decide) hc))))))
      all_goals rw [hs]
      all_goals ((with_reducible refine At.reachk ((i + 1)) ?_ ?_ ?_ ?_); exact zsubs; exact zml; exact zente; exact ⟨h, by omega⟩)
    · have e0 : l.take i ++ List.replicate (l.length - i) ((0, 0) : Nat × Nat) = l := by
        rw [List.take_of_length_le (by omega), show l.length - i = 0 by omega]
        exact List.append_nil l
      rw [e0]
      (repeat' (first | refine zss ?_ | refine zsM ?_ | ((with_reducible apply At.alloc (d := 7)); exact rfl; exact rfl; intro b7) | (refine zsp ?_ ?_ <;> (intro hc; (try simp only [zhcs, reduceCtorEq] at hc); (try (exfalso; first | omega | contradiction | omega | exact absurd rfl hc | exact absurd (by decide) hc))))))
      all_goals ((with_reducible apply At.retV (B := [.own sm 2 157 _ _ _])); exact rfl; (repeat' (first | exact RVs.nil | (with_reducible apply RVs.cons) | exact rv_tmp (by rfl) | exact rv_cellN (by rfl) (by repeat constructor) (by rfl) (by rfl) (by rfl) | exact rv_cell1 (by rfl) (by repeat constructor) (by rfl) (by rfl))); exact zml; exact zkp; exact ⟨rfl, _, _, rfl, rfl⟩)
  · rw [if_neg hk]
    refine Ct.enterV (by rfl) Tryz.func71 rfl Tryz.ntmps71 rfl (fun w0 Rest => ?_)
    (repeat' (first | refine zss ?_ | refine zsM ?_ | ((with_reducible first | apply AtM1.cr | apply AtQ.cr | apply At.cr); exact rfl; exact rfl; exact fun _ hmm => k1 _ hmm; exact ztk; kernel_rfl) | ((with_reducible apply At.alloc (d := 7)); exact rfl; exact rfl; intro b7) | (refine zsp ?_ ?_ <;> (intro hc; (try simp only [zhcs, reduceCtorEq] at hc); (try (exfalso; first | (first | omega | exact absurd hc hk) | contradiction | omega | exact absurd rfl hc | exact absurd (by decide) hc))))))
    refine At.own_nil sm 2 157 ?_
    all_goals ((with_reducible apply At.retV (B := [.own sm 2 157 _ _ _])); exact rfl; (repeat' (first | exact RVs.nil | (with_reducible apply RVs.cons) | exact rv_tmp (by rfl) | exact rv_cellN (by rfl) (by repeat constructor) (by rfl) (by rfl) (by rfl) | exact rv_cell1 (by rfl) (by repeat constructor) (by rfl) (by rfl))); exact zml; exact zkp; exact ⟨rfl, _, _, rfl, rfl⟩)
theorem fraction_ (p : Nat × Nat) (h : Sm p) : Pu Tryz.prog 74 #[sv p] (fv p) := Pu.intro fun m => by
  obtain ⟨a, b⟩ := p
  have k1 := of_ a h.1
  have k2 := of_ b h.2.1
  clear h
  refine Ct.enterV (by rfl) Tryz.func74 rfl Tryz.ntmps74 rfl (fun w0 Rest => ?_)
  (repeat' (first | ((with_reducible apply At.mixed (id := 1) 8 (.q 0 (.q 1 (.q 2 (.q 3 (.q 4 (.q 5 (.q 6 (.x 7 .done))))))))); exact rfl; kernel_rfl; kernel_rfl; kernel_rfl) | refine zsx ?_ | refine zss ?_ | ((with_reducible apply AtM.bo); exact rfl; exact rfl; exact rfl) | refine zs0 ?_ | refine zx0 ?_ | ((with_reducible first | apply AtM1.callp | apply AtQ.callp | apply At.callp); kernel_rfl; exact rfl; exact rfl; exact k1) | ((with_reducible first | apply AtM1.callp | apply AtQ.callp | apply At.callp); kernel_rfl; exact rfl; exact rfl; exact k2) | ((with_reducible apply At.box (d := 1)); exact rfl; exact rfl; exact rfl; intro b1) | ((with_reducible apply At.alloc (d := 2)); exact rfl; exact rfl; intro b2) | (refine zsp ?_ ?_ <;> (intro hc; (try simp only [zhcs, reduceCtorEq] at hc); (try (exfalso; first | contradiction | omega | exact absurd rfl hc | exact absurd (by decide) hc))))))
  all_goals ((with_reducible apply At.retV (B := [])); exact rfl; (repeat' (first | exact RVs.nil | (with_reducible apply RVs.cons) | exact rv_tmp (by rfl) | exact rv_cellN (by rfl) (by repeat constructor) (by rfl) (by rfl) (by rfl) | exact rv_cell1 (by rfl) (by repeat constructor) (by rfl) (by rfl))); exact zml; exact zkp; exact ⟨rfl, rfl, rfl⟩)
theorem fill_set' {l : List (Nat × Nat)} {i : Nat} (h : i < l.length) : (l.take i ++ List.replicate (l.length - i) (0, 0)).set i l[i]! = l.take (i + 1) ++ List.replicate (l.length - (i + 1)) (0, 0) := fill_set h
theorem sort_ {m : Mem} (ht : Ra.TZ m) (p : Option Addr) (c : Nat) (l : List (Nat × Nat)) (hl : l.length ≤ 1000000) (hb : ∀ x ∈ l, In2 x) (sl0 : Sl m fd 4 p c l) :
    Ct Tryz.prog 31 #[.slice p l.length c] m [] (fun v m' B => m = m' ∧ ∃ p' c', v = .tuple #[.slice p' (outS l).length c', .int .i64 (chkL l)] ∧ B = [.own fd 4 43 p' c' (outS l)]) := by
  have k1 := fun (m' : Mem) (hm' : m.le m') => open_ (m := m') (ht.mono hm') p c l hl hb (sl0.mono hm')
  unfold outS
  by_cases hk : chkL l = 0
  · have hsm := chkL_ok hk
    have eo : outO l = l := if_pos hk
    obtain ⟨L, rfl⟩ := lift hsm
    rw [eo, hk] at k1
    rw [hk, if_pos rfl]
    have k2 := fun (m' : Mem) (p' : Option Addr) (c' : Nat) => sort_s (m := m') p' c' L (by rw [List.length_map] at hl; omega)
    have en : L.length = (L.map Subtype.val).length := (List.length_map _).symm
    rw [en] at k2
    have hsS : ∀ x ∈ srt (L.map Subtype.val), Sm x := fun x hx => hsm x (srt_mem.1 hx)
    have hn := srt_len (L.map Subtype.val)
    generalize srt (L.map Subtype.val) = X at k2 hsS hn ⊢
    generalize L.map Subtype.val = l at *
    clear hk hsm eo hb en
    rw [← hn] at hl
    refine Ct.enterV (by rfl) Tryz.func31 rfl Tryz.ntmps31 rfl (fun w0 Rest => ?_)
    (repeat' (first | refine zss ?_ | refine zsOM ?_ | ((with_reducible first | apply At.c1 | apply At.c0); exact rfl; exact rfl; exact k1 _ zml; exact ztk; kernel_rfl; rintro v' m' B' hm' ⟨rfl, p1, c1, rfl, rfl⟩; (try replace sl0 := sl0.mono hm'); (try (have hq0 : hm' = Mem.le_refl _ := rfl; clear hq0 hm'))) | ((with_reducible first | apply At.c1 | apply At.c0); exact rfl; exact rfl; exact k2 _ p1 c1; exact ztk; kernel_rfl; rintro v' m' B' hm' ⟨rfl, rfl, rfl⟩; (try replace sl0 := sl0.mono hm'); (try (have hq0 : hm' = Mem.le_refl _ := rfl; clear hq0 hm'))) | ((with_reducible apply At.makeN (f := fd) ((0, 0))); exact inferInstance; (iterate 5 exact rfl); exact zlq; exact rfl; exact zom; exact rfl; intro b9) | ((with_reducible apply At.alloc (d := 8)); exact rfl; exact rfl; intro b8) | (refine zsp ?_ ?_ <;> (intro hc; (try simp only [zhcs, reduceCtorEq] at hc); (try (exfalso; first | omega | contradiction | omega | exact absurd rfl hc | exact absurd (by decide) hc))))))
    rw [← hn]
    rw [show List.replicate X.length ((0, 0) : Nat × Nat) = X.take 0 ++ List.replicate (X.length - 0) (0, 0) from rfl]
    (refine At.loopk (σ := Nat) [6, 22, 23] (fun s F0 => (24, .int .i64 (s : Int)) :: F0) (fun s => m) (fun s => .own fd 4 43 (some ⟨b9, 0, none⟩) X.length (X.take s ++ List.replicate (X.length - s) (0, 0)) :: .own sm 2 157 p1 c1 X :: Rest) (fun s => s ≤ X.length) (fun s => X.length - s) 0 (by rfl) ?_ zsubs zml zente ?_)
    · exact Nat.zero_le _
    rintro i hi
    by_cases h : i < X.length
    · have hs := fill_set' h
      have hm := fill_len (Nat.le_of_lt h)
      have k3 := fraction_ _ (hsS _ (Ls.mem! h))
      clear hsS k1 k2
      generalize X.take i ++ List.replicate (X.length - i) ((0, 0) : Nat × Nat) = Y at hs hm ⊢
      (repeat' (first | refine zss ?_ | refine zsO ?_ | ((with_reducible first | apply AtM1.callp | apply AtQ.callp | apply At.callp); kernel_rfl; exact rfl; exact rfl; exact k3) | ((with_reducible apply At.storeW (f := fd) (x' := (X[i]!))); (case hx => exact rfl); (case hy => exact rfl); (case hv => exact rfl); (case hp => exact (by repeat constructor)); (case hr => exact rfl); (case hf => exact inferInstance); (case hk => exact zom); (case hs => exact rfl); (case hq => exact rfl); (case h1 => exact rfl)) | ((with_reducible apply At.alloc (d := 8)); exact rfl; exact rfl; intro b8) | (refine zsp ?_ ?_ <;> (intro hc; (try simp only [zhcs, reduceCtorEq] at hc); (try (exfalso; first | omega | contradiction | omega | exact absurd rfl hc | exact absurd (by decide) hc))))))
      all_goals rw [hs]
      all_goals ((with_reducible refine At.reachk ((i + 1)) ?_ ?_ ?_ ?_); exact zsubs; exact zml; exact zente; exact ⟨h, by omega⟩)
    · have e0 : X.take i ++ List.replicate (X.length - i) ((0, 0) : Nat × Nat) = X := by
        rw [List.take_of_length_le (by omega), show X.length - i = 0 by omega]
        exact List.append_nil X
      rw [e0]
      (repeat' (first | refine zss ?_ | refine zsO ?_ | ((with_reducible apply At.alloc (d := 8)); exact rfl; exact rfl; intro b8) | (refine zsp ?_ ?_ <;> (intro hc; (try simp only [zhcs, reduceCtorEq] at hc); (try (exfalso; first | omega | contradiction | omega | exact absurd rfl hc | exact absurd (by decide) hc))))))
      all_goals ((with_reducible apply At.retV (B := [.own fd 4 43 _ _ _])); exact rfl; (repeat' (first | exact RVs.nil | (with_reducible apply RVs.cons) | exact rv_tmp (by rfl) | exact rv_cellN (by rfl) (by repeat constructor) (by rfl) (by rfl) (by rfl) | exact rv_cell1 (by rfl) (by repeat constructor) (by rfl) (by rfl))); exact zml; exact zkp; exact ⟨rfl, _, _, rfl, rfl⟩)
  · rw [if_neg hk]
    have eo : outO l = [] := if_neg hk
    rw [eo] at k1
    generalize chkL l = w at *
    refine Ct.enterV (by rfl) Tryz.func31 rfl Tryz.ntmps31 rfl (fun w0 Rest => ?_)
    (repeat' (first | refine zss ?_ | refine zsM ?_ | ((with_reducible first | apply At.c1 | apply At.c0); exact rfl; exact rfl; exact k1 _ zml; exact ztk; kernel_rfl; rintro v' m' B' hm' ⟨rfl, p1, c1, rfl, rfl⟩; (try replace sl0 := sl0.mono hm'); (try (have hq0 : hm' = Mem.le_refl _ := rfl; clear hq0 hm'))) | ((with_reducible apply At.alloc (d := 8)); exact rfl; exact rfl; intro b8) | (refine zsp ?_ ?_ <;> (intro hc; (try simp only [zhcs, reduceCtorEq] at hc); (try (exfalso; first | (first | omega | exact absurd hc hk) | contradiction | omega | exact absurd rfl hc | exact absurd (by decide) hc))))))
    refine At.own_nil fd 4 43 ?_
    all_goals ((with_reducible apply At.retV (B := [.own fd 4 43 _ _ _])); exact rfl; (repeat' (first | exact RVs.nil | (with_reducible apply RVs.cons) | exact rv_tmp (by rfl) | exact rv_cellN (by rfl) (by repeat constructor) (by rfl) (by rfl) (by rfl) | exact rv_cell1 (by rfl) (by repeat constructor) (by rfl) (by rfl))); exact zml; exact zkp; exact ⟨rfl, _, _, rfl, rfl⟩)
end Qu
end Go.Proofs.YtkoijdmlehkhbaaGreatDoor
/- The package total: Parts. Rates of replies. -/
set_option linter.unusedSimpArgs false
set_option linter.unusedVariables false
set_option linter.unusedSectionVars false
set_option maxRecDepth 20000
set_option maxHeartbeats 4000000
namespace Go.Proofs.YtkoijdmlehkhbaaGreatDoor
open Go Go.J
attribute [local irreducible] At AtQ AtM AtM1 PR Ct Pu Rd Res.blk Res.own Res.ex RVs RV
namespace Qy
open Slot Ti Se St Win
open Fo hiding pt
def repG (u : Sta) (t a b : Int) : List Rep := (prtG u t a b).map Part.r
theorem map_snoc {α β : Type} [Inhabited α] (f : α → β) {l : List α} {j : Nat} (h : j < l.length) : (l.take (j + 1)).map f = (l.take j).map f ++ [f l[j]!] := by
  rw [Ls.take_snoc h, List.map_append]; rfl
theorem Parts_ {m : Mem} (hz : Ra.TZ m) (u : Sta) (t a b : Int) (hs : u.Ok m) (hok : okU u) :
    Ct Tryz.prog 9 #[u.v, .slice none 0 0, .int .i64 t, .int .i64 a, .int .i64 b] m [] (fun v m' B => B = [] ∧ ∃ p c, v = .tuple #[.slice p (repG u t a b).length c, .int .i64 (parE u t a b)] ∧ Sl m' Rep.cells 20 p c (repG u t a b)) := by
  have k0 := fun (m' : Mem) (hm : m.le m') => parts_ (hz.mono hm) u t a b (hs.mono hm) hok
  have hlen : (prtG u t a b).length ≤ 1000000 := by
    unfold prtG
    split
    · exact Nat.le_trans (prtL_len _ _ _) (Nat.le_trans (lv_len u) hs.np)
    · exact Nat.zero_le _
  unfold repG
  clear hz hs hok
  generalize parE u t a b = e at k0 ⊢
  generalize (if e = 0 then (tierG u t a b).1 else 0) = k at k0
  generalize prtG u t a b = O at k0 hlen ⊢
  refine Ct.enterV (by rfl) Tryz.func9 rfl Tryz.ntmps9 rfl (fun w0 Rest => ?_)
  (repeat' (first | refine zss ?_ | refine zs0 ?_ | ((with_reducible first | apply At.c1 | apply At.c0); exact rfl; exact rfl; exact k0 _ zml; exact ztk; kernel_rfl; rintro v' m' B' hm' ⟨p0, c0, rfl, rfl⟩; (try replace sl1 := sl1.mono hm'); (try (have hq0 : hm' = Mem.le_refl _ := rfl; clear hq0 hm'))) | ((with_reducible apply At.box (d := 5)); exact rfl; exact rfl; exact rfl; intro b5) | ((with_reducible apply At.alloc (d := 17)); exact rfl; exact rfl; intro b17) | (refine zsp ?_ ?_ <;> (intro hc; (try simp only [zhcs, reduceCtorEq] at hc); (try (exfalso; first | (first | omega | exact absurd rfl hc) | contradiction | omega | exact absurd rfl hc | exact absurd (by decide) hc))))))
  refine At.own_nil Rep.cells 20 67 ?_
  (refine At.loopk (σ := PS) [14, 28, 29] (fun s F0 => (30, .int .i64 (s.j : Int)) :: (15, .slice s.p ((O.take s.j).map Part.r).length s.c) :: F0) (fun s => m') (fun s => .own Rep.cells 20 67 s.p s.c ((O.take s.j).map Part.r) :: .own Part.cells 21 113 p0 c0 O :: Rest) (fun s => s.j ≤ O.length) (fun s => O.length - s.j) ⟨0, none, 0⟩ (by rfl) ?_ zsubs zml zente ?_)
  · exact Nat.zero_le _
  rintro ⟨j, p, c⟩ hj
  dsimp only at hj ⊢
  by_cases h : j < O.length
  · have hsn := map_snoc Part.r h
    have hle : ((O.take j).map Part.r).length ≤ 1000000 := by rw [List.length_map, List.length_take]; omega
    generalize (O.take j).map Part.r = A at hsn hle ⊢
    clear k0
    (repeat' (first | refine zss ?_ | refine zsO ?_ | ((with_reducible apply At.litF Rep.cells [(O[j]!).r]); exact inferInstance; (iterate 7 exact rfl); intro b' m' hm' sl1; skip) | ((with_reducible apply At.apW (f := Rep.cells) (l := A)); exact rfl; exact rfl; exact (by repeat constructor); exact inferInstance; exact zrdl; (iterate 4 exact rfl); exact zom; exact rfl; intro p2 c2) | ((with_reducible apply At.box (d := 5)); exact rfl; exact rfl; exact rfl; intro b5) | ((with_reducible apply At.alloc (d := 17)); exact rfl; exact rfl; intro b17) | (refine zsp ?_ ?_ <;> (intro hc; (try simp only [zhcs, reduceCtorEq] at hc); (try (exfalso; first | (first | omega | exact absurd rfl hc) | contradiction | omega | exact absurd rfl hc | exact absurd (by decide) hc))))))
    all_goals rw [← hsn]
    all_goals ((with_reducible refine At.reachk ((⟨j + 1, p2, c2⟩ : PS)) ?_ ?_ ?_ ?_); exact zsubs; exact zml; exact zente; exact ⟨h, by dsimp only; omega⟩)
  · obtain rfl : j = O.length := by omega
    rw [List.take_length]
    clear k0
    generalize O.map Part.r = A
    refine At.own_freeze inferInstance (by repeat constructor) fun m2 hm2 sl1 => ?_
    (repeat' (first | refine zss ?_ | refine zsO ?_ | ((with_reducible apply At.box (d := 5)); exact rfl; exact rfl; exact rfl; intro b5) | ((with_reducible apply At.alloc (d := 17)); exact rfl; exact rfl; intro b17) | (refine zsp ?_ ?_ <;> (intro hc; (try simp only [zhcs, reduceCtorEq] at hc); (try (exfalso; first | (first | omega | exact absurd rfl hc) | contradiction | omega | exact absurd rfl hc | exact absurd (by decide) hc))))))
    all_goals ((with_reducible apply At.retV (B := [])); exact rfl; (repeat' (first | exact RVs.nil | (with_reducible apply RVs.cons) | exact rv_tmp (by rfl) | exact rv_cellN (by rfl) (by repeat constructor) (by rfl) (by rfl) (by rfl) | exact rv_cell1 (by rfl) (by repeat constructor) (by rfl) (by rfl))); exact zml; exact zkp; exact ⟨rfl, _, _, rfl, sl1⟩)
/-- the rates of those that have one -/
def ratL (l : List Rep) : List (Nat × Nat) := (l.filter fun r => decide (r.e = 0)).map Rep.r
theorem ratL_snoc {l : List Rep} {j : Nat} (h : j < l.length) : ratL (l.take (j + 1)) = ratL (l.take j) ++ if (l[j]!).e = 0 then [(l[j]!).r] else [] := by
  unfold ratL
  rw [Ls.take_snoc h, List.filter_append, List.map_append]
  congr 1
  generalize l[j]! = x
  by_cases hp : x.e = 0
  · rw [if_pos hp, List.filter_cons, if_pos (decide_eq_true hp)]; rfl
  · rw [if_neg hp, List.filter_cons, if_neg (by rw [decide_eq_false hp]; decide)]; rfl
theorem ratL_len (l : List Rep) : (ratL l).length ≤ l.length := by
  unfold ratL; rw [List.length_map]; exact List.length_filter_le _ _
theorem rates_ {m : Mem} (hz : Ra.TZ m) (p0 : Option Addr) (c0 : Nat) (l : List Rep) (hl : l.length ≤ 1000000) (hb : ∀ r ∈ l, Qu.In2 r.r) (sl0 : Sl m Rep.cells 20 p0 c0 l) :
    Ct Tryz.prog 10 #[.slice p0 l.length c0] m [] (fun v m' B => B = [] ∧ ∃ p c, v = .tuple #[.slice p (ratL l).length c, .bool (decide (Qu.chkL (ratL l) = 0))] ∧ Sl m' Qu.fd 4 p c (ratL l)) := by
  refine Ct.enterV (by rfl) Tryz.func10 rfl Tryz.ntmps10 rfl (fun w0 Rest => ?_)
  (repeat' (first | refine zss ?_ | refine zsM ?_ | ((with_reducible apply At.alloc (d := 6)); exact rfl; exact rfl; intro b6) | (refine zsp ?_ ?_ <;> (intro hc; (try simp only [zhcs, reduceCtorEq] at hc); (try (exfalso; first | (first | omega | exact absurd rfl hc) | contradiction | omega | exact absurd rfl hc | exact absurd (by decide) hc))))))
  refine At.own_nil Qu.fd 4 43 ?_
  (refine At.loopk (σ := PS) [7, 8] (fun s F0 => (9, .int .i64 (s.j : Int)) :: (4, .slice s.p (ratL (l.take s.j)).length s.c) :: F0) (fun s => m) (fun s => .own Qu.fd 4 43 s.p s.c (ratL (l.take s.j)) :: Rest) (fun s => s.j ≤ l.length) (fun s => l.length - s.j) ⟨0, none, 0⟩ (by rfl) ?_ zsubs zml zente ?_)
  · exact Nat.zero_le _
  rintro ⟨j, p, c⟩ hj
  dsimp only at hj ⊢
  by_cases h : j < l.length
  · have hsn := ratL_snoc h
    have hle := ratL_len (l.take j)
    rw [List.length_take] at hle
    generalize ratL (l.take j) = A at hsn hle ⊢
    by_cases h3 : (l[j]!).e = 0
    · rw [if_pos h3] at hsn
      (repeat' (first | refine zss ?_ | refine zsOM ?_ | ((with_reducible apply At.litF Qu.fd [(l[j]!).r]); exact inferInstance; (iterate 7 exact rfl); intro b' m' hm' sl1; (try replace sl0 := sl0.mono hm')) | ((with_reducible apply At.apW (f := Qu.fd) (l := A)); exact rfl; exact rfl; exact (by repeat constructor); exact inferInstance; exact zrdl; (iterate 4 exact rfl); exact zom; exact rfl; intro p2 c2) | ((with_reducible apply At.alloc (d := 6)); exact rfl; exact rfl; intro b6) | (refine zsp ?_ ?_ <;> (intro hc; (try simp only [zhcs, reduceCtorEq] at hc); (try (exfalso; first | (first | omega | exact absurd h3 hc) | contradiction | omega | exact absurd rfl hc | exact absurd (by decide) hc))))))
      all_goals rw [← hsn]
      all_goals ((with_reducible refine At.reachk ((⟨j + 1, p2, c2⟩ : PS)) ?_ ?_ ?_ ?_); exact zsubs; exact zml; exact zente; exact ⟨h, by dsimp only; omega⟩)
    · rw [if_neg h3, List.append_nil] at hsn
      (repeat' (first | refine zss ?_ | refine zsOM ?_ | ((with_reducible apply At.alloc (d := 6)); exact rfl; exact rfl; intro b6) | (refine zsp ?_ ?_ <;> (intro hc; (try simp only [zhcs, reduceCtorEq] at hc); (try (exfalso; first | (first | omega | exact absurd hc h3) | contradiction | omega | exact absurd rfl hc | exact absurd (by decide) hc))))))
      all_goals rw [← hsn]
      all_goals ((with_reducible refine At.reachk ((⟨j + 1, p, c⟩ : PS)) ?_ ?_ ?_ ?_); exact zsubs; exact zml; exact zente; exact ⟨h, by dsimp only; omega⟩)
  · obtain rfl : j = l.length := by omega
    rw [List.take_length]
    have hle := ratL_len l
    have hb2 : ∀ x ∈ ratL l, Qu.In2 x := fun x hx => by
      obtain ⟨r, hr, rfl⟩ := List.mem_map.1 hx
      exact hb r (List.mem_filter.1 hr).1
    generalize ratL l = A at hle hb2 ⊢
    refine At.own_freeze inferInstance (by repeat constructor) fun m2 hm2 sl1 => ?_
    have k0 := fun (m' : Mem) (hm : m2.le m') => Qu.check_ (m := m') ((hz.mono hm2).mono hm) p c A (by omega) hb2 (sl1.mono hm)
    generalize Qu.chkL A = e at k0 ⊢
    (repeat' (first | refine zss ?_ | refine zsM ?_ | ((with_reducible first | apply AtM1.cr | apply AtQ.cr | apply At.cr); exact rfl; exact rfl; exact fun _ hmm => k0 _ hmm; exact ztk; kernel_rfl) | ((with_reducible apply At.alloc (d := 6)); exact rfl; exact rfl; intro b6) | (refine zsp ?_ ?_ <;> (intro hc; (try simp only [zhcs, reduceCtorEq] at hc); (try (exfalso; first | (first | omega | exact absurd rfl hc) | contradiction | omega | exact absurd rfl hc | exact absurd (by decide) hc))))))
    all_goals ((with_reducible apply At.retV (B := [])); exact rfl; (repeat' (first | exact RVs.nil | (with_reducible apply RVs.cons) | exact rv_tmp (by rfl) | exact rv_cellN (by rfl) (by repeat constructor) (by rfl) (by rfl) (by rfl) | exact rv_cell1 (by rfl) (by repeat constructor) (by rfl) (by rfl))); exact zml; exact zkp; exact ⟨rfl, _, _, rfl, sl1⟩)
theorem lt_of_sE {x : Nat} (h : ¬ Wide.sE x ≠ 0) : x < 340282366920938463463374607431768211456 := by
  unfold Wide.sE at h
  by_cases h1 : x < 340282366920938463463374607431768211456
  · exact h1
  · rw [if_neg h1] at h; exact absurd (by decide) h
theorem rte_in (c : Cell) (hX : c.X ≤ 9223372036854775807) : Qu.In2 (rte c).1 := by
  have h0 : Qu.In2 (0, 0) := ⟨(by decide : 0 < 340282366920938463463374607431768211456), (by decide : 0 < 340282366920938463463374607431768211456)⟩
  unfold rte
  by_cases h1 : c.X < 1
  · rw [if_pos h1]; exact h0
  rw [if_neg h1]
  unfold Ra.rat
  by_cases h2 : c.X.toNat = 0
  · rw [if_pos h2]; exact h0
  rw [if_neg h2]
  by_cases h3 : Wide.sE (c.I * 1000) ≠ 0
  · rw [if_pos h3]; exact h0
  rw [if_neg h3]
  unfold Ra.red
  rw [if_neg h2]
  exact ⟨Nat.lt_of_le_of_lt (Nat.div_le_self _ _) (lt_of_sE h3), Nat.lt_of_le_of_lt (Nat.div_le_self _ _) (by omega)⟩
theorem doG_in {m : Mem} {u : Sta} (hs : u.Ok m) (l : List Lab) (t a b : Int) : Qu.In2 (doG u l t a b).1.r := by
  have h0 : Qu.In2 (0, 0) := ⟨(by decide : 0 < 340282366920938463463374607431768211456), (by decide : 0 < 340282366920938463463374607431768211456)⟩
  unfold doG
  split
  · exact h0
  split
  · exact h0
  split
  · exact h0
  · refine rte_in _ ?_
    have := (ok_X (qof_good hs l ((tierG u t a b).1.toNat - 1) a b).1).1
    omega
/-- a reply without events has no rate -/
theorem doG_none {m : Mem} {u : Sta} (hs : u.Ok m) (l : List Lab) (t a b : Int) (h : (doG u l t a b).2 = 0) (hn : (doG u l t a b).1.c.n ≤ 0) : (doG u l t a b).1.e = 12 := by
  unfold doG at h hn ⊢
  split
  · rename_i h1; rw [if_pos h1] at h; exact absurd h h1
  rename_i h1
  rw [if_neg h1] at h hn
  split
  · rename_i h2; rw [if_pos h2] at h; exact absurd h h2
  rename_i h2
  rw [if_neg h2] at h hn
  split
  · rename_i h3; rw [if_pos h3] at h; exact absurd h h3
  rename_i h3
  rw [if_neg h3] at hn
  have := (ok_X (qof_good hs l ((tierG u t a b).1.toNat - 1) a b).1).2 hn
  show (rte _).2 = 12
  unfold rte
  rw [if_pos this]
theorem repG_in {m : Mem} {u : Sta} (hs : u.Ok m) (t a b : Int) : ∀ r ∈ repG u t a b, Qu.In2 r.r := fun r hr => by
  unfold repG prtG at hr
  obtain ⟨p, hp, rfl⟩ := List.mem_map.1 hr
  by_cases h : parE u t a b = 0
  · rw [if_pos h] at hp
    obtain ⟨i, hi, rfl⟩ := List.mem_map.1 hp
    exact doG_in hs _ _ _ _
  · rw [if_neg h] at hp; cases hp
end Qy
end Go.Proofs.YtkoijdmlehkhbaaGreatDoor
/- The package watch: which ring, of a right state. -/
set_option linter.unusedSimpArgs false
set_option linter.unusedVariables false
set_option linter.unusedSectionVars false
set_option maxRecDepth 20000
set_option maxHeartbeats 4000000
namespace Go.Proofs.YtkoijdmlehkhbaaGreatDoor
open Go Go.J
attribute [local irreducible] At AtQ AtM AtM1 PR Ct Pu Rd Res.blk Res.own Res.ex RVs RV
/-- what is watched -/
structure Wat where
  (q : Qy.Ask) (f : Nat × Nat)
namespace Wat
abbrev cells : Wat → List Value := fun w => w.q.cells ++ Qu.fd w.f
abbrev v (w : Wat) : Value := .agg (cells w).toArray
instance : Inhabited Wat := ⟨⟨⟨Lst.nil, 0, 0, 0⟩, (0, 0)⟩⟩
instance : Fl cells 8 := ⟨fun _ => rfl, fun x v h => by
  simp at h
  rcases h with rfl | rfl | rfl | rfl | rfl | rfl | rfl | rfl <;> rfl, by decide⟩
end Wat
namespace Qy
open Slot Ti Se St Win
open Fo hiding pt
instance : Inhabited Sta := ⟨Sta.z⟩
instance : Fl Sta.cells 12 := ⟨fun _ => rfl, fun x v h => by
  simp at h
  rcases h with rfl | rfl | rfl | rfl | rfl | rfl | rfl | rfl | rfl | rfl | rfl | rfl <;> rfl, by decide⟩
/-- whether one rings -/
def oneW (u : Sta) (q : Ask) (f : Nat × Nat) : Bool × Int :=
  if Ra.chk f.1 f.2 ≠ 0 then (false, 2) else if (doG u q.lab.l q.t q.a q.b).2 ≠ 0 then (false, (doG u q.lab.l q.t q.a q.b).2)
  else if (doG u q.lab.l q.t q.a q.b).1.e ≠ 0 then (false, (doG u q.lab.l q.t q.a q.b).1.e)
  else if (Ra.les (doG u q.lab.l q.t q.a q.b).1.r.1 (doG u q.lab.l q.t q.a q.b).1.r.2 f.1 f.2).2 = 0 then (!(Ra.les (doG u q.lab.l q.t q.a q.b).1.r.1 (doG u q.lab.l q.t q.a q.b).1.r.2 f.1 f.2).1, 0)
  else (false, (Ra.les (doG u q.lab.l q.t q.a q.b).1.r.1 (doG u q.lab.l q.t q.a q.b).1.r.2 f.1 f.2).2)
theorem one_w {m : Mem} (hz : Ra.TZ m) (u : Sta) (w : Wat) (hs : u.Ok m) (hok : okU u) (hm : Lb.Mid w.q.lab.l) (hl : w.q.lab.l.length ≤ 1000000000) (hb : Qu.In2 w.f) (sl1 : Sl m Lb.cells 2 w.q.lab.p w.q.lab.c w.q.lab.l) :
    Rd Tryz.prog 15 #[u.v, w.v] m [] (.tuple #[.bool (oneW u w.q w.f).1, .int .i64 (oneW u w.q w.f).2]) := by
  unfold Rd oneW
  have k0 := fun (m' : Mem) (hm : m.le m') => check u (hs.mono hm)
  rw [show chk u = 0 from if_pos hok] at k0
  have k1 := fun (m' : Mem) (hm : m.le m') => Ra.check (m := m') (hz.mono hm) w.f.1 w.f.2 hb.1 hb.2
  have k2 := fun (m' : Mem) (h : m.le m') => do_ (m := m') (hz.mono h) u w.q (hs.mono h) hok hm hl (sl1.mono h)
  have hi := doG_in hs w.q.lab.l w.q.t w.q.a w.q.b
  have k3 := fun (m' : Mem) (h : m.le m') => Ra.lessT (m := m') (hz.mono h) (doG u w.q.lab.l w.q.t w.q.a w.q.b).1.r.1 (doG u w.q.lab.l w.q.t w.q.a w.q.b).1.r.2 w.f.1 w.f.2 hi.1 hi.2 hb.1 hb.2
  clear hz hs hok hm hl hi hb
  generalize Ra.chk w.f.1 w.f.2 = e0 at k1 ⊢
  generalize doG u w.q.lab.l w.q.t w.q.a w.q.b = R at k2 k3 ⊢
  obtain ⟨r, e1⟩ := R
  dsimp only at k2 k3 ⊢
  by_cases h0 : e0 ≠ 0
  · rw [if_pos h0]
    refine Ct.enterV (by rfl) Tryz.func15 rfl Tryz.ntmps15 rfl (fun w0 Rest => ?_)
    (repeat' (first | refine zss ?_ | refine zsM ?_ | ((with_reducible first | apply AtM1.cr | apply AtQ.cr | apply At.cr); exact rfl; exact rfl; exact fun _ hmm => k0 _ hmm; exact ztk; kernel_rfl) | ((with_reducible first | apply AtM1.cr | apply AtQ.cr | apply At.cr); exact rfl; exact rfl; exact fun _ hmm => k1 _ hmm; exact ztk; kernel_rfl) | ((with_reducible apply At.box (d := 2)); exact rfl; exact rfl; exact rfl; intro b2) | ((with_reducible apply At.box (d := 3)); exact rfl; exact rfl; exact rfl; intro b3) | ((with_reducible apply At.alloc (d := 6)); exact rfl; exact rfl; intro b6) | (refine zsp ?_ ?_ <;> (intro hc; (try simp only [zhcs, reduceCtorEq] at hc); (try (exfalso; first | (first | omega | exact absurd rfl hc | exact absurd hc h0) | contradiction | omega | exact absurd rfl hc | exact absurd (by decide) hc))))))
    all_goals ((with_reducible apply At.retV (B := [])); exact rfl; (repeat' (first | exact RVs.nil | (with_reducible apply RVs.cons) | exact rv_tmp (by rfl) | exact rv_cellN (by rfl) (by repeat constructor) (by rfl) (by rfl) (by rfl) | exact rv_cell1 (by rfl) (by repeat constructor) (by rfl) (by rfl))); exact zml; exact zkp; exact ⟨rfl, rfl, rfl⟩)
  rw [if_neg h0]
  obtain rfl : e0 = 0 := by omega
  by_cases h1 : e1 ≠ 0
  · rw [if_pos h1]
    clear h0
    refine Ct.enterV (by rfl) Tryz.func15 rfl Tryz.ntmps15 rfl (fun w0 Rest => ?_)
    (repeat' (first | refine zss ?_ | refine zsM ?_ | ((with_reducible first | apply AtM1.cr | apply AtQ.cr | apply At.cr); exact rfl; exact rfl; exact fun _ hmm => k0 _ hmm; exact ztk; kernel_rfl) | ((with_reducible first | apply AtM1.cr | apply AtQ.cr | apply At.cr); exact rfl; exact rfl; exact fun _ hmm => k1 _ hmm; exact ztk; kernel_rfl) | ((with_reducible first | apply AtM1.cr | apply AtQ.cr | apply At.cr); exact rfl; exact rfl; exact fun _ hmm => k2 _ hmm; exact ztk; kernel_rfl) | ((with_reducible apply At.box (d := 2)); exact rfl; exact rfl; exact rfl; intro b2) | ((with_reducible apply At.box (d := 3)); exact rfl; exact rfl; exact rfl; intro b3) | ((with_reducible apply At.alloc (d := 6)); exact rfl; exact rfl; intro b6) | (refine zsp ?_ ?_ <;> (intro hc; (try simp only [zhcs, reduceCtorEq] at hc); (try (exfalso; first | (first | omega | exact absurd rfl hc | exact absurd hc h1) | contradiction | omega | exact absurd rfl hc | exact absurd (by decide) hc))))))
    all_goals ((with_reducible apply At.retV (B := [])); exact rfl; (repeat' (first | exact RVs.nil | (with_reducible apply RVs.cons) | exact rv_tmp (by rfl) | exact rv_cellN (by rfl) (by repeat constructor) (by rfl) (by rfl) (by rfl) | exact rv_cell1 (by rfl) (by repeat constructor) (by rfl) (by rfl))); exact zml; exact zkp; exact ⟨rfl, rfl, rfl⟩)
  rw [if_neg h1]
  obtain rfl : e1 = 0 := by omega
  by_cases h2 : r.e ≠ 0
  · rw [if_pos h2]
    clear h0 h1
    refine Ct.enterV (by rfl) Tryz.func15 rfl Tryz.ntmps15 rfl (fun w0 Rest => ?_)
    (repeat' (first | refine zss ?_ | refine zsM ?_ | ((with_reducible first | apply AtM1.cr | apply AtQ.cr | apply At.cr); exact rfl; exact rfl; exact fun _ hmm => k0 _ hmm; exact ztk; kernel_rfl) | ((with_reducible first | apply AtM1.cr | apply AtQ.cr | apply At.cr); exact rfl; exact rfl; exact fun _ hmm => k1 _ hmm; exact ztk; kernel_rfl) | ((with_reducible first | apply AtM1.cr | apply AtQ.cr | apply At.cr); exact rfl; exact rfl; exact fun _ hmm => k2 _ hmm; exact ztk; kernel_rfl) | ((with_reducible apply At.box (d := 2)); exact rfl; exact rfl; exact rfl; intro b2) | ((with_reducible apply At.box (d := 3)); exact rfl; exact rfl; exact rfl; intro b3) | ((with_reducible apply At.alloc (d := 6)); exact rfl; exact rfl; intro b6) | (refine zsp ?_ ?_ <;> (intro hc; (try simp only [zhcs, reduceCtorEq] at hc); (try (exfalso; first | (first | omega | exact absurd rfl hc | exact absurd hc h2) | contradiction | omega | exact absurd rfl hc | exact absurd (by decide) hc))))))
    all_goals ((with_reducible apply At.retV (B := [])); exact rfl; (repeat' (first | exact RVs.nil | (with_reducible apply RVs.cons) | exact rv_tmp (by rfl) | exact rv_cellN (by rfl) (by repeat constructor) (by rfl) (by rfl) (by rfl) | exact rv_cell1 (by rfl) (by repeat constructor) (by rfl) (by rfl))); exact zml; exact zkp; exact ⟨rfl, rfl, rfl⟩)
  rw [if_neg h2]
  have h2' : r.e = 0 := by omega
  generalize Ra.les r.r.1 r.r.2 w.f.1 w.f.2 = L at k3 ⊢
  obtain ⟨g, e3⟩ := L
  dsimp only at k3 ⊢
  clear h0 h1
  by_cases h3 : e3 = 0
  · rw [if_pos h3]
    subst h3
    refine Ct.enterV (by rfl) Tryz.func15 rfl Tryz.ntmps15 rfl (fun w0 Rest => ?_)
    (repeat' (first | refine zss ?_ | refine zsM ?_ | ((with_reducible first | apply AtM1.cr | apply AtQ.cr | apply At.cr); exact rfl; exact rfl; exact fun _ hmm => k0 _ hmm; exact ztk; kernel_rfl) | ((with_reducible first | apply AtM1.cr | apply AtQ.cr | apply At.cr); exact rfl; exact rfl; exact fun _ hmm => k1 _ hmm; exact ztk; kernel_rfl) | ((with_reducible first | apply AtM1.cr | apply AtQ.cr | apply At.cr); exact rfl; exact rfl; exact fun _ hmm => k2 _ hmm; exact ztk; kernel_rfl) | ((with_reducible first | apply AtM1.cr | apply AtQ.cr | apply At.cr); exact rfl; exact rfl; exact fun _ hmm => k3 _ zml; exact ztk; kernel_rfl) | ((with_reducible apply At.box (d := 2)); exact rfl; exact rfl; exact rfl; intro b2) | ((with_reducible apply At.box (d := 3)); exact rfl; exact rfl; exact rfl; intro b3) | ((with_reducible apply At.alloc (d := 6)); exact rfl; exact rfl; intro b6) | (refine zsp ?_ ?_ <;> (intro hc; (try simp only [zhcs, reduceCtorEq] at hc); (try (exfalso; first | (first | omega | exact absurd rfl hc | exact absurd h2' hc) | contradiction | omega | exact absurd rfl hc | exact absurd (by decide) hc))))))
    all_goals ((with_reducible apply At.retV (B := [])); exact rfl; (repeat' (first | exact RVs.nil | (with_reducible apply RVs.cons) | exact rv_tmp (by rfl) | exact rv_cellN (by rfl) (by repeat constructor) (by rfl) (by rfl) (by rfl) | exact rv_cell1 (by rfl) (by repeat constructor) (by rfl) (by rfl))); exact zml; exact zkp; exact ⟨rfl, rfl, rfl⟩)
  · rw [if_neg h3]
    refine Ct.enterV (by rfl) Tryz.func15 rfl Tryz.ntmps15 rfl (fun w0 Rest => ?_)
    (repeat' (first | refine zss ?_ | refine zsM ?_ | ((with_reducible first | apply AtM1.cr | apply AtQ.cr | apply At.cr); exact rfl; exact rfl; exact fun _ hmm => k0 _ hmm; exact ztk; kernel_rfl) | ((with_reducible first | apply AtM1.cr | apply AtQ.cr | apply At.cr); exact rfl; exact rfl; exact fun _ hmm => k1 _ hmm; exact ztk; kernel_rfl) | ((with_reducible first | apply AtM1.cr | apply AtQ.cr | apply At.cr); exact rfl; exact rfl; exact fun _ hmm => k2 _ hmm; exact ztk; kernel_rfl) | ((with_reducible first | apply AtM1.cr | apply AtQ.cr | apply At.cr); exact rfl; exact rfl; exact fun _ hmm => k3 _ zml; exact ztk; kernel_rfl) | ((with_reducible apply At.box (d := 2)); exact rfl; exact rfl; exact rfl; intro b2) | ((with_reducible apply At.box (d := 3)); exact rfl; exact rfl; exact rfl; intro b3) | ((with_reducible apply At.alloc (d := 6)); exact rfl; exact rfl; intro b6) | (refine zsp ?_ ?_ <;> (intro hc; (try simp only [zhcs, reduceCtorEq] at hc); (try (exfalso; first | (first | omega | exact absurd rfl hc | exact absurd h2' hc | exact absurd hc h3) | contradiction | omega | exact absurd rfl hc | exact absurd (by decide) hc))))))
    all_goals ((with_reducible apply At.retV (B := [])); exact rfl; (repeat' (first | exact RVs.nil | (with_reducible apply RVs.cons) | exact rv_tmp (by rfl) | exact rv_cellN (by rfl) (by repeat constructor) (by rfl) (by rfl) (by rfl) | exact rv_cell1 (by rfl) (by repeat constructor) (by rfl) (by rfl))); exact zml; exact zkp; exact ⟨rfl, rfl, rfl⟩)
/-- what is watched may be asked -/
structure Wat.Ok (m : Mem) (w : Wat) : Prop where
  ml : Lb.Mid w.q.lab.l
  nl : w.q.lab.l.length ≤ 1000000000
  bf : Qu.In2 w.f
  sl : Sl m Lb.cells 2 w.q.lab.p w.q.lab.c w.q.lab.l
end Qy
end Go.Proofs.YtkoijdmlehkhbaaGreatDoor
/- The contracts of the package merge and of its reference: which lists are right. -/
set_option linter.unusedSimpArgs false
set_option linter.unusedVariables false
set_option linter.unusedSectionVars false
set_option maxRecDepth 20000
set_option maxHeartbeats 4000000
namespace Go.Proofs.YtkoijdmlehkhbaaGreatDoor
open Go Go.J
attribute [local irreducible] At AtQ AtM AtM1 PR Ct Pu Rd Res.blk Res.own Res.ex RVs RV
namespace Mrg
open Wide Ev
theorem check {m : Mem} (p : Option Addr) (c : Nat) (l : List Ev) (hl : l.length ≤ 1000000) (sl0 : Sl m cells 4 p c l) :
    Rd Tryz.prog 157 #[.slice p l.length c] m [] (.int .i64 (chk l)) := by
  unfold Rd
  refine Ct.enterV (by rfl) Tryz.func157 rfl Tryz.ntmps157 rfl (fun w0 Rest => ?_)
  (repeat' (first | refine zss ?_ | refine zsM ?_ | ((with_reducible apply At.alloc (d := 4)); exact rfl; exact rfl; intro b4) | (refine zsp ?_ ?_ <;> (intro hc; (try simp only [zhcs, reduceCtorEq] at hc); (try (exfalso; first | contradiction | omega | exact absurd rfl hc | exact absurd (by decide) hc))))))
  (refine At.loopk (σ := Nat) [0, 7, 8] (fun s F0 => (9, .int .i64 (s : Int)) :: F0) (fun s => m) (fun s => Rest) (fun s => s ≤ l.length ∧ ∀ i, i < s → (l[i]!).ok) (fun s => l.length - s) 0 (by rfl) ?_ zsubs zml zente ?_)
  · exact ⟨Nat.zero_le _, fun i h => absurd h (Nat.not_lt_zero i)⟩
  rintro s ⟨hs, ha⟩
  by_cases h : s < l.length
  · have hk := Ev.check (l[s]!)
    by_cases ho : (l[s]!).ok
    · rw [show (l[s]!).chk = 0 from if_pos ho] at hk
      have hn : ∀ i, i < s + 1 → (l[i]!).ok := fun i hi => by
        by_cases e : i = s
        · subst e; exact ho
        · exact ha i (by omega)
      (repeat' (first | refine zss ?_ | refine zsM ?_ | ((with_reducible first | apply AtM1.callp | apply AtQ.callp | apply At.callp); kernel_rfl; exact rfl; exact rfl; exact hk) | ((with_reducible apply At.alloc (d := 4)); exact rfl; exact rfl; intro b4) | (refine zsp ?_ ?_ <;> (intro hc; (try simp only [zhcs, reduceCtorEq] at hc); (try (exfalso; first | omega | contradiction | omega | exact absurd rfl hc | exact absurd (by decide) hc))))))
      all_goals ((with_reducible refine At.reachk ((s + 1)) ?_ ?_ ?_ ?_); exact zsubs; exact zml; exact zente; exact ⟨⟨h, hn⟩, by omega⟩)
    · rw [show (l[s]!).chk = 2 from if_neg ho] at hk
      rw [show chk l = 2 from if_neg fun hh => ho (hh s h)]
      (repeat' (first | refine zss ?_ | refine zsM ?_ | ((with_reducible first | apply AtM1.callp | apply AtQ.callp | apply At.callp); kernel_rfl; exact rfl; exact rfl; exact hk) | ((with_reducible apply At.alloc (d := 4)); exact rfl; exact rfl; intro b4) | (refine zsp ?_ ?_ <;> (intro hc; (try simp only [zhcs, reduceCtorEq] at hc); (try (exfalso; first | omega | contradiction | omega | exact absurd rfl hc | exact absurd (by decide) hc))))))
      all_goals ((with_reducible apply At.retB1 (B := [])); exact rfl; exact rfl; exact zml; exact zkp; exact ⟨rfl, rfl, rfl⟩)
  · have hall : aok l := fun i hi => ha i (by omega)
    (repeat' (first | refine zss ?_ | refine zsM ?_ | ((with_reducible apply At.alloc (d := 4)); exact rfl; exact rfl; intro b4) | (refine zsp ?_ ?_ <;> (intro hc; (try simp only [zhcs, reduceCtorEq] at hc); (try (exfalso; first | omega | contradiction | omega | exact absurd rfl hc | exact absurd (by decide) hc))))))
    (refine At.loopk (σ := Nat) [0] (fun s F0 => (6, .int .i64 (s : Int)) :: F0) (fun s => m) (fun s => Rest) (fun s => 1 ≤ s ∧ s ≤ max 1 l.length ∧ ∀ i, i + 1 < s → (l[i]!).T < (l[i + 1]!).T) (fun s => l.length - s) 1 (by rfl) ?_ zsubs zml zente ?_)
    · exact ⟨Nat.le_refl _, Nat.le_max_left _ _, fun i h => absurd h (by omega)⟩
    rintro k ⟨k1, k2, k3⟩
    by_cases h2 : k < l.length
    · obtain ⟨j, rfl⟩ : ∃ j, k = j + 1 := ⟨k - 1, by omega⟩
      have hw : IntKind.wrap .i64 (((j + 1 : Nat) : Int) - 1) = (j : Int) := by rw [show (((j + 1 : Nat) : Int) - 1) = (j : Int) by omega]; exact IntWalk.i64_in _ (by omega)
      have hf := Ev.follow (l[j]!) (l[j + 1]!)
      rw [show fol (l[j]!) (l[j + 1]!) = decide ((l[j]!).T < (l[j + 1]!).T) by unfold fol; rw [decide_eq_true (show two (l[j]!) (l[j + 1]!) from ⟨hall j (by omega), hall (j + 1) h2⟩), Bool.true_and]] at hf
      by_cases hlt : (l[j]!).T < (l[j + 1]!).T
      · have hn : ∀ i, i + 1 < j + 2 → (l[i]!).T < (l[i + 1]!).T := fun i hi => by
          by_cases e : i = j
          · subst e; exact hlt
          · exact k3 i (by omega)
        rw [decide_eq_true hlt] at hf
        (repeat' (first | refine zss ?_ | ((first | (with_reducible first | apply At.val | apply AtQ.val)); (exact pr_sub (by rfl) (by rfl) hw); exact rfl) | refine zsM ?_ | ((with_reducible first | apply AtM1.callp | apply AtQ.callp | apply At.callp); kernel_rfl; exact rfl; exact rfl; exact hf) | ((with_reducible apply At.alloc (d := 4)); exact rfl; exact rfl; intro b4) | (refine zsp ?_ ?_ <;> (intro hc; (try simp only [zhcs, reduceCtorEq] at hc); (try (exfalso; first | omega | contradiction | omega | exact absurd rfl hc | exact absurd (by decide) hc))))))
        all_goals ((with_reducible refine At.reachk ((j + 2)) ?_ ?_ ?_ ?_); exact zsubs; exact zml; exact zente; exact ⟨⟨by omega, by omega, hn⟩, by omega⟩)
      · rw [decide_eq_false hlt] at hf
        rw [show chk l = 9 by unfold chk; rw [if_pos hall, if_neg fun hh => hlt (hh j (by omega))]]
        (repeat' (first | refine zss ?_ | ((first | (with_reducible first | apply At.val | apply AtQ.val)); (exact pr_sub (by rfl) (by rfl) hw); exact rfl) | refine zsM ?_ | ((with_reducible first | apply AtM1.callp | apply AtQ.callp | apply At.callp); kernel_rfl; exact rfl; exact rfl; exact hf) | ((with_reducible apply At.alloc (d := 4)); exact rfl; exact rfl; intro b4) | (refine zsp ?_ ?_ <;> (intro hc; (try simp only [zhcs, reduceCtorEq] at hc); (try (exfalso; first | omega | contradiction | omega | exact absurd rfl hc | exact absurd (by decide) hc))))))
        all_goals ((with_reducible apply At.retB1 (B := [])); exact rfl; exact rfl; exact zml; exact zkp; exact ⟨rfl, rfl, rfl⟩)
    · rw [show chk l = 0 by unfold chk; rw [if_pos hall, if_pos (show asc l from fun i hi => k3 i (by omega))]]
      (repeat' (first | refine zss ?_ | refine zsM ?_ | ((with_reducible apply At.alloc (d := 4)); exact rfl; exact rfl; intro b4) | (refine zsp ?_ ?_ <;> (intro hc; (try simp only [zhcs, reduceCtorEq] at hc); (try (exfalso; first | omega | contradiction | omega | exact absurd rfl hc | exact absurd (by decide) hc))))))
      all_goals ((with_reducible apply At.retB1 (B := [])); exact rfl; exact rfl; exact zml; exact zkp; exact ⟨rfl, rfl, rfl⟩)
end Mrg
end Go.Proofs.YtkoijdmlehkhbaaGreatDoor
/- The document's merges: where a time stands in a list, whether two lists may be merged, what one has and the other one has, or has not. -/
set_option linter.unusedSimpArgs false
set_option linter.unusedVariables false
set_option linter.unusedSectionVars false
set_option maxRecDepth 20000
set_option maxHeartbeats 4000000
namespace Go.Proofs.YtkoijdmlehkhbaaGreatDoor
open Go Go.J
attribute [local irreducible] At AtQ AtM AtM1 PR Ct Pu Rd Res.blk Res.own Res.ex RVs RV
namespace Mrg
open Wide Ev
/-- where the first event of a time stands, from a place on -/
def ixF (l : List Ev) (t : Int) : Nat → Nat → Int
  | _, 0 => -1
  | i, k + 1 => if (l[i]!).T = t then (i : Int) else ixF l t (i + 1) k
def ix (l : List Ev) (t : Int) : Int := ixF l t 0 l.length
theorem ixF_spec (l : List Ev) (t : Int) : ∀ (k i : Nat), i + k = l.length → (ixF l t i k = -1 ∧ ∀ j, i ≤ j → j < l.length → (l[j]!).T ≠ t) ∨ (∃ j : Nat, ixF l t i k = (j : Int) ∧ i ≤ j ∧ j < l.length ∧ (l[j]!).T = t)
  | 0, i, h => .inl ⟨rfl, fun j h1 h2 => by omega⟩
  | k + 1, i, h => by
    unfold ixF
    by_cases ht : (l[i]!).T = t
    · rw [if_pos ht]; exact .inr ⟨i, rfl, Nat.le_refl _, by omega, ht⟩
    · rw [if_neg ht]
      rcases ixF_spec l t k (i + 1) (by omega) with ⟨h1, h2⟩ | ⟨j, h1, h2, h3, h4⟩
      · refine .inl ⟨h1, fun j hj hj2 => ?_⟩
        by_cases e : j = i
        · subst e; exact ht
        · exact h2 j (by omega) hj2
      · exact .inr ⟨j, h1, by omega, h3, h4⟩
theorem ix_spec (l : List Ev) (t : Int) : (ix l t = -1 ∧ ∀ j, j < l.length → (l[j]!).T ≠ t) ∨ (∃ j : Nat, ix l t = (j : Int) ∧ j < l.length ∧ (l[j]!).T = t) := by
  rcases ixF_spec l t l.length 0 (by omega) with ⟨h1, h2⟩ | ⟨j, h1, _, h3, h4⟩
  · exact .inl ⟨h1, fun j hj => h2 j (Nat.zero_le _) hj⟩
  · exact .inr ⟨j, h1, h3, h4⟩
/-- an event of the one stands in the other one, as another one -/
def clash (b : List Ev) (e : Ev) : Prop := ∃ j : Nat, ix b e.T = (j : Int) ∧ b[j]! ≠ e
def fits (a b : List Ev) : Prop := ∀ i, i < a.length → ¬ clash b (a[i]!)
open Classical in
noncomputable def may (a b : List Ev) : Int := if chk a ≠ 0 then chk a else if chk b ≠ 0 then chk b else if fits a b then 0 else 16
end Mrg
end Go.Proofs.YtkoijdmlehkhbaaGreatDoor
/- The document's Both and Less. -/
set_option linter.unusedSimpArgs false
set_option linter.unusedVariables false
set_option linter.unusedSectionVars false
set_option maxRecDepth 20000
set_option maxHeartbeats 4000000
namespace Go.Proofs.YtkoijdmlehkhbaaGreatDoor
open Go Go.J
attribute [local irreducible] At AtQ AtM AtM1 PR Ct Pu Rd Res.blk Res.own Res.ex RVs RV
namespace Mrg
open Wide Ev
open Classical in
/-- a list and an error: the list, if there is none -/
noncomputable def out (a b : List Ev) (l : List Ev) : List Ev := if may a b = 0 then l else []
end Mrg
end Go.Proofs.YtkoijdmlehkhbaaGreatDoor
/- The document's merge of two. -/
set_option linter.unusedSimpArgs false
set_option linter.unusedVariables false
set_option linter.unusedSectionVars false
set_option maxRecDepth 20000
set_option maxHeartbeats 4000000
namespace Go.Proofs.YtkoijdmlehkhbaaGreatDoor
open Go Go.J
attribute [local irreducible] At AtQ AtM AtM1 PR Ct Pu Rd Res.blk Res.own Res.ex RVs RV
namespace Mrg
open Wide Ev
def posF (l : List Ev) (t : Int) : Nat → Nat → Nat
  | i, 0 => i
  | i, k + 1 => if (l[i]!).T < t then posF l t (i + 1) k else i
def pos (l : List Ev) (t : Int) : Nat := posF l t 0 l.length
theorem posF_le (l : List Ev) (t : Int) : ∀ (k i : Nat), posF l t i k ≤ i + k
  | 0, i => Nat.le_refl _
  | k + 1, i => by
    unfold posF
    split
    · have := posF_le l t k (i + 1); omega
    · omega
def ins (l : List Ev) (e : Ev) : List Ev := l.take (pos l e.T) ++ ([e] ++ l.drop (pos l e.T))
def step (a : List Ev) (O : List Ev) (e : Ev) : List Ev := if 0 ≤ ix a e.T then O else ins O e
def two (a b : List Ev) : List Ev := b.foldl (step a) a
end Mrg
end Go.Proofs.YtkoijdmlehkhbaaGreatDoor
/- slices.Index, slices.Contains over whole numbers. -/
set_option linter.unusedSimpArgs false
set_option linter.unusedVariables false
set_option linter.unusedSectionVars false
set_option maxRecDepth 20000
set_option maxHeartbeats 4000000
namespace Go.Proofs.YtkoijdmlehkhbaaGreatDoor
open Go Go.J
attribute [local irreducible] At AtQ AtM AtM1 PR Ct Pu Rd Res.blk Res.own Res.ex RVs RV
namespace Mrg
abbrev fn (a : Int) : List Value := [.int .i64 a]
instance : Fl fn 1 := ⟨fun _ => rfl, fun x v h => by simp at h; subst h; rfl, by decide⟩
theorem index {m : Mem} (p : Option Addr) (c : Nat) (l : List Int) (v : Int) (hl : l.length ≤ 1000000) (sl0 : Sl m fn 1 p c l) :
    Ct Tryz.prog 158 #[.slice p l.length c, .int .i64 v] m [] (fun r m' B => m = m' ∧ B = [] ∧ ∃ k : Int, r = .int .i64 k ∧ (0 ≤ k ↔ v ∈ l)) := by
  refine Ct.enterV (by rfl) Tryz.func158 rfl Tryz.ntmps158 rfl (fun w0 Rest => ?_)
  (repeat' (first | refine zss ?_ | refine zsM ?_ | (refine zsp ?_ ?_ <;> (intro hc; (try simp only [zhcs, reduceCtorEq] at hc); (try (exfalso; first | contradiction | omega | exact absurd rfl hc | exact absurd (by decide) hc))))))
  (refine At.loopk (σ := Nat) [0, 1, 7] (fun s F0 => (8, .int .i64 (s : Int)) :: F0) (fun s => m) (fun s => Rest) (fun s => s ≤ l.length ∧ ∀ i, i < s → l[i]! ≠ v) (fun s => l.length - s) 0 (by rfl) ?_ zsubs zml zente ?_)
  · exact ⟨Nat.zero_le _, fun i h => absurd h (Nat.not_lt_zero i)⟩
  rintro s ⟨hs, hn⟩
  by_cases h : s < l.length
  · by_cases e : l[s]! = v
    · have hmem : v ∈ l := by rw [← e, getElem!_pos l s h]; exact List.getElem_mem h
      (repeat' (first | refine zss ?_ | refine zsM ?_ | (refine zsp ?_ ?_ <;> (intro hc; (try simp only [zhcs, reduceCtorEq] at hc); (try (exfalso; first | omega | contradiction | omega | exact absurd rfl hc | exact absurd (by decide) hc))))))
      all_goals ((with_reducible apply At.retB1 (B := [])); exact rfl; exact rfl; exact zml; exact zkp; exact ⟨rfl, rfl, _, rfl, ⟨fun _ => hmem, fun _ => by omega⟩⟩)
    · have hnn : ∀ i, i < s + 1 → l[i]! ≠ v := fun i hi => by
        by_cases e1 : i = s
        · subst e1; exact e
        · exact hn i (by omega)
      (repeat' (first | refine zss ?_ | refine zsM ?_ | (refine zsp ?_ ?_ <;> (intro hc; (try simp only [zhcs, reduceCtorEq] at hc); (try (exfalso; first | omega | contradiction | omega | exact absurd rfl hc | exact absurd (by decide) hc))))))
      all_goals ((with_reducible refine At.reachk ((s + 1)) ?_ ?_ ?_ ?_); exact zsubs; exact zml; exact zente; exact ⟨⟨h, hnn⟩, by omega⟩)
  · have hno : ¬ v ∈ l := fun hm => by
      obtain ⟨i, hi, he⟩ := List.mem_iff_getElem.1 hm
      exact hn i (by omega) (by rw [getElem!_pos l i hi]; exact he)
    (repeat' (first | refine zss ?_ | refine zsM ?_ | (refine zsp ?_ ?_ <;> (intro hc; (try simp only [zhcs, reduceCtorEq] at hc); (try (exfalso; first | omega | contradiction | omega | exact absurd rfl hc | exact absurd (by decide) hc))))))
    all_goals ((with_reducible apply At.retB1 (B := [])); exact rfl; exact rfl; exact zml; exact zkp; exact ⟨rfl, rfl, _, rfl, ⟨fun hh => absurd hh (by decide), fun hh => absurd hh hno⟩⟩)
theorem contains {m : Mem} (p : Option Addr) (c : Nat) (l : List Int) (v : Int) (hl : l.length ≤ 1000000) (sl0 : Sl m fn 1 p c l) :
    Rd Tryz.prog 110 #[.slice p l.length c, .int .i64 v] m [] (.bool (decide (v ∈ l))) := by
  unfold Rd
  refine Ct.enterV (by rfl) Tryz.func110 rfl Tryz.ntmps110 rfl (fun w0 Rest => ?_)
  (repeat' (first | refine zss ?_ | refine zsM ?_ | ((with_reducible first | apply At.c1 | apply At.c0); exact rfl; exact rfl; exact index p c l v hl sl0; exact ztk; kernel_rfl; rintro v' m' B' hm' ⟨rfl, rfl, k, rfl, hk⟩; (try replace sl0 := sl0.mono hm'); (try (have hq0 : hm' = Mem.le_refl _ := rfl; clear hq0 hm'))) | (refine zsp ?_ ?_ <;> (intro hc; (try simp only [zhcs, reduceCtorEq] at hc); (try (exfalso; first | contradiction | omega | exact absurd rfl hc | exact absurd (by decide) hc))))))
  all_goals ((with_reducible apply At.retB1 (B := [])); exact rfl; exact rfl; exact zml; exact zkp; exact ⟨congrArg Value.bool (by rw [decide_eq_decide]; exact hk), rfl, rfl⟩)
end Mrg
end Go.Proofs.YtkoijdmlehkhbaaGreatDoor
/- The closure that takes an event of those that are asked for. -/
set_option linter.unusedSimpArgs false
set_option linter.unusedVariables false
set_option linter.unusedSectionVars false
set_option maxRecDepth 20000
set_option maxHeartbeats 4000000
namespace Go.Proofs.YtkoijdmlehkhbaaGreatDoor
open Go Go.J
attribute [local irreducible] At AtQ AtM AtM1 PR Ct Pu Rd Res.blk Res.own Res.ex RVs RV
namespace Mrg
open Ev
abbrev ptr (b : Nat) : Value := .pointer (some ⟨b, 0, none⟩)
def tk (ws : List Int) (who : Int) (L : List Ev) (e : Ev) : List Ev := if who ∈ ws then L ++ [e] else L
/-- what the closure has: whose events, and those it took -/
abbrev tr (b5 b8 : Nat) (pw : Option Addr) (cw : Nat) (ws : List Int) (p : Option Addr) (c : Nat) (L : List Ev) : List Res :=
  [.blk b5 48 [.slice pw ws.length cw], .blk b8 51 [.slice p L.length c], .own cells 4 57 p c L]
theorem take_ {m : Mem} (b5 b8 : Nat) (pw : Option Addr) (cw : Nat) (ws : List Int) (p : Option Addr) (c : Nat) (L : List Ev) (e : Ev) (who : Int) (hw : ws.length ≤ 1000) (hL : L.length ≤ 4000000) (sl0 : Sl m fn 1 pw cw ws) :
    Ct Tryz.prog 109 #[e.v, .int .i64 who, ptr b5, ptr b8] m (tr b5 b8 pw cw ws p c L) (fun v m' B => v = .tuple #[] ∧ m = m' ∧ ∃ p' c', B = tr b5 b8 pw cw ws p' c' (tk ws who L e)) := by
  by_cases h : who ∈ ws
  · have ht : tk ws who L e = L ++ [e] := if_pos h
    rw [ht]
    refine Ct.enterV (by rfl) Tryz.func109 rfl Tryz.ntmps109 rfl (fun w0 Rest => ?_)
    (repeat' (first | refine zss ?_ | refine zsOM ?_ | ((with_reducible first | apply AtM1.cr | apply AtQ.cr | apply At.cr); exact rfl; exact rfl; exact fun _ hmm => decide_eq_true h ▸ contains pw cw ws who (by omega) (sl0.mono hmm); exact ztk; kernel_rfl) | ((with_reducible apply At.lit cells [e]); exact inferInstance; (iterate 7 exact rfl); intro _) | ((with_reducible apply At.apW (f := cells)); exact rfl; exact rfl; exact (by repeat constructor); exact inferInstance; exact zrdl; (iterate 4 exact rfl); exact zom; exact rfl; intro p2 c2) | ((with_reducible apply At.box (d := 4)); exact rfl; exact rfl; exact rfl; intro b4) | (refine zsp ?_ ?_ <;> (intro hc; (try simp only [zhcs, reduceCtorEq] at hc); (try (exfalso; first | omega | contradiction | omega | exact absurd rfl hc | exact absurd (by decide) hc))))))
    all_goals ((first | (with_reducible apply At.retB0 (B := [.blk b5 _ _, .blk b8 _ _, .own cells 4 57 _ _ (L ++ [e])])) | (with_reducible apply At.retR0 (B := [.blk b5 _ _, .blk b8 _ _, .own cells 4 57 _ _ (L ++ [e])]))); exact rfl; exact zml; exact zkp; exact ⟨rfl, rfl, _, _, rfl⟩)
  · have ht : tk ws who L e = L := if_neg h
    rw [ht]
    refine Ct.enterV (by rfl) Tryz.func109 rfl Tryz.ntmps109 rfl (fun w0 Rest => ?_)
    (repeat' (first | refine zss ?_ | refine zsOM ?_ | ((with_reducible first | apply AtM1.cr | apply AtQ.cr | apply At.cr); exact rfl; exact rfl; exact fun _ hmm => decide_eq_false h ▸ contains pw cw ws who (by omega) (sl0.mono hmm); exact ztk; kernel_rfl) | ((with_reducible apply At.box (d := 4)); exact rfl; exact rfl; exact rfl; intro b4) | (refine zsp ?_ ?_ <;> (intro hc; (try simp only [zhcs, reduceCtorEq] at hc); (try (exfalso; first | omega | contradiction | omega | exact absurd rfl hc | exact absurd (by decide) hc))))))
    all_goals ((first | (with_reducible apply At.retB0 (B := [.blk b5 _ _, .blk b8 _ _, .own cells 4 57 _ _ L])) | (with_reducible apply At.retR0 (B := [.blk b5 _ _, .blk b8 _ _, .own cells 4 57 _ _ L]))); exact rfl; exact zml; exact zkp; exact ⟨rfl, rfl, _, _, rfl⟩)
end Mrg
end Go.Proofs.YtkoijdmlehkhbaaGreatDoor
/- The program's walk over two lists. -/
set_option linter.unusedSimpArgs false
set_option linter.unusedVariables false
set_option linter.unusedSectionVars false
set_option maxRecDepth 20000
set_option maxHeartbeats 4000000
namespace Go.Proofs.YtkoijdmlehkhbaaGreatDoor
open Go Go.J
attribute [local irreducible] At AtQ AtM AtM1 PR Ct Pu Rd Res.blk Res.own Res.ex RVs RV
namespace Mrg
open Ev
def mg (ws : List Int) : List Ev → List Ev → List Ev → Option (List Ev × List Ev × List Ev)
  | [], b, O => some ([], b, O)
  | x :: a, [], O => some (x :: a, [], O)
  | x :: a, y :: b, O => if x = y then mg ws a b (tk ws 2 O x) else if x.T < y.T then mg ws a (y :: b) (tk ws 0 O x) else if y.T < x.T then mg ws (x :: a) b (tk ws 1 O y) else none
termination_by a b => a.length + b.length
theorem tk_len (ws : List Int) (w : Int) (O : List Ev) (e : Ev) : (tk ws w O e).length ≤ O.length + 1 := by
  unfold tk; split <;> simp
structure WS where
  (A : List Ev) (pa : Option Addr) (ca : Nat) (B : List Ev) (pb : Option Addr) (cb : Nat) (O : List Ev) (p : Option Addr) (c : Nat)
theorem walk1 {m : Mem} (b5 b8 : Nat) (pw : Option Addr) (cw : Nat) (ws : List Int) (pa : Option Addr) (ca : Nat) (a : List Ev) (pb : Option Addr) (cb : Nat) (b : List Ev) (p : Option Addr) (c : Nat) (L : List Ev)
    (hw : ws.length ≤ 1000) (ha : a.length ≤ 1000000) (hb : b.length ≤ 1000000) (hL : L.length ≤ 1000000) (sl0 : Sl m fn 1 pw cw ws) (sl1 : Sl m cells 4 pa ca a) (sl2 : Sl m cells 4 pb cb b) (h1 : chk a = 0) (h2 : chk b = 0) (hm : mg ws a b L = none) :
    Ct Tryz.prog 108 #[.slice pa a.length ca, .slice pb b.length cb, .func (.func 109) #[] #[ptr b5, ptr b8]] m (tr b5 b8 pw cw ws p c L) (fun v m' B => v = .int .i64 16 ∧ m = m' ∧ ∃ p' c' L', B = tr b5 b8 pw cw ws p' c' L') := by
  have k1 : ∀ m', m.le m' → Rd Tryz.prog 157 #[.slice pa a.length ca] m' [] (.int .i64 0) := fun m' hm => h1 ▸ check pa ca a ha (sl1.mono hm)
  have k2 : ∀ m', m.le m' → Rd Tryz.prog 157 #[.slice pb b.length cb] m' [] (.int .i64 0) := fun m' hm => h2 ▸ check pb cb b hb (sl2.mono hm)
  refine Ct.enterV (by rfl) Tryz.func108 rfl Tryz.ntmps108 rfl (fun w0 Rest => ?_)
  (repeat' (first | refine zss ?_ | refine zsM ?_ | ((with_reducible first | apply AtM1.cr | apply AtQ.cr | apply At.cr); exact rfl; exact rfl; exact fun _ hmm => k1 _ hmm; exact ztk; kernel_rfl) | ((with_reducible first | apply AtM1.cr | apply AtQ.cr | apply At.cr); exact rfl; exact rfl; exact fun _ hmm => k2 _ hmm; exact ztk; kernel_rfl) | ((with_reducible apply At.alloc (d := 10)); exact rfl; exact rfl; intro b10) | ((with_reducible apply At.alloc (d := 12)); exact rfl; exact rfl; intro b12) | (refine zsp ?_ ?_ <;> (intro hc; (try simp only [zhcs, reduceCtorEq] at hc); (try (exfalso; first | omega | contradiction | omega | exact absurd rfl hc | exact absurd (by decide) hc))))))
  (refine At.loopk (σ := WS) [2] (fun s F0 => (0, .slice s.pa s.A.length s.ca) :: (1, .slice s.pb s.B.length s.cb) :: F0) (fun s => m) (fun s => .blk b5 48 [.slice pw ws.length cw] :: .blk b8 51 [.slice s.p s.O.length s.c] :: .own cells 4 57 s.p s.c s.O :: Rest) (fun s => Sl m cells 4 s.pa s.ca s.A ∧ Sl m cells 4 s.pb s.cb s.B ∧ mg ws s.A s.B s.O = none ∧ s.A.length ≤ 1000000 ∧ s.B.length ≤ 1000000 ∧ s.O.length + s.A.length + s.B.length ≤ 3000000) (fun s => s.A.length + s.B.length) ⟨a, pa, ca, b, pb, cb, L, p, c⟩ (by rfl) ?_ zsubs zml zente ?_)
  · exact ⟨sl1, sl2, hm, ha, hb, by show L.length + a.length + b.length ≤ _; omega⟩
  rintro ⟨A, qa, da, B, qb, db, O, q, d⟩ ⟨sl3, sl4, g1, g2, g3, g4⟩
  dsimp only at sl3 sl4 g1 g2 g3 g4 ⊢
  rcases A with _ | ⟨x, A⟩
  · rw [mg] at g1; cases g1
  rcases B with _ | ⟨y, B⟩
  · rw [mg] at g1; cases g1
  rw [mg] at g1
  simp only [List.length_cons] at g2 g3 g4
  by_cases e1 : x = y
  · rw [if_pos e1] at g1
    have hl := tk_len ws 2 O x
    (repeat' (first | refine zss ?_ | ((first | (with_reducible first | apply At.val | apply AtQ.val)); (first | exact pr_eveq (by rfl) (by rfl) | exact pr_fieldAddr_at (k := 0 * 4) (by rfl) (by rfl)); exact rfl) | refine zsOM ?_ | ((with_reducible apply At.callf); exact rfl; kernel_rfl; exact rfl; exact rfl; exact take_ b5 b8 pw cw ws q d O x 2 hw (by omega) sl0; exact ztk; rintro v' m' B' hm' ⟨rfl, rfl, p2, c2, rfl⟩; (try replace sl0 := sl0.mono hm'); (try replace sl1 := sl1.mono hm'); (try replace sl2 := sl2.mono hm'); (try replace sl3 := sl3.mono hm'); (try replace sl4 := sl4.mono hm')) | ((with_reducible apply At.alloc (d := 10)); exact rfl; exact rfl; intro b10) | ((with_reducible apply At.alloc (d := 12)); exact rfl; exact rfl; intro b12) | (refine zsp ?_ ?_ <;> (intro hc; (try simp only [zhcs, reduceCtorEq] at hc); (try (exfalso; first | (first | omega | (simp only [List.length_cons] at hc; omega) | exact absurd e1 hc | exact absurd hc e1) | contradiction | omega | exact absurd rfl hc | exact absurd (by decide) hc))))))
    all_goals ((with_reducible refine At.reachk (⟨A, subp qa da 1 4, da - 1, B, subp qb db 1 4, db - 1, tk ws 2 O x, p2, c2⟩) ?_ ?_ ?_ ?_); exact zsubs; exact zml; exact zente; exact ⟨⟨Sl.subl sl3 1 (by simp), Sl.subl sl4 1 (by simp), g1, by dsimp only [List.length_cons]; omega, by dsimp only [List.length_cons]; omega, by dsimp only [List.length_cons]; omega⟩, by dsimp only [List.length_cons]; omega⟩)
  · rw [if_neg e1] at g1
    by_cases e2 : x.T < y.T
    · rw [if_pos e2] at g1
      have hl := tk_len ws 0 O x
      (repeat' (first | refine zss ?_ | ((first | (with_reducible first | apply At.val | apply AtQ.val)); (first | exact pr_eveq (by rfl) (by rfl) | exact pr_fieldAddr_at (k := 0 * 4) (by rfl) (by rfl)); exact rfl) | refine zsOM ?_ | ((with_reducible apply At.callf); exact rfl; kernel_rfl; exact rfl; exact rfl; exact take_ b5 b8 pw cw ws q d O x 0 hw (by omega) sl0; exact ztk; rintro v' m' B' hm' ⟨rfl, rfl, p2, c2, rfl⟩; (try replace sl0 := sl0.mono hm'); (try replace sl1 := sl1.mono hm'); (try replace sl2 := sl2.mono hm'); (try replace sl3 := sl3.mono hm'); (try replace sl4 := sl4.mono hm')) | ((with_reducible apply At.alloc (d := 10)); exact rfl; exact rfl; intro b10) | ((with_reducible apply At.alloc (d := 12)); exact rfl; exact rfl; intro b12) | (refine zsp ?_ ?_ <;> (intro hc; (try simp only [zhcs, reduceCtorEq] at hc); (try (exfalso; first | (first | omega | (simp only [List.length_cons] at hc; omega) | exact absurd e1 hc | exact absurd hc e1) | contradiction | omega | exact absurd rfl hc | exact absurd (by decide) hc))))))
      all_goals ((with_reducible refine At.reachk (⟨A, subp qa da 1 4, da - 1, y :: B, qb, db, tk ws 0 O x, p2, c2⟩) ?_ ?_ ?_ ?_); exact zsubs; exact zml; exact zente; exact ⟨⟨Sl.subl sl3 1 (by simp), sl4, g1, by dsimp only [List.length_cons]; omega, by dsimp only [List.length_cons]; omega, by dsimp only [List.length_cons]; omega⟩, by dsimp only [List.length_cons]; omega⟩)
    · rw [if_neg e2] at g1
      by_cases e3 : y.T < x.T
      · rw [if_pos e3] at g1
        have hl := tk_len ws 1 O y
        (repeat' (first | refine zss ?_ | ((first | (with_reducible first | apply At.val | apply AtQ.val)); (first | exact pr_eveq (by rfl) (by rfl) | exact pr_fieldAddr_at (k := 0 * 4) (by rfl) (by rfl)); exact rfl) | refine zsOM ?_ | ((with_reducible apply At.callf); exact rfl; kernel_rfl; exact rfl; exact rfl; exact take_ b5 b8 pw cw ws q d O y 1 hw (by omega) sl0; exact ztk; rintro v' m' B' hm' ⟨rfl, rfl, p2, c2, rfl⟩; (try replace sl0 := sl0.mono hm'); (try replace sl1 := sl1.mono hm'); (try replace sl2 := sl2.mono hm'); (try replace sl3 := sl3.mono hm'); (try replace sl4 := sl4.mono hm')) | ((with_reducible apply At.alloc (d := 10)); exact rfl; exact rfl; intro b10) | ((with_reducible apply At.alloc (d := 12)); exact rfl; exact rfl; intro b12) | (refine zsp ?_ ?_ <;> (intro hc; (try simp only [zhcs, reduceCtorEq] at hc); (try (exfalso; first | (first | omega | (simp only [List.length_cons] at hc; omega) | exact absurd e1 hc | exact absurd hc e1) | contradiction | omega | exact absurd rfl hc | exact absurd (by decide) hc))))))
        all_goals ((with_reducible refine At.reachk (⟨x :: A, qa, da, B, subp qb db 1 4, db - 1, tk ws 1 O y, p2, c2⟩) ?_ ?_ ?_ ?_); exact zsubs; exact zml; exact zente; exact ⟨⟨sl3, Sl.subl sl4 1 (by simp), g1, by dsimp only [List.length_cons]; omega, by dsimp only [List.length_cons]; omega, by dsimp only [List.length_cons]; omega⟩, by dsimp only [List.length_cons]; omega⟩)
      · (repeat' (first | refine zss ?_ | ((first | (with_reducible first | apply At.val | apply AtQ.val)); (first | exact pr_eveq (by rfl) (by rfl) | exact pr_fieldAddr_at (k := 0 * 4) (by rfl) (by rfl)); exact rfl) | refine zsOM ?_ | ((with_reducible apply At.alloc (d := 10)); exact rfl; exact rfl; intro b10) | ((with_reducible apply At.alloc (d := 12)); exact rfl; exact rfl; intro b12) | (refine zsp ?_ ?_ <;> (intro hc; (try simp only [zhcs, reduceCtorEq] at hc); (try (exfalso; first | (first | omega | (simp only [List.length_cons] at hc; omega) | exact absurd e1 hc | exact absurd hc e1) | contradiction | omega | exact absurd rfl hc | exact absurd (by decide) hc))))))
        all_goals ((with_reducible apply At.retB1 (B := [.blk b5 _ _, .blk b8 _ _, .own cells 4 57 _ _ O])); exact rfl; exact rfl; exact zml; exact zkp; exact ⟨rfl, rfl, _, _, _, rfl⟩)
end Mrg
end Go.Proofs.YtkoijdmlehkhbaaGreatDoor
/- The program's walk over two lists that fit. -/
set_option linter.unusedSimpArgs false
set_option linter.unusedVariables false
set_option linter.unusedSectionVars false
set_option maxRecDepth 20000
set_option maxHeartbeats 4000000
namespace Go.Proofs.YtkoijdmlehkhbaaGreatDoor
open Go Go.J
attribute [local irreducible] At AtQ AtM AtM1 PR Ct Pu Rd Res.blk Res.own Res.ex RVs RV
namespace Mrg
open Ev
theorem tk_take (ws : List Int) (w : Int) (A O : List Ev) {k : Nat} (h : k < A.length) : (A.take (k + 1)).foldl (tk ws w) O = tk ws w ((A.take k).foldl (tk ws w) O) (A[k]!) := by
  have e : A.take (k + 1) = A.take k ++ [A[k]!] := by rw [List.take_add_one, getElem!_pos A k h]; simp [h]
  rw [e, List.foldl_append]; rfl
structure LS where
  (i : Nat) (O : List Ev) (p : Option Addr) (c : Nat)
theorem walk2 {m : Mem} (b5 b8 : Nat) (pw : Option Addr) (cw : Nat) (ws : List Int) (pa : Option Addr) (ca : Nat) (a : List Ev) (pb : Option Addr) (cb : Nat) (b : List Ev) (p : Option Addr) (c : Nat) (L : List Ev) (r : List Ev × List Ev × List Ev)
    (hw : ws.length ≤ 1000) (ha : a.length ≤ 1000000) (hb : b.length ≤ 1000000) (hL : L.length ≤ 1000000) (sl0 : Sl m fn 1 pw cw ws) (sl1 : Sl m cells 4 pa ca a) (sl2 : Sl m cells 4 pb cb b) (h1 : chk a = 0) (h2 : chk b = 0) (hm : mg ws a b L = some r) :
    Ct Tryz.prog 108 #[.slice pa a.length ca, .slice pb b.length cb, .func (.func 109) #[] #[ptr b5, ptr b8]] m (tr b5 b8 pw cw ws p c L) (fun v m' B => v = .int .i64 0 ∧ m = m' ∧ ∃ p' c', B = tr b5 b8 pw cw ws p' c' (r.2.1.foldl (tk ws 1) (r.1.foldl (tk ws 0) r.2.2))) := by
  have k1 : ∀ m', m.le m' → Rd Tryz.prog 157 #[.slice pa a.length ca] m' [] (.int .i64 0) := fun m' hm => h1 ▸ check pa ca a ha (sl1.mono hm)
  have k2 : ∀ m', m.le m' → Rd Tryz.prog 157 #[.slice pb b.length cb] m' [] (.int .i64 0) := fun m' hm => h2 ▸ check pb cb b hb (sl2.mono hm)
  refine Ct.enterV (by rfl) Tryz.func108 rfl Tryz.ntmps108 rfl (fun w0 Rest => ?_)
  (repeat' (first | refine zss ?_ | refine zsM ?_ | ((with_reducible first | apply AtM1.cr | apply AtQ.cr | apply At.cr); exact rfl; exact rfl; exact fun _ hmm => k1 _ hmm; exact ztk; kernel_rfl) | ((with_reducible first | apply AtM1.cr | apply AtQ.cr | apply At.cr); exact rfl; exact rfl; exact fun _ hmm => k2 _ hmm; exact ztk; kernel_rfl) | ((with_reducible apply At.alloc (d := 10)); exact rfl; exact rfl; intro b10) | ((with_reducible apply At.alloc (d := 12)); exact rfl; exact rfl; intro b12) | (refine zsp ?_ ?_ <;> (intro hc; (try simp only [zhcs, reduceCtorEq] at hc); (try (exfalso; first | omega | contradiction | omega | exact absurd rfl hc | exact absurd (by decide) hc))))))
  (refine At.loopk (σ := WS) [2] (fun s F0 => (0, .slice s.pa s.A.length s.ca) :: (1, .slice s.pb s.B.length s.cb) :: F0) (fun s => m) (fun s => .blk b5 48 [.slice pw ws.length cw] :: .blk b8 51 [.slice s.p s.O.length s.c] :: .own cells 4 57 s.p s.c s.O :: Rest) (fun s => Sl m cells 4 s.pa s.ca s.A ∧ Sl m cells 4 s.pb s.cb s.B ∧ mg ws s.A s.B s.O = some r ∧ s.A.length ≤ 1000000 ∧ s.B.length ≤ 1000000 ∧ s.O.length + s.A.length + s.B.length ≤ 3000000) (fun s => s.A.length + s.B.length) ⟨a, pa, ca, b, pb, cb, L, p, c⟩ (by rfl) ?_ zsubs zml zente ?_)
  · exact ⟨sl1, sl2, hm, ha, hb, by show L.length + a.length + b.length ≤ _; omega⟩
  rintro ⟨A, qa, da, B, qb, db, O, q, d⟩ ⟨sl3, sl4, g1, g2, g3, g4⟩
  dsimp only at sl3 sl4 g1 g2 g3 g4 ⊢
  by_cases hend : A = [] ∨ B = []
  · have hr : r = (A, B, O) := by
      rcases A with _ | ⟨x, A⟩
      · rw [mg] at g1; exact (Option.some.inj g1).symm
      · rcases B with _ | ⟨y, B⟩
        · rw [mg] at g1; exact (Option.some.inj g1).symm
        · rcases hend with h | h <;> cases h
    subst hr
    have hz : A.length = 0 ∨ B.length = 0 := by rcases hend with h | h <;> simp [h]
    dsimp only
    (repeat' (first | refine zss ?_ | refine zsOM ?_ | ((with_reducible apply At.alloc (d := 10)); exact rfl; exact rfl; intro b10) | ((with_reducible apply At.alloc (d := 12)); exact rfl; exact rfl; intro b12) | (refine zsp ?_ ?_ <;> (intro hc; (try simp only [zhcs, reduceCtorEq] at hc); (try (exfalso; first | omega | contradiction | omega | exact absurd rfl hc | exact absurd (by decide) hc))))))
    all_goals
      (refine At.loopk (σ := LS) [1, 2, 82, 83] (fun s F0 => (84, .int .i64 (s.i : Int)) :: F0) (fun s => m) (fun s => .blk b5 48 [.slice pw ws.length cw] :: .blk b8 51 [.slice s.p s.O.length s.c] :: .own cells 4 57 s.p s.c s.O :: Rest) (fun s => s.i ≤ A.length ∧ s.O = (A.take s.i).foldl (tk ws 0) O ∧ s.O.length ≤ O.length + s.i) (fun s => A.length - s.i) ⟨0, O, q, d⟩ (by rfl) ?_ zsubs zml zente ?_)
      · exact ⟨Nat.zero_le _, rfl, Nat.le_refl _⟩
      rintro ⟨i, O1, q1, d1⟩ ⟨f1, f2, f3⟩
      dsimp only at f1 f2 f3 ⊢
      by_cases h : i < A.length
      · have ht := tk_take ws 0 A O h
        have hl := tk_len ws 0 O1 (A[i]!)
        (repeat' (first | refine zss ?_ | refine zsOM ?_ | ((with_reducible apply At.callf); exact rfl; kernel_rfl; exact rfl; exact rfl; exact take_ b5 b8 pw cw ws q1 d1 O1 (A[i]!) 0 hw (by omega) sl0; exact ztk; rintro v' m' B' hm' ⟨rfl, rfl, p2, c2, rfl⟩; (try replace sl0 := sl0.mono hm'); (try replace sl1 := sl1.mono hm'); (try replace sl2 := sl2.mono hm'); (try replace sl3 := sl3.mono hm'); (try replace sl4 := sl4.mono hm')) | ((with_reducible apply At.alloc (d := 10)); exact rfl; exact rfl; intro b10) | ((with_reducible apply At.alloc (d := 12)); exact rfl; exact rfl; intro b12) | (refine zsp ?_ ?_ <;> (intro hc; (try simp only [zhcs, reduceCtorEq] at hc); (try (exfalso; first | omega | contradiction | omega | exact absurd rfl hc | exact absurd (by decide) hc))))))
        all_goals ((with_reducible refine At.reachk (⟨i + 1, tk ws 0 O1 (A[i]!), p2, c2⟩) ?_ ?_ ?_ ?_); exact zsubs; exact zml; exact zente; exact ⟨⟨h, by show _ = _; rw [ht, ← f2], by dsimp only; omega⟩, by dsimp only; omega⟩)
      · rw [List.take_of_length_le (by omega)] at f2
        rw [← f2]
        (repeat' (first | refine zss ?_ | refine zsOM ?_ | ((with_reducible apply At.alloc (d := 10)); exact rfl; exact rfl; intro b10) | ((with_reducible apply At.alloc (d := 12)); exact rfl; exact rfl; intro b12) | (refine zsp ?_ ?_ <;> (intro hc; (try simp only [zhcs, reduceCtorEq] at hc); (try (exfalso; first | omega | contradiction | omega | exact absurd rfl hc | exact absurd (by decide) hc))))))
        (refine At.loopk (σ := LS) [2, 92, 93] (fun s F0 => (94, .int .i64 (s.i : Int)) :: F0) (fun s => m) (fun s => .blk b5 48 [.slice pw ws.length cw] :: .blk b8 51 [.slice s.p s.O.length s.c] :: .own cells 4 57 s.p s.c s.O :: Rest) (fun s => s.i ≤ B.length ∧ s.O = (B.take s.i).foldl (tk ws 1) O1 ∧ s.O.length ≤ O1.length + s.i) (fun s => B.length - s.i) ⟨0, O1, q1, d1⟩ (by rfl) ?_ zsubs zml zente ?_)
        · exact ⟨Nat.zero_le _, rfl, Nat.le_refl _⟩
        clear f2
        rintro ⟨j, O2, q2, d2⟩ ⟨e1, f2, e3⟩
        dsimp only at e1 f2 e3 ⊢
        by_cases h : j < B.length
        · have ht := tk_take ws 1 B O1 h
          have hl := tk_len ws 1 O2 (B[j]!)
          (repeat' (first | refine zss ?_ | refine zsOM ?_ | ((with_reducible apply At.callf); exact rfl; kernel_rfl; exact rfl; exact rfl; exact take_ b5 b8 pw cw ws q2 d2 O2 (B[j]!) 1 hw (by omega) sl0; exact ztk; rintro v' m' B' hm' ⟨rfl, rfl, p2, c2, rfl⟩; (try replace sl0 := sl0.mono hm'); (try replace sl1 := sl1.mono hm'); (try replace sl2 := sl2.mono hm'); (try replace sl3 := sl3.mono hm'); (try replace sl4 := sl4.mono hm')) | ((with_reducible apply At.alloc (d := 10)); exact rfl; exact rfl; intro b10) | ((with_reducible apply At.alloc (d := 12)); exact rfl; exact rfl; intro b12) | (refine zsp ?_ ?_ <;> (intro hc; (try simp only [zhcs, reduceCtorEq] at hc); (try (exfalso; first | omega | contradiction | omega | exact absurd rfl hc | exact absurd (by decide) hc))))))
          all_goals ((with_reducible refine At.reachk (⟨j + 1, tk ws 1 O2 (B[j]!), p2, c2⟩) ?_ ?_ ?_ ?_); exact zsubs; exact zml; exact zente; exact ⟨⟨h, by show _ = _; rw [ht, ← f2], by dsimp only; omega⟩, by dsimp only; omega⟩)
        · rw [List.take_of_length_le (by omega)] at f2
          rw [← f2]
          (repeat' (first | refine zss ?_ | refine zsOM ?_ | ((with_reducible apply At.alloc (d := 10)); exact rfl; exact rfl; intro b10) | ((with_reducible apply At.alloc (d := 12)); exact rfl; exact rfl; intro b12) | (refine zsp ?_ ?_ <;> (intro hc; (try simp only [zhcs, reduceCtorEq] at hc); (try (exfalso; first | omega | contradiction | omega | exact absurd rfl hc | exact absurd (by decide) hc))))))
          all_goals ((with_reducible apply At.retB1 (B := [.blk b5 _ _, .blk b8 _ _, .own cells 4 57 _ _ O2])); exact rfl; exact rfl; exact zml; exact zkp; exact ⟨rfl, rfl, _, _, rfl⟩)
  rcases A with _ | ⟨x, A⟩
  · exact absurd (.inl rfl) hend
  rcases B with _ | ⟨y, B⟩
  · exact absurd (.inr rfl) hend
  clear hend
  rw [mg] at g1
  simp only [List.length_cons] at g2 g3 g4
  by_cases e1 : x = y
  · rw [if_pos e1] at g1
    have hl := tk_len ws 2 O x
    (repeat' (first | refine zss ?_ | ((first | (with_reducible first | apply At.val | apply AtQ.val)); (first | exact pr_eveq (by rfl) (by rfl) | exact pr_fieldAddr_at (k := 0 * 4) (by rfl) (by rfl)); exact rfl) | refine zsOM ?_ | ((with_reducible apply At.callf); exact rfl; kernel_rfl; exact rfl; exact rfl; exact take_ b5 b8 pw cw ws q d O x 2 hw (by omega) sl0; exact ztk; rintro v' m' B' hm' ⟨rfl, rfl, p2, c2, rfl⟩; (try replace sl0 := sl0.mono hm'); (try replace sl1 := sl1.mono hm'); (try replace sl2 := sl2.mono hm'); (try replace sl3 := sl3.mono hm'); (try replace sl4 := sl4.mono hm')) | ((with_reducible apply At.alloc (d := 10)); exact rfl; exact rfl; intro b10) | ((with_reducible apply At.alloc (d := 12)); exact rfl; exact rfl; intro b12) | (refine zsp ?_ ?_ <;> (intro hc; (try simp only [zhcs, reduceCtorEq] at hc); (try (exfalso; first | (first | omega | (simp only [List.length_cons] at hc; omega) | exact absurd e1 hc | exact absurd hc e1) | contradiction | omega | exact absurd rfl hc | exact absurd (by decide) hc))))))
    all_goals ((with_reducible refine At.reachk (⟨A, subp qa da 1 4, da - 1, B, subp qb db 1 4, db - 1, tk ws 2 O x, p2, c2⟩) ?_ ?_ ?_ ?_); exact zsubs; exact zml; exact zente; exact ⟨⟨Sl.subl sl3 1 (by simp), Sl.subl sl4 1 (by simp), g1, by dsimp only [List.length_cons]; omega, by dsimp only [List.length_cons]; omega, by dsimp only [List.length_cons]; omega⟩, by dsimp only [List.length_cons]; omega⟩)
  · rw [if_neg e1] at g1
    by_cases e2 : x.T < y.T
    · rw [if_pos e2] at g1
      have hl := tk_len ws 0 O x
      (repeat' (first | refine zss ?_ | ((first | (with_reducible first | apply At.val | apply AtQ.val)); (first | exact pr_eveq (by rfl) (by rfl) | exact pr_fieldAddr_at (k := 0 * 4) (by rfl) (by rfl)); exact rfl) | refine zsOM ?_ | ((with_reducible apply At.callf); exact rfl; kernel_rfl; exact rfl; exact rfl; exact take_ b5 b8 pw cw ws q d O x 0 hw (by omega) sl0; exact ztk; rintro v' m' B' hm' ⟨rfl, rfl, p2, c2, rfl⟩; (try replace sl0 := sl0.mono hm'); (try replace sl1 := sl1.mono hm'); (try replace sl2 := sl2.mono hm'); (try replace sl3 := sl3.mono hm'); (try replace sl4 := sl4.mono hm')) | ((with_reducible apply At.alloc (d := 10)); exact rfl; exact rfl; intro b10) | ((with_reducible apply At.alloc (d := 12)); exact rfl; exact rfl; intro b12) | (refine zsp ?_ ?_ <;> (intro hc; (try simp only [zhcs, reduceCtorEq] at hc); (try (exfalso; first | (first | omega | (simp only [List.length_cons] at hc; omega) | exact absurd e1 hc | exact absurd hc e1) | contradiction | omega | exact absurd rfl hc | exact absurd (by decide) hc))))))
      all_goals ((with_reducible refine At.reachk (⟨A, subp qa da 1 4, da - 1, y :: B, qb, db, tk ws 0 O x, p2, c2⟩) ?_ ?_ ?_ ?_); exact zsubs; exact zml; exact zente; exact ⟨⟨Sl.subl sl3 1 (by simp), sl4, g1, by dsimp only [List.length_cons]; omega, by dsimp only [List.length_cons]; omega, by dsimp only [List.length_cons]; omega⟩, by dsimp only [List.length_cons]; omega⟩)
    · rw [if_neg e2] at g1
      by_cases e3 : y.T < x.T
      · rw [if_pos e3] at g1
        have hl := tk_len ws 1 O y
        (repeat' (first | refine zss ?_ | ((first | (with_reducible first | apply At.val | apply AtQ.val)); (first | exact pr_eveq (by rfl) (by rfl) | exact pr_fieldAddr_at (k := 0 * 4) (by rfl) (by rfl)); exact rfl) | refine zsOM ?_ | ((with_reducible apply At.callf); exact rfl; kernel_rfl; exact rfl; exact rfl; exact take_ b5 b8 pw cw ws q d O y 1 hw (by omega) sl0; exact ztk; rintro v' m' B' hm' ⟨rfl, rfl, p2, c2, rfl⟩; (try replace sl0 := sl0.mono hm'); (try replace sl1 := sl1.mono hm'); (try replace sl2 := sl2.mono hm'); (try replace sl3 := sl3.mono hm'); (try replace sl4 := sl4.mono hm')) | ((with_reducible apply At.alloc (d := 10)); exact rfl; exact rfl; intro b10) | ((with_reducible apply At.alloc (d := 12)); exact rfl; exact rfl; intro b12) | (refine zsp ?_ ?_ <;> (intro hc; (try simp only [zhcs, reduceCtorEq] at hc); (try (exfalso; first | (first | omega | (simp only [List.length_cons] at hc; omega) | exact absurd e1 hc | exact absurd hc e1) | contradiction | omega | exact absurd rfl hc | exact absurd (by decide) hc))))))
        all_goals ((with_reducible refine At.reachk (⟨x :: A, qa, da, B, subp qb db 1 4, db - 1, tk ws 1 O y, p2, c2⟩) ?_ ?_ ?_ ?_); exact zsubs; exact zml; exact zente; exact ⟨⟨sl3, Sl.subl sl4 1 (by simp), g1, by dsimp only [List.length_cons]; omega, by dsimp only [List.length_cons]; omega, by dsimp only [List.length_cons]; omega⟩, by dsimp only [List.length_cons]; omega⟩)
      · rw [if_neg e3] at g1; cases g1
end Mrg
end Go.Proofs.YtkoijdmlehkhbaaGreatDoor

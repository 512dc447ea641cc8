/- Part 9 of what the law's proof needs: rules of the walk, contracts of functions, plain laws. No condition. -/
import Derived.Test.YtjdlnckifhifbaaGreatT8SZ8
/- The package tier: New, All, Get, Put, Fold. -/
set_option linter.unusedSimpArgs false
set_option linter.unusedVariables false
set_option linter.unusedSectionVars false
set_option maxRecDepth 20000
set_option maxHeartbeats 4000000
namespace Go.Proofs.YtjdlnckifhifbaaGreat
open Go Go.J
attribute [local irreducible] At AtQ AtM AtM1 PR Ct Pu Rd Res.blk Res.own Res.ex RVs RV
namespace Ti
open Slot Win
abbrev oS := So.oS
abbrev fnN : Value := .func (.func 105) #[] #[]
theorem clone {m : Mem} (p : Option Addr) (c : Nat) (l : List Slot) (hl : l.length ≤ 1000000) (sl0 : Sl m cells 15 p c l) :
    Ct Tryz.prog 104 #[.slice p l.length c] m [] (fun v m' B => m = m' ∧ ∃ p2 c2, v = .slice p2 l.length c2 ∧ B = [oS p2 c2 l]) := by
  cases p with
  | none =>
    have h0 : l = [] := List.eq_nil_of_length_eq_zero (by have := sl0.nil rfl; have := sl0.le; omega)
    subst h0
    refine Ct.enterV (by rfl) Tryz.func104 rfl Tryz.ntmps104 rfl (fun w0 Rest => ?_)
    (repeat' (first | refine zss ?_ | ((first | (with_reducible first | apply At.val | apply AtQ.val)); (exact pr_sleql (by rfl) (by rfl) (by rfl)); exact rfl) | refine zsM ?_ | (refine zsp ?_ ?_ <;> (intro hc; (try simp only [zhcs, reduceCtorEq] at hc); (try (exfalso; first | contradiction | omega | exact absurd rfl hc | exact absurd (by decide) hc))))))
    all_goals refine At.own_nil cells 15 42 ?_
    all_goals ((with_reducible apply At.retB1 (B := [oS _ _ _])); exact rfl; exact rfl; exact zml; exact zkp; exact ⟨rfl, _, _, rfl, rfl⟩)
  | some a =>
    refine Ct.enterV (by rfl) Tryz.func104 rfl Tryz.ntmps104 rfl (fun w0 Rest => ?_)
    (repeat' (first | refine zss ?_ | ((first | (with_reducible first | apply At.val | apply AtQ.val)); (exact pr_sleql (by rfl) (by rfl) (by rfl)); exact rfl) | refine zsM ?_ | ((with_reducible apply At.lit cells ([] : List Slot)); exact inferInstance; (iterate 7 exact rfl); intro _) | ((with_reducible apply At.apW (f := cells)); exact rfl; exact rfl; exact (by repeat constructor); exact inferInstance; exact zrdl; (iterate 4 exact rfl); exact zom; exact rfl; intro _ _) | (refine zsp ?_ ?_ <;> (intro hc; (try simp only [zhcs, reduceCtorEq] at hc); (try (exfalso; first | contradiction | omega | exact absurd rfl hc | exact absurd (by decide) hc))))))
    all_goals ((with_reducible apply At.retB1 (B := [oS _ _ _])); exact rfl; exact rfl; exact zml; exact zkp; exact ⟨rfl, _, _, rfl, rfl⟩)
theorem none1 {m : Mem} (s : Slot) (b : Bool) (h : (!keep s) = b) : Ct Tryz.prog 105 #[s.v] m [] (fun v m' B => v = .bool b ∧ m = m' ∧ B = []) := by
  have k := none_ s
  unfold keep at h
  rw [Bool.not_not] at h
  rw [h] at k
  exact Pu.ct k m
theorem indexF {m : Mem} (p : Option Addr) (c : Nat) (l : List Slot) (hl : l.length ≤ 1000000) :
    Ct Tryz.prog 121 #[.slice p l.length c, fnN] m [oS p c l] (fun v m' B => m = m' ∧ B = [oS p c l] ∧
      ((v = .int .i64 (-1) ∧ ∀ i, i < l.length → keep (l[i]!) = true) ∨ (∃ k : Nat, v = .int .i64 (k : Int) ∧ k < l.length ∧ keep (l[k]!) = false ∧ ∀ i, i < k → keep (l[i]!) = true))) := by
  refine Ct.enterV (by rfl) Tryz.func121 rfl Tryz.ntmps121 rfl (fun w0 Rest => ?_)
  (repeat' (first | refine zss ?_ | refine zsO ?_ | (refine zsp ?_ ?_ <;> (intro hc; (try simp only [zhcs, reduceCtorEq] at hc); (try (exfalso; first | contradiction | omega | exact absurd rfl hc | exact absurd (by decide) hc))))))
  (refine At.loopk (σ := Nat) [0, 1, 7] (fun s F0 => (8, .int .i64 (s : Int)) :: F0) (fun s => m) (fun s => oS p c l :: Rest) (fun s => s ≤ l.length ∧ ∀ i, i < s → keep (l[i]!) = true) (fun s => l.length - s) 0 (by rfl) ?_ zsubs zml zente ?_)
  · exact ⟨Nat.zero_le _, fun i h => absurd h (Nat.not_lt_zero i)⟩
  rintro s ⟨hs, hn⟩
  by_cases h : s < l.length
  · cases hk : keep (l[s]!)
    · (repeat' (first | refine zss ?_ | refine zsO ?_ | ((with_reducible apply At.callf); exact rfl; kernel_rfl; exact rfl; exact rfl; exact none1 (l[s]!) true (by rw [hk]; rfl); exact ztk; rintro v' m' B' hm' ⟨rfl, rfl, rfl⟩; skip) | (refine zsp ?_ ?_ <;> (intro hc; (try simp only [zhcs, reduceCtorEq] at hc); (try (exfalso; first | omega | contradiction | omega | exact absurd rfl hc | exact absurd (by decide) hc))))))
      all_goals ((with_reducible apply At.retB1 (B := [oS p c l])); exact rfl; exact rfl; exact zml; exact zkp; exact ⟨rfl, rfl, .inr ⟨s, rfl, h, hk, hn⟩⟩)
    · (repeat' (first | refine zss ?_ | refine zsO ?_ | ((with_reducible apply At.callf); exact rfl; kernel_rfl; exact rfl; exact rfl; exact none1 (l[s]!) false (by rw [hk]; rfl); exact ztk; rintro v' m' B' hm' ⟨rfl, rfl, rfl⟩; skip) | (refine zsp ?_ ?_ <;> (intro hc; (try simp only [zhcs, reduceCtorEq] at hc); (try (exfalso; first | omega | contradiction | omega | exact absurd rfl hc | exact absurd (by decide) hc))))))
      all_goals ((with_reducible refine At.reachk (s + 1) ?_ ?_ ?_ ?_); exact zsubs; exact zml; exact zente; exact ⟨⟨h, fun i hi => by rcases Nat.lt_succ_iff_lt_or_eq.1 hi with hi | rfl; exact hn i hi; exact hk⟩, by omega⟩)
  · (repeat' (first | refine zss ?_ | refine zsO ?_ | (refine zsp ?_ ?_ <;> (intro hc; (try simp only [zhcs, reduceCtorEq] at hc); (try (exfalso; first | omega | contradiction | omega | exact absurd rfl hc | exact absurd (by decide) hc))))))
    all_goals ((with_reducible apply At.retB1 (B := [oS p c l])); exact rfl; exact rfl; exact zml; exact zkp; exact ⟨rfl, rfl, .inl ⟨rfl, fun i hi => hn i (by omega)⟩⟩)
theorem deleteF {m : Mem} (p : Option Addr) (c : Nat) (l : List Slot) (hl : l.length ≤ 1000000) :
    Ct Tryz.prog 103 #[.slice p l.length c, fnN] m [oS p c l] (fun v m' B => m = m' ∧ ∃ p2 c2, v = .slice p2 (l.filter keep).length c2 ∧ B = [oS p2 c2 (l.filter keep)]) := by
  by_cases hall : ∀ i, i < l.length → keep (l[i]!) = true
  · rw [all_filt hall]
    have hi : Ct Tryz.prog 121 #[.slice p l.length c, fnN] m [oS p c l] (fun v m' B => m = m' ∧ B = [oS p c l] ∧ v = .int .i64 (-1)) :=
      (indexF p c l hl).mono fun v m' B _ ⟨h1, h2, h3⟩ => ⟨h1, h2, by
        rcases h3 with ⟨h4, _⟩ | ⟨k, _, hk, h5, _⟩
        · exact h4
        · rw [hall k hk] at h5; cases h5⟩
    refine Ct.enterV (by rfl) Tryz.func103 rfl Tryz.ntmps103 rfl (fun w0 Rest => ?_)
    (repeat' (first | refine zss ?_ | refine zsO ?_ | ((with_reducible first | apply At.c1 | apply At.c0); exact rfl; exact rfl; exact hi; exact ztk; kernel_rfl; rintro v' m' B' hm' ⟨rfl, rfl, rfl⟩; skip; (try (have hq0 : hm' = Mem.le_refl _ := rfl; clear hq0 hm'))) | ((with_reducible apply At.alloc (d := 7)); exact rfl; exact rfl; intro b7) | (refine zsp ?_ ?_ <;> (intro hc; (try simp only [zhcs, reduceCtorEq] at hc); (try (exfalso; first | omega | contradiction | omega | exact absurd rfl hc | exact absurd (by decide) hc))))))
    all_goals ((with_reducible apply At.retB1 (B := [oS _ _ l])); exact rfl; exact rfl; exact zml; exact zkp; exact ⟨rfl, _, _, rfl, rfl⟩)
  · have hi : Ct Tryz.prog 121 #[.slice p l.length c, fnN] m [oS p c l] (fun v m' B => m = m' ∧ B = [oS p c l] ∧ ∃ k : Nat, v = .int .i64 (k : Int) ∧ k < l.length ∧ keep (l[k]!) = false ∧ ∀ i, i < k → keep (l[i]!) = true) :=
      (indexF p c l hl).mono fun v m' B _ ⟨h1, h2, h3⟩ => ⟨h1, h2, by
        rcases h3 with ⟨_, h4⟩ | h4
        · exact absurd h4 hall
        · exact h4⟩
    refine Ct.enterV (by rfl) Tryz.func103 rfl Tryz.ntmps103 rfl (fun w0 Rest => ?_)
    (repeat' (first | refine zss ?_ | refine zsO ?_ | ((with_reducible first | apply At.c1 | apply At.c0); exact rfl; exact rfl; exact hi; exact ztk; kernel_rfl; rintro v' m' B' hm' ⟨rfl, rfl, k, rfl, hk1, hk2, hk3⟩; skip; (try (have hq0 : hm' = Mem.le_refl _ := rfl; clear hq0 hm'))) | ((with_reducible apply At.alloc (d := 7)); exact rfl; exact rfl; intro b7) | (refine zsp ?_ ?_ <;> (intro hc; (try simp only [zhcs, reduceCtorEq] at hc); (try (exfalso; first | omega | contradiction | omega | exact absurd rfl hc | exact absurd (by decide) hc))))))
    (refine At.loopk (σ := DS Slot) [0, 1] (fun s F0 => (5, .int .i64 (s.i : Int)) :: (6, .int .i64 (s.j : Int)) :: F0) (fun s => m) (fun s => oS p c s.L :: Rest) (fun s => dinv keep l s) (fun s => l.length - s.j) ⟨k, k + 1, l⟩ (by rfl) ?_ zsubs zml zente ?_)
    · refine ⟨Nat.lt_succ_self k, hk1, rfl, ?_, rfl⟩
      show l.take k = (l.take (k + 1)).filter _
      rw [filt_snoc _ l k hk1, if_neg (by rw [hk2]; decide), List.append_nil, all_filt]
      intro i hi
      rw [List.length_take] at hi
      have := hk3 i (by omega)
      rw [getElem!_pos (l.take k) i (by rw [List.length_take]; exact hi), List.getElem_take]
      rwa [getElem!_pos l i (by omega)] at this
    rintro s hd
    have hd' := hd
    obtain ⟨d1, d2, d3, d4, d5⟩ := hd'
    rw [← d3]
    by_cases h : s.j < l.length
    · have hg := hd.get h
      have h' : s.j < s.L.length := by omega
      cases hk : keep (l[s.j]!) with
      | true =>
        have hy := hd.yes h hk
        rw [← hg] at hk hy
        (repeat' (first | refine zss ?_ | refine zsO ?_ | ((with_reducible apply At.callf); exact rfl; kernel_rfl; exact rfl; exact rfl; exact none1 (s.L[s.j]!) false (by rw [hk]; rfl); exact ztk; rintro v' m' B' hm' ⟨rfl, rfl, rfl⟩; skip) | ((with_reducible apply At.storeW (f := cells) (x' := (s.L[s.j]!))); (case hx => exact rfl); (case hy => exact rfl); (case hv => exact rfl); (case hp => exact (by repeat constructor)); (case hr => exact rfl); (case hf => exact inferInstance); (case hk => exact zom); (case hs => exact rfl); (case hq => exact rfl); (case h1 => exact rfl)) | ((with_reducible apply At.alloc (d := 7)); exact rfl; exact rfl; intro b7) | (refine zsp ?_ ?_ <;> (intro hc; (try simp only [zhcs, reduceCtorEq] at hc); (try (exfalso; first | omega | contradiction | omega | exact absurd rfl hc | exact absurd (by decide) hc))))))
        all_goals ((with_reducible refine At.reachk ((⟨s.i + 1, s.j + 1, s.L.set s.i (s.L[s.j]!)⟩ : DS Slot)) ?_ ?_ ?_ ?_); exact zsubs; exact zml; exact zente; exact ⟨hy, Nat.sub_lt_sub_left h' (Nat.lt_succ_self s.j)⟩)
      | false =>
        have hy := hd.no h hk
        rw [← hg] at hk
        (repeat' (first | refine zss ?_ | refine zsO ?_ | ((with_reducible apply At.callf); exact rfl; kernel_rfl; exact rfl; exact rfl; exact none1 (s.L[s.j]!) true (by rw [hk]; rfl); exact ztk; rintro v' m' B' hm' ⟨rfl, rfl, rfl⟩; skip) | ((with_reducible apply At.alloc (d := 7)); exact rfl; exact rfl; intro b7) | (refine zsp ?_ ?_ <;> (intro hc; (try simp only [zhcs, reduceCtorEq] at hc); (try (exfalso; first | omega | contradiction | omega | exact absurd rfl hc | exact absurd (by decide) hc))))))
        all_goals ((with_reducible refine At.reachk ((⟨s.i, s.j + 1, s.L⟩ : DS Slot)) ?_ ?_ ?_ ?_); exact zsubs; exact zml; exact zente; exact ⟨hy, Nat.sub_lt_sub_left h' (Nat.lt_succ_self s.j)⟩)
    · have hj : l.take s.j = l := List.take_of_length_le (by omega)
      rw [hj] at d4
      have hlen : (s.L.take s.i).length = s.i := by rw [List.length_take]; omega
      have hcl : s.i ≤ s.L.length := by omega
      rw [← d4, hlen]
      (repeat' (first | refine zss ?_ | refine zsO ?_ | ((with_reducible apply At.alloc (d := 7)); exact rfl; exact rfl; intro b7) | (refine zsp ?_ ?_ <;> (intro hc; (try simp only [zhcs, reduceCtorEq] at hc); (try (exfalso; first | omega | contradiction | omega | exact absurd rfl hc | exact absurd (by decide) hc))))))
      refine At.clearW (f := cells) (l := s.L) s.i (by rfl) (by repeat constructor) rfl inferInstance (by rfl) (by rfl) (by rfl) hcl rfl rfl ?_
      (repeat' (first | refine zss ?_ | ((first | (with_reducible first | apply At.val | apply AtQ.val)); (exact pr_slice_own (by rfl) (by rfl) (by repeat constructor) hlen (by rfl) (by rfl)); exact rfl) | refine zsO ?_ | ((with_reducible apply At.alloc (d := 7)); exact rfl; exact rfl; intro b7) | (refine zsp ?_ ?_ <;> (intro hc; (try simp only [zhcs, reduceCtorEq] at hc); (try (exfalso; first | omega | contradiction | omega | exact absurd rfl hc | exact absurd (by decide) hc))))))
      all_goals ((with_reducible apply At.retB1 (B := [oS _ _ _])); exact rfl; exact rfl; exact zml; exact zkp; exact ⟨rfl, p, c, by rw [subp0]; rfl, rfl⟩)
theorem allO {m : Mem} (p : Option Addr) (c : Nat) (l : List Slot) (hl : l.length ≤ 1000000) (hD : Dis l) (sl0 : Sl m cells 15 p c l) :
    Ct Tryz.prog 75 #[.slice p l.length c] m [] (fun v m' B => m = m' ∧ ∃ p2 c2, v = .slice p2 (alls l).length c2 ∧ B = [oS p2 c2 (alls l)]) := by
  have k1 := clone p c l hl sl0
  have k2 := fun (m : Mem) p c => deleteF (m := m) p c l hl
  have hle : (l.filter keep).length ≤ l.length := List.length_filter_le _ _
  have k3 := fun (m : Mem) p c => So.sortF (m := m) p c (l.filter keep).length (l.filter keep) rfl (by omega)
  have hu := fun L (h : L.Perm (l.filter keep) ∧ So.Srt Slot.w 0 (l.filter keep).length L) => alls_uniq hD h.1 (by rw [h.1.length_eq]; exact h.2)
  have hn := (alls_perm l).length_eq
  rw [hn]
  generalize alls l = A at *
  generalize l.filter keep = l2 at *
  refine Ct.enterV (by rfl) Tryz.func75 rfl Tryz.ntmps75 rfl (fun w0 Rest => ?_)
  (repeat' (first | refine zss ?_ | refine zsO ?_ | ((with_reducible first | apply At.c1 | apply At.c0); exact rfl; exact rfl; exact k1; exact ztk; kernel_rfl; rintro v' m' B' hm' ⟨rfl, p2, c2, rfl, rfl⟩; (try replace sl0 := sl0.mono hm'); (try (have hq0 : hm' = Mem.le_refl _ := rfl; clear hq0 hm'))) | ((with_reducible first | apply At.c1 | apply At.c0); exact rfl; exact rfl; exact k2 _ p2 c2; exact ztk; kernel_rfl; rintro v' m' B' hm' ⟨rfl, p3, c3, rfl, rfl⟩; (try replace sl0 := sl0.mono hm'); (try (have hq0 : hm' = Mem.le_refl _ := rfl; clear hq0 hm'))) | ((with_reducible first | apply At.c1 | apply At.c0); exact rfl; exact rfl; exact k3 _ p3 c3; exact ztk; kernel_rfl; rintro v' m' B' hm' ⟨rfl, rfl, L, hL, rfl⟩; (try replace sl0 := sl0.mono hm'); (try (have hq0 : hm' = Mem.le_refl _ := rfl; clear hq0 hm'))) | (refine zsp ?_ ?_ <;> (intro hc; (try simp only [zhcs, reduceCtorEq] at hc); (try (exfalso; first | contradiction | omega | exact absurd rfl hc | exact absurd (by decide) hc))))))
  all_goals (have e := hu L hL; subst e)
  all_goals ((with_reducible apply At.retB1 (B := [oS _ _ _])); exact rfl; exact rfl; exact zml; exact zkp; exact ⟨rfl, _, _, rfl, rfl⟩)
theorem allS {m : Mem} (p : Option Addr) (c : Nat) (l : List Slot) (hl : l.length ≤ 1000000) (hD : Dis l) (sl0 : Sl m cells 15 p c l) :
    Ct Tryz.prog 75 #[.slice p l.length c] m [] (fun v m' B => B = [] ∧ ∃ p2 c2, v = .slice p2 (alls l).length c2 ∧ Sl m' cells 15 p2 c2 (alls l)) :=
  Ct.slice (R := fun v p c => v = .slice p (alls l).length c) inferInstance (Ct.mono (allO p c l hl hD sl0) fun v m' B _ ⟨_, p, c, h2, h3⟩ => ⟨p, c, h2, h3⟩)
theorem new_ {m : Mem} (n : Int) (hn : -9223372036854775808 ≤ n ∧ n ≤ 9223372036854775807) : Ct Tryz.prog 61 #[.int .i64 n] m [] (fun v m' B => m = m' ∧ ∃ p2 c2, v = .slice p2 (newL n).length c2 ∧ B = [oS p2 c2 (newL n)]) := by
  unfold newL
  by_cases h : n < 1 ∨ n > 4096
  · rw [if_pos h]
    refine Ct.enterV (by rfl) Tryz.func61 rfl Tryz.ntmps61 rfl (fun w0 Rest => ?_)
    (repeat' (first | refine zss ?_ | refine zs0 ?_ | (refine zsp ?_ ?_ <;> (intro hc; (try simp only [zhcs, reduceCtorEq] at hc); (try (exfalso; first | omega | contradiction | omega | exact absurd rfl hc | exact absurd (by decide) hc))))))
    all_goals refine At.own_nil cells 15 42 ?_
    all_goals ((with_reducible apply At.retB1 (B := [oS _ _ _])); exact rfl; exact rfl; exact zml; exact zkp; exact ⟨rfl, _, _, rfl, rfl⟩)
  · rw [if_neg h]
    obtain ⟨k, rfl⟩ : ∃ k : Nat, n = (k : Int) := ⟨n.toNat, by omega⟩
    rw [Int.toNat_natCast, List.length_replicate]
    have hk : k ≤ 4096 := by omega
    refine Ct.enterV (by rfl) Tryz.func61 rfl Tryz.ntmps61 rfl (fun w0 Rest => ?_)
    (repeat' (first | refine zss ?_ | refine zs0 ?_ | ((with_reducible apply At.makeN (f := cells) (Slot.z)); exact inferInstance; (iterate 5 exact rfl); exact zlq; exact rfl; exact zom; exact rfl; intro b9) | (refine zsp ?_ ?_ <;> (intro hc; (try simp only [zhcs, reduceCtorEq] at hc); (try (exfalso; first | omega | contradiction | omega | exact absurd rfl hc | exact absurd (by decide) hc))))))
    all_goals ((with_reducible apply At.retB1 (B := [oS _ _ _])); exact rfl; exact rfl; exact zml; exact zkp; exact ⟨rfl, _, _, rfl, rfl⟩)
theorem newS {m : Mem} (n : Int) (hn : -9223372036854775808 ≤ n ∧ n ≤ 9223372036854775807) : Ct Tryz.prog 61 #[.int .i64 n] m [] (fun v m' B => B = [] ∧ ∃ p2 c2, v = .slice p2 (newL n).length c2 ∧ Sl m' cells 15 p2 c2 (newL n)) :=
  Ct.slice (R := fun v p c => v = .slice p (newL n).length c) inferInstance (Ct.mono (new_ n hn) fun v m' B _ ⟨_, p, c, h2, h3⟩ => ⟨p, c, h2, h3⟩)
theorem get_ {m : Mem} (p : Option Addr) (c : Nat) (l : List Slot) (i : Int) (hi : -9223372036854775808 ≤ i ∧ i ≤ 9223372036854775807) (hl : l.length ≤ 1000000) (sl0 : Sl m cells 15 p c l) :
    Rd Tryz.prog 41 #[.slice p l.length c, .int .i64 i] m [] (getC l i).v := by
  unfold Rd getC
  by_cases h : i < 0 ∨ l.length = 0
  · rw [if_pos h]
    refine Ct.enterV (by rfl) Tryz.func41 rfl Tryz.ntmps41 rfl (fun w0 Rest => ?_)
    (repeat' (first | refine zss ?_ | refine zsM ?_ | ((with_reducible apply At.alloc (d := 4)); exact rfl; exact rfl; intro b4) | ((with_reducible apply At.alloc (d := 5)); exact rfl; exact rfl; intro b5) | (refine zsp ?_ ?_ <;> (intro hc; (try simp only [zhcs, reduceCtorEq] at hc); (try (exfalso; first | omega | contradiction | omega | exact absurd rfl hc | exact absurd (by decide) hc))))))
    all_goals ((with_reducible apply At.retV (B := [])); exact rfl; (repeat' (first | exact RVs.nil | (with_reducible apply RVs.cons) | exact rv_tmp (by rfl) | exact rv_cellN (by rfl) (by repeat constructor) (by rfl) (by rfl) (by rfl) | exact rv_cell1 (by rfl) (by repeat constructor) (by rfl) (by rfl))); exact zml; exact zkp; exact ⟨rfl, rfl, rfl⟩)
  rw [if_neg h]
  have k1 := win_slot i (l.length : Int) hi (by omega)
  obtain ⟨q, hq⟩ : ∃ q : Nat, slotV i (l.length : Int) = (q : Int) := ⟨(slotV i (l.length : Int)).toNat, by have := slotV_lt (i := i) (n := (l.length : Int)) (by omega); omega⟩
  have hql : q < l.length := by have := slotV_lt (i := i) (n := (l.length : Int)) (by omega); omega
  rw [hq] at k1 ⊢
  rw [Int.toNat_natCast]
  clear hq
  by_cases e : l[q]!.w = i
  · rw [if_pos e]
    refine Ct.enterV (by rfl) Tryz.func41 rfl Tryz.ntmps41 rfl (fun w0 Rest => ?_)
    (repeat' (first | refine zss ?_ | refine zsM ?_ | ((with_reducible first | apply AtM1.callp | apply AtQ.callp | apply At.callp); kernel_rfl; exact rfl; exact rfl; exact k1) | ((with_reducible apply At.alloc (d := 4)); exact rfl; exact rfl; intro b4) | ((with_reducible apply At.alloc (d := 5)); exact rfl; exact rfl; intro b5) | (refine zsp ?_ ?_ <;> (intro hc; (try simp only [zhcs, reduceCtorEq] at hc); (try (exfalso; first | (first | omega | exact absurd e hc) | contradiction | omega | exact absurd rfl hc | exact absurd (by decide) hc))))))
    all_goals ((with_reducible apply At.retV (B := [])); exact rfl; (repeat' (first | exact RVs.nil | (with_reducible apply RVs.cons) | exact rv_tmp (by rfl) | exact rv_cellN (by rfl) (by repeat constructor) (by rfl) (by rfl) (by rfl) | exact rv_cell1 (by rfl) (by repeat constructor) (by rfl) (by rfl))); exact zml; exact zkp; exact ⟨rfl, rfl, rfl⟩)
  · rw [if_neg e]
    refine Ct.enterV (by rfl) Tryz.func41 rfl Tryz.ntmps41 rfl (fun w0 Rest => ?_)
    (repeat' (first | refine zss ?_ | refine zsM ?_ | ((with_reducible first | apply AtM1.callp | apply AtQ.callp | apply At.callp); kernel_rfl; exact rfl; exact rfl; exact k1) | ((with_reducible apply At.alloc (d := 4)); exact rfl; exact rfl; intro b4) | ((with_reducible apply At.alloc (d := 5)); exact rfl; exact rfl; intro b5) | (refine zsp ?_ ?_ <;> (intro hc; (try simp only [zhcs, reduceCtorEq] at hc); (try (exfalso; first | (first | omega | exact absurd hc e) | contradiction | omega | exact absurd rfl hc | exact absurd (by decide) hc))))))
    all_goals ((with_reducible apply At.retV (B := [])); exact rfl; (repeat' (first | exact RVs.nil | (with_reducible apply RVs.cons) | exact rv_tmp (by rfl) | exact rv_cellN (by rfl) (by repeat constructor) (by rfl) (by rfl) (by rfl) | exact rv_cell1 (by rfl) (by repeat constructor) (by rfl) (by rfl))); exact zml; exact zkp; exact ⟨rfl, rfl, rfl⟩)
end Ti
end Go.Proofs.YtjdlnckifhifbaaGreat
/- The package tier: Put, Fold. -/
set_option linter.unusedSimpArgs false
set_option linter.unusedVariables false
set_option linter.unusedSectionVars false
set_option maxRecDepth 20000
set_option maxHeartbeats 4000000
namespace Go.Proofs.YtjdlnckifhifbaaGreat
open Go Go.J
attribute [local irreducible] At AtQ AtM AtM1 PR Ct Pu Rd Res.blk Res.own Res.ex RVs RV
namespace Ti
open Slot Win
theorem rd_le {P : Program} {f : FuncId} {a : Array Value} {m : Mem} {V : Value} (h : Ct P f a m [] (fun v m' B => v = V ∧ m.le m' ∧ B = [])) : Rd P f a m [] V := by
  unfold Rd
  exact Ct.forget h fun _ _ _ _ ⟨h1, _, h3⟩ => ⟨h1, rfl, h3⟩
theorem put0 {m : Mem} (p : Option Addr) (c : Nat) (l : List Slot) (w i : Int) (x : Cell) (hI : ∀ s ∈ l, Slot.In s) (hi : -9223372036854775808 ≤ i ∧ i ≤ 9223372036854775807) (hx : -9223372036854775808 ≤ x.n ∧ x.n ≤ 9223372036854775807) (hl : l.length ≤ 1000000) (sl0 : Sl m cells 15 p c l) :
    Ct Tryz.prog 111 #[.slice p l.length c, .int .i64 w, .int .i64 i, x.v] m [] (fun v m' B => m = m' ∧ ∃ p2 c2, v = .tuple #[.slice p2 (putO l w i x).length c2, .int .i64 (putE l w i x)] ∧ B = [oS p2 c2 (putO l w i x)]) := by
  have k1 := fun (m' : Mem) (h : m.le m') => check (m := m') p c l w hI (sl0.mono h)
  have k2 := fitsT x w i hx
  have k3 := fun (m' : Mem) (h : m.le m') => clone (m := m') p c l hl (sl0.mono h)
  have k4 := win_slot i (l.length : Int) hi (by omega)
  unfold putO putE chk at *
  by_cases h1 : okT l w
  rotate_left
  · rw [if_neg h1] at k1
    rw [if_neg (fun h => h1 h.1), if_neg (fun h => h1 h.1)]
    refine Ct.enterV (by rfl) Tryz.func111 rfl Tryz.ntmps111 rfl (fun w0 Rest => ?_)
    (repeat' (first | refine zss ?_ | refine zsM ?_ | ((with_reducible first | apply AtM1.cr | apply AtQ.cr | apply At.cr); exact rfl; exact rfl; exact fun _ hmm => k1 _ hmm; exact ztk; kernel_rfl) | ((with_reducible apply At.box (d := 7)); exact rfl; exact rfl; exact rfl; intro b7) | (refine zsp ?_ ?_ <;> (intro hc; (try simp only [zhcs, reduceCtorEq] at hc); (try (exfalso; first | omega | contradiction | omega | exact absurd rfl hc | exact absurd (by decide) hc))))))
    all_goals refine At.own_nil cells 15 42 ?_
    all_goals ((with_reducible apply At.retV (B := [oS _ _ _])); exact rfl; (repeat' (first | exact RVs.nil | (with_reducible apply RVs.cons) | exact rv_tmp (by rfl) | exact rv_cellN (by rfl) (by repeat constructor) (by rfl) (by rfl) (by rfl) | exact rv_cell1 (by rfl) (by repeat constructor) (by rfl) (by rfl))); exact zml; exact zkp; exact ⟨rfl, _, _, rfl, rfl⟩)
  rw [if_pos h1] at k1
  by_cases h2 : fits x w i
  rotate_left
  · rw [decide_eq_false h2] at k2
    rw [if_neg (fun h => h2 h.2), if_neg (fun h => h2 h.2)]
    refine Ct.enterV (by rfl) Tryz.func111 rfl Tryz.ntmps111 rfl (fun w0 Rest => ?_)
    (repeat' (first | refine zss ?_ | refine zsM ?_ | ((with_reducible first | apply AtM1.cr | apply AtQ.cr | apply At.cr); exact rfl; exact rfl; exact fun _ hmm => k1 _ hmm; exact ztk; kernel_rfl) | ((with_reducible first | apply AtM1.callp | apply AtQ.callp | apply At.callp); kernel_rfl; exact rfl; exact rfl; exact k2) | ((with_reducible apply At.box (d := 7)); exact rfl; exact rfl; exact rfl; intro b7) | (refine zsp ?_ ?_ <;> (intro hc; (try simp only [zhcs, reduceCtorEq] at hc); (try (exfalso; first | omega | contradiction | omega | exact absurd rfl hc | exact absurd (by decide) hc))))))
    all_goals refine At.own_nil cells 15 42 ?_
    all_goals ((with_reducible apply At.retV (B := [oS _ _ _])); exact rfl; (repeat' (first | exact RVs.nil | (with_reducible apply RVs.cons) | exact rv_tmp (by rfl) | exact rv_cellN (by rfl) (by repeat constructor) (by rfl) (by rfl) (by rfl) | exact rv_cell1 (by rfl) (by repeat constructor) (by rfl) (by rfl))); exact zml; exact zkp; exact ⟨rfl, _, _, rfl, rfl⟩)
  rw [decide_eq_true h2] at k2
  rw [if_pos ⟨h1, h2⟩, if_pos ⟨h1, h2⟩]
  have hn : 1 ≤ (l.length : Int) := by have := h1.1.1; omega
  obtain ⟨q, hq⟩ : ∃ q : Nat, slotV i (l.length : Int) = (q : Int) := ⟨(slotV i (l.length : Int)).toNat, by have := slotV_lt (i := i) hn; omega⟩
  have hql : q < l.length := by have := slotV_lt (i := i) hn; omega
  rw [hq] at k4 ⊢
  rw [Int.toNat_natCast, List.length_set]
  clear hq h1 h2 hI
  refine Ct.enterV (by rfl) Tryz.func111 rfl Tryz.ntmps111 rfl (fun w0 Rest => ?_)
  (repeat' (first | ((with_reducible apply At.mixed (id := 4) 10 (.q 0 (.q 1 (.q 2 (.q 3 (.q 4 (.q 5 (.q 6 (.q 7 (.q 8 (.x 9 .done))))))))))); exact rfl; kernel_rfl; kernel_rfl; kernel_rfl) | refine zsx ?_ | refine zss ?_ | ((with_reducible apply AtM.bo); exact rfl; exact rfl; exact rfl) | refine zsOM ?_ | refine zxOM ?_ | ((with_reducible first | apply AtM1.cr | apply AtQ.cr | apply At.cr); exact rfl; exact rfl; exact fun _ hmm => k1 _ hmm; exact ztk; kernel_rfl) | ((with_reducible first | apply AtM1.callp | apply AtQ.callp | apply At.callp); kernel_rfl; exact rfl; exact rfl; exact k2) | ((with_reducible first | apply At.c1 | apply At.c0); exact rfl; exact rfl; exact k3 _ zml; exact ztk; kernel_rfl; rintro v' m' B' hm' ⟨rfl, p2, c2, rfl, rfl⟩; (try replace sl0 := sl0.mono hm'); (try (have hq0 : hm' = Mem.le_refl _ := rfl; clear hq0 hm'))) | ((with_reducible first | apply AtM1.callp | apply AtQ.callp | apply At.callp); kernel_rfl; exact rfl; exact rfl; exact k4) | ((with_reducible apply At.storeW (f := cells) (x' := ⟨i, x⟩)); (case hx => exact rfl); (case hy => exact rfl); (case hv => exact rfl); (case hp => exact (by repeat constructor)); (case hr => exact rfl); (case hf => exact inferInstance); (case hk => exact zom); (case hs => exact rfl); (case hq => exact rfl); (case h1 => exact rfl)) | ((with_reducible apply At.box (d := 7)); exact rfl; exact rfl; exact rfl; intro b7) | (refine zsp ?_ ?_ <;> (intro hc; (try simp only [zhcs, reduceCtorEq] at hc); (try (exfalso; first | (first | omega | exact absurd rfl hc) | contradiction | omega | exact absurd rfl hc | exact absurd (by decide) hc))))))
  all_goals ((with_reducible apply At.retV (B := [oS _ _ _])); exact rfl; (repeat' (first | exact RVs.nil | (with_reducible apply RVs.cons) | exact rv_tmp (by rfl) | exact rv_cellN (by rfl) (by repeat constructor) (by rfl) (by rfl) (by rfl) | exact rv_cell1 (by rfl) (by repeat constructor) (by rfl) (by rfl))); exact zml; exact zkp; exact ⟨rfl, _, _, rfl, rfl⟩)
theorem put_ {m : Mem} (p : Option Addr) (c : Nat) (l : List Slot) (w i : Int) (x : Cell) (hI : ∀ s ∈ l, Slot.In s) (hi : -9223372036854775808 ≤ i ∧ i ≤ 9223372036854775807) (hx : -9223372036854775808 ≤ x.n ∧ x.n ≤ 9223372036854775807) (hl : l.length ≤ 1000000) (sl0 : Sl m cells 15 p c l) :
    Ct Tryz.prog 111 #[.slice p l.length c, .int .i64 w, .int .i64 i, x.v] m [] (fun v m' B => B = [] ∧ ∃ p2 c2, v = .tuple #[.slice p2 (putO l w i x).length c2, .int .i64 (putE l w i x)] ∧ Sl m' cells 15 p2 c2 (putO l w i x)) :=
  Ct.slice (R := fun v p2 c2 => v = .tuple #[.slice p2 (putO l w i x).length c2, .int .i64 (putE l w i x)]) inferInstance (Ct.mono (put0 p c l w i x hI hi hx hl sl0) fun v m' B _ ⟨_, p, c, h2, h3⟩ => ⟨p, c, h2, h3⟩)
theorem allFz {m : Mem} (p : Option Addr) (c : Nat) (l : List Cell) (hl : l.length ≤ 1000000) (hi : ∀ x ∈ l, Cell.In x) :
    Ct Tryz.prog 76 #[.slice p l.length c] m [.own Cell.cells 14 40 p c l] (fun v m' B => v = .tuple #[(Cell.allC Cell.z l).1.v, .int .i64 (Cell.allC Cell.z l).2] ∧ m.le m' ∧ B = []) :=
  Ct.freezeG inferInstance fun m' hm' sl => Ct.mono (Cell.all p c l hl hi sl) fun v m2 B _ ⟨h1, h2, h3⟩ => ⟨h1, h2 ▸ hm', h3⟩
structure FS where
  (j : Nat) (O : List Cell) (p : Option Addr) (c : Nat)
theorem fold_ {m : Mem} (p : Option Addr) (c : Nat) (l : List Slot) (i k : Int) (hI : ∀ s ∈ l, Slot.In s) (hD : Dis l) (hl : l.length ≤ 1000000) (sl0 : Sl m cells 15 p c l) :
    Rd Tryz.prog 50 #[.slice p l.length c, .int .i64 i, .int .i64 k] m [] (.tuple #[(foldC l i k).1.v, .int .i64 (foldC l i k).2]) := rd_le (by
  unfold foldC
  by_cases h : i < 0 ∨ k < i
  · rw [if_pos h]
    refine Ct.enterV (by rfl) Tryz.func50 rfl Tryz.ntmps50 rfl (fun w0 Rest => ?_)
    (repeat' (first | refine zss ?_ | refine zsM ?_ | ((with_reducible apply At.alloc (d := 6)); exact rfl; exact rfl; intro b6) | ((with_reducible apply At.alloc (d := 10)); exact rfl; exact rfl; intro b10) | (refine zsp ?_ ?_ <;> (intro hc; (try simp only [zhcs, reduceCtorEq] at hc); (try (exfalso; first | omega | contradiction | omega | exact absurd rfl hc | exact absurd (by decide) hc))))))
    all_goals ((with_reducible apply At.retV (B := [])); exact rfl; (repeat' (first | exact RVs.nil | (with_reducible apply RVs.cons) | exact rv_tmp (by rfl) | exact rv_cellN (by rfl) (by repeat constructor) (by rfl) (by rfl) (by rfl) | exact rv_cell1 (by rfl) (by repeat constructor) (by rfl) (by rfl))); exact zml; exact zkp; exact ⟨congrArg (fun v => Value.tuple #[v, .int .i64 1]) Cell.zv, zml, rfl⟩)
  rw [if_neg h]
  have k1 := allS (m := m) p c l hl hD sl0
  have hAI : ∀ s ∈ alls l, Slot.In s := fun s hs => hI s (alls_mem.1 hs).1
  have hAl := alls_len l
  generalize alls l = A at *
  refine Ct.enterV (by rfl) Tryz.func50 rfl Tryz.ntmps50 rfl (fun w0 Rest => ?_)
  (repeat' (first | refine zss ?_ | refine zsM ?_ | ((with_reducible first | apply At.c1 | apply At.c0); exact rfl; exact rfl; exact k1; exact ztk; kernel_rfl; rintro v' m' B' hm' ⟨rfl, p2, c2, rfl, sl1⟩; (try replace sl0 := sl0.mono hm'); (try replace sl1 := sl1.mono hm'); (try (have hq0 : hm' = Mem.le_refl _ := rfl; clear hq0 hm'))) | ((with_reducible apply At.alloc (d := 6)); exact rfl; exact rfl; intro b6) | ((with_reducible apply At.alloc (d := 10)); exact rfl; exact rfl; intro b10) | (refine zsp ?_ ?_ <;> (intro hc; (try simp only [zhcs, reduceCtorEq] at hc); (try (exfalso; first | omega | contradiction | omega | exact absurd rfl hc | exact absurd (by decide) hc))))))
  refine At.own_nil Cell.cells 14 40 ?_
  (refine At.loopk (σ := FS) [1, 2, 6, 20, 21] (fun s F0 => (22, .int .i64 (s.j : Int)) :: (8, .slice s.p s.O.length s.c) :: F0) (fun s => m') (fun s => .blk b6 40 (Cell.cells Cell.z) :: .own Cell.cells 14 40 s.p s.c s.O :: Rest) (fun s => s.j ≤ A.length ∧ s.O = ((A.take s.j).filter fun s => decide (i ≤ s.w ∧ s.w < k)).map Slot.c ∧ s.O.length ≤ s.j) (fun s => A.length - s.j) ⟨0, [], none, 0⟩ (by rfl) ?_ zsubs zml zente ?_)
  · exact ⟨Nat.zero_le _, rfl, Nat.le_refl _⟩
  rintro ⟨j, O, pp, cc⟩ ⟨hj, hO, hOl⟩
  dsimp only at hj hO hOl ⊢
  by_cases hjl : j < A.length
  · have hs := filt_snoc (fun s : Slot => decide (i ≤ s.w ∧ s.w < k)) A j hjl
    by_cases hf : i ≤ A[j]!.w ∧ A[j]!.w < k
    · rw [if_pos (decide_eq_true hf)] at hs
      have hs2 : O ++ [A[j]!.c] = ((A.take (j + 1)).filter fun s => decide (i ≤ s.w ∧ s.w < k)).map Slot.c := by rw [hs, List.map_append, ← hO]; rfl
      clear hs hO hI hD hAI k1
      (repeat' (first | refine zss ?_ | refine zsM ?_ | ((with_reducible apply At.lit Cell.cells [_]); exact inferInstance; (iterate 7 exact rfl); intro _) | ((with_reducible apply At.apW (f := Cell.cells)); exact rfl; exact rfl; exact (by repeat constructor); exact inferInstance; exact zrdl; (iterate 4 exact rfl); exact zom; exact rfl; intro p3 c3) | ((with_reducible apply At.alloc (d := 6)); exact rfl; exact rfl; intro b6) | ((with_reducible apply At.alloc (d := 10)); exact rfl; exact rfl; intro b10) | (refine zsp ?_ ?_ <;> (intro hc; (try simp only [zhcs, reduceCtorEq] at hc); (try (exfalso; first | omega | contradiction | omega | exact absurd rfl hc | exact absurd (by decide) hc))))))
      all_goals ((with_reducible refine At.reachk (⟨j + 1, O ++ [A[j]!.c], p3, c3⟩) ?_ ?_ ?_ ?_); exact zsubs; exact zml; exact zente; exact ⟨⟨hjl, hs2, by dsimp only; rw [List.length_append, List.length_singleton]; omega⟩, by dsimp only; omega⟩)
    · rw [if_neg (by rw [decide_eq_false hf]; decide), List.append_nil] at hs
      rw [← hs] at hO
      clear hs hI hD hAI k1
      (repeat' (first | refine zss ?_ | refine zsM ?_ | ((with_reducible apply At.alloc (d := 6)); exact rfl; exact rfl; intro b6) | ((with_reducible apply At.alloc (d := 10)); exact rfl; exact rfl; intro b10) | (refine zsp ?_ ?_ <;> (intro hc; (try simp only [zhcs, reduceCtorEq] at hc); (try (exfalso; first | omega | contradiction | omega | exact absurd rfl hc | exact absurd (by decide) hc))))))
      all_goals ((with_reducible refine At.reachk (⟨j + 1, O, pp, cc⟩) ?_ ?_ ?_ ?_); exact zsubs; exact zml; exact zente; exact ⟨⟨hjl, hO, by dsimp only; omega⟩, by dsimp only; omega⟩)
  · rw [List.take_of_length_le (by omega)] at hO
    have hOI : ∀ x ∈ O, Cell.In x := fun x hx => by
      rw [hO] at hx
      obtain ⟨s, hs, rfl⟩ := List.mem_map.1 hx
      have hs := hAI s (List.mem_filter.1 hs).1
      exact ⟨hs.2.1, hs.2.2.1, hs.2.2.2.1, hs.2.2.2.2⟩
    have k2 := fun (m : Mem) => allFz (m := m) pp cc O (by omega) hOI
    rw [← hO]
    clear hO hOI hI hD hAI k1
    (repeat' (first | refine zss ?_ | refine zsM ?_ | ((with_reducible first | apply At.c1 | apply At.c0); exact rfl; exact rfl; exact k2 _; exact ztk; kernel_rfl; rintro v' m' B' hm' ⟨rfl, -, rfl⟩; (try replace sl0 := sl0.mono hm'); (try replace sl1 := sl1.mono hm'); (try (have hq0 : hm' = Mem.le_refl _ := rfl; clear hq0 hm'))) | ((with_reducible apply At.alloc (d := 6)); exact rfl; exact rfl; intro b6) | ((with_reducible apply At.alloc (d := 10)); exact rfl; exact rfl; intro b10) | (refine zsp ?_ ?_ <;> (intro hc; (try simp only [zhcs, reduceCtorEq] at hc); (try (exfalso; first | omega | contradiction | omega | exact absurd rfl hc | exact absurd (by decide) hc))))))
    all_goals ((with_reducible apply At.retV (B := [])); exact rfl; (repeat' (first | exact RVs.nil | (with_reducible apply RVs.cons) | exact rv_tmp (by rfl) | exact rv_cellN (by rfl) (by repeat constructor) (by rfl) (by rfl) (by rfl) | exact rv_cell1 (by rfl) (by repeat constructor) (by rfl) (by rfl))); exact zml; exact zkp; exact ⟨rfl, zml, rfl⟩))
end Ti
end Go.Proofs.YtjdlnckifhifbaaGreat
/- The package fold: begins, put, made, up. -/
set_option linter.unusedSimpArgs false
set_option linter.unusedVariables false
set_option linter.unusedSectionVars false
set_option maxRecDepth 20000
set_option maxHeartbeats 4000000
namespace Go.Proofs.YtjdlnckifhifbaaGreat
open Go Go.J
attribute [local irreducible] At AtQ AtM AtM1 PR Ct Pu Rd Res.blk Res.own Res.ex RVs RV
namespace Fo
open Slot Win Ti
abbrev pt (b : Nat) : Value := .pointer (some ⟨b, 0, none⟩)
abbrev kt (q : Nat) (K : Cfg) (t : TT) : List Res := [.blk q 155 (K.cells ++ t.cells)]
def bgn (w i : Int) : Bool := decide (0 ≤ i ∧ i ≤ 35184372088831 / w)
theorem begins0 {m : Mem} (q : Nat) (K : Cfg) (t : TT) (i : Int) (hK : 1 ≤ K.a ∧ K.a ≤ 1099511627776) : Rd Tryz.prog 85 #[pt q, .int .i64 0, .int .i64 i] m (kt q K t) (.bool (bgn K.a i)) := by
  unfold Rd bgn
  have hd : (35184372088831 : Int).tdiv K.a = 35184372088831 / K.a := Int.tdiv_eq_ediv_of_nonneg (by decide)
  have hw : IntKind.wrap .i64 ((35184372088831 : Int).tdiv K.a) = 35184372088831 / K.a := by
    rw [hd]
    have h1 := Int.ediv_le_self K.a (show (0 : Int) ≤ 35184372088831 by decide)
    have h2 := Int.ediv_nonneg (show (0 : Int) ≤ 35184372088831 by decide) (show 0 ≤ K.a by omega)
    exact IntWalk.i64_in _ (by omega)
  generalize (35184372088831 : Int) / K.a = e at hw ⊢
  refine Ct.enterV (by rfl) Tryz.func85 rfl Tryz.ntmps85 rfl (fun w0 Rest => ?_)
  (repeat' (first | refine zss ?_ | ((first | (with_reducible first | apply At.val | apply AtQ.val)); (first | exact pr_indexArr (k := 0) (by rfl) (by rfl) (by rfl) (by rfl) (by decide) | exact pr_quo (by rfl) (by rfl) (by omega) hw); exact rfl) | refine zs0 ?_ | (refine zsp ?_ ?_ <;> (intro hc; (try simp only [zhcs, reduceCtorEq] at hc); (try (exfalso; first | omega | contradiction | omega | exact absurd rfl hc | exact absurd (by decide) hc))))))
  all_goals ((with_reducible apply At.retB1 (B := kt q K t)); exact rfl; exact rfl; exact zml; exact zkp; exact ⟨by first | rfl | (exact congrArg Value.bool (decide_eq_decide.2 (by omega))) | (simp [hc]; done), rfl, rfl⟩)
/-- what put leaves -/
def PutP (q : Nat) (K : Cfg) (t : TT) (k : Nat) (i : Int) (x : Cell) : Value → Mem → List Res → Prop := fun v m' B =>
  v = .int .i64 (putE (t.get k).l (Kw K k) i x) ∧ ∃ n : Lst Slot, n.l = putO (t.get k).l (Kw K k) i x ∧ Sl m' cells 15 n.p n.c n.l ∧ B = kt q K (if putE (t.get k).l (Kw K k) i x = 0 then t.set n k else t)
theorem putE_cases (l : List Slot) (w i : Int) (x : Cell) : putE l w i x = 0 ∨ putE l w i x = 2 := by
  unfold putE
  split
  · exact .inl rfl
  · exact .inr rfl
theorem put0 {m : Mem} (q : Nat) (K : Cfg) (t : TT) (i : Int) (x : Cell) (ho : t.Ok m) (hi : -9223372036854775808 ≤ i ∧ i ≤ 9223372036854775807) (hx : -9223372036854775808 ≤ x.n ∧ x.n ≤ 9223372036854775807) :
    Ct Tryz.prog 86 #[pt q, .int .i64 0, .int .i64 i, x.v] m (kt q K t) (PutP q K t 0 i x) := by
  obtain ⟨⟨p1, c1, l1⟩, ⟨p2, c2, l2⟩, ⟨p3, c3, l3⟩⟩ := t
  have k1 := fun (m' : Mem) (h : m.le m') => put_ (m := m') p1 c1 l1 K.a i x ho.a.i hi hx ho.a.n (ho.a.sl.mono h)
  unfold PutP
  show Ct _ _ _ _ _ (fun v m' B => v = .int .i64 (putE l1 K.a i x) ∧ ∃ n : Lst Slot, n.l = putO l1 K.a i x ∧ Sl m' cells 15 n.p n.c n.l ∧ B = kt q K (if putE l1 K.a i x = 0 then _ else _))
  generalize putO l1 K.a i x = o at *
  rcases putE_cases l1 K.a i x with e | e
  · rw [e] at k1 ⊢
    clear e ho
    refine Ct.enterV (by rfl) Tryz.func86 rfl Tryz.ntmps86 rfl (fun w0 Rest => ?_)
    (repeat' (first | ((with_reducible apply At.mixed (id := 1) 21 (.q 0 (.q 1 (.q 2 (.q 3 (.q 4 (.q 5 (.q 6 (.q 7 (.q 8 (.q 9 (.q 10 (.q 11 (.q 12 (.q 13 (.q 14 (.x 15 (.q 16 (.q 17 (.q 18 (.q 19 (.q 20 .done)))))))))))))))))))))); exact rfl; kernel_rfl; kernel_rfl; kernel_rfl) | refine zsx ?_ | refine zss ?_ | ((with_reducible apply AtM.bo); exact rfl; exact rfl; exact rfl) | ((first | (with_reducible first | apply At.val | apply AtQ.val) | ((with_reducible first | apply AtM1.valz | apply AtM1.val); exact rfl) | ((with_reducible apply AtM1.val); exact rfl)); (exact pr_indexArr (k := 0) (by rfl) (by rfl) (by rfl) (by rfl) (by decide)); exact rfl) | refine zs0 ?_ | refine zx0 ?_ | ((with_reducible first | apply At.c1 | apply At.c0); exact rfl; exact rfl; exact k1 _ zml; exact ztk; kernel_rfl; rintro v' m' B' hm' ⟨rfl, p9, c9, rfl, sl9⟩; (try replace sl9 := sl9.mono hm'); (try (have hq0 : hm' = Mem.le_refl _ := rfl; clear hq0 hm'))) | ((with_reducible apply At.box (d := 7)); exact rfl; exact rfl; exact rfl; intro b7) | (refine zsp ?_ ?_ <;> (intro hc; (try simp only [zhcs, reduceCtorEq] at hc); (try (exfalso; first | contradiction | omega | exact absurd rfl hc | exact absurd (by decide) hc))))))
    all_goals ((with_reducible apply At.retB1 (B := kt q K ⟨⟨p9, c9, o⟩, ⟨p2, c2, l2⟩, ⟨p3, c3, l3⟩⟩)); exact rfl; exact rfl; exact zml; exact zkp; exact ⟨rfl, ⟨p9, c9, o⟩, rfl, sl9, rfl⟩)
  · rw [e] at k1 ⊢
    clear e ho
    refine Ct.enterV (by rfl) Tryz.func86 rfl Tryz.ntmps86 rfl (fun w0 Rest => ?_)
    (repeat' (first | ((with_reducible apply At.mixed (id := 1) 21 (.q 0 (.q 1 (.q 2 (.q 3 (.q 4 (.q 5 (.q 6 (.q 7 (.q 8 (.q 9 (.q 10 (.q 11 (.q 12 (.q 13 (.q 14 (.x 15 (.q 16 (.q 17 (.q 18 (.q 19 (.q 20 .done)))))))))))))))))))))); exact rfl; kernel_rfl; kernel_rfl; kernel_rfl) | refine zsx ?_ | refine zss ?_ | ((with_reducible apply AtM.bo); exact rfl; exact rfl; exact rfl) | ((first | (with_reducible first | apply At.val | apply AtQ.val) | ((with_reducible first | apply AtM1.valz | apply AtM1.val); exact rfl) | ((with_reducible apply AtM1.val); exact rfl)); (exact pr_indexArr (k := 0) (by rfl) (by rfl) (by rfl) (by rfl) (by decide)); exact rfl) | refine zs0 ?_ | refine zx0 ?_ | ((with_reducible first | apply At.c1 | apply At.c0); exact rfl; exact rfl; exact k1 _ zml; exact ztk; kernel_rfl; rintro v' m' B' hm' ⟨rfl, p9, c9, rfl, sl9⟩; (try replace sl9 := sl9.mono hm'); (try (have hq0 : hm' = Mem.le_refl _ := rfl; clear hq0 hm'))) | ((with_reducible apply At.box (d := 7)); exact rfl; exact rfl; exact rfl; intro b7) | (refine zsp ?_ ?_ <;> (intro hc; (try simp only [zhcs, reduceCtorEq] at hc); (try (exfalso; first | contradiction | omega | exact absurd rfl hc | exact absurd (by decide) hc))))))
    all_goals ((with_reducible apply At.retB1 (B := kt q K ⟨⟨p1, c1, l1⟩, ⟨p2, c2, l2⟩, ⟨p3, c3, l3⟩⟩)); exact rfl; exact rfl; exact zml; exact zkp; exact ⟨rfl, ⟨p9, c9, o⟩, rfl, sl9, rfl⟩)
theorem put1 {m : Mem} (q : Nat) (K : Cfg) (t : TT) (i : Int) (x : Cell) (ho : t.Ok m) (hi : -9223372036854775808 ≤ i ∧ i ≤ 9223372036854775807) (hx : -9223372036854775808 ≤ x.n ∧ x.n ≤ 9223372036854775807) :
    Ct Tryz.prog 86 #[pt q, (.int .i64 1), .int .i64 i, x.v] m (kt q K t) (PutP q K t 1 i x) := by
  obtain ⟨⟨p1, c1, l1⟩, ⟨p2, c2, l2⟩, ⟨p3, c3, l3⟩⟩ := t
  have k1 := fun (m' : Mem) (h : m.le m') => put_ (m := m') p2 c2 l2 K.b i x ho.b.i hi hx ho.b.n (ho.b.sl.mono h)
  unfold PutP
  show Ct _ _ _ _ _ (fun v m' B => v = .int .i64 (putE l2 K.b i x) ∧ ∃ n : Lst Slot, n.l = putO l2 K.b i x ∧ Sl m' cells 15 n.p n.c n.l ∧ B = kt q K (if putE l2 K.b i x = 0 then _ else _))
  generalize putO l2 K.b i x = o at *
  rcases putE_cases l2 K.b i x with e | e
  · rw [e] at k1 ⊢
    clear e ho
    refine Ct.enterV (by rfl) Tryz.func86 rfl Tryz.ntmps86 rfl (fun w0 Rest => ?_)
    (repeat' (first | ((with_reducible apply At.mixed (id := 1) 21 (.q 0 (.q 1 (.q 2 (.q 3 (.q 4 (.q 5 (.q 6 (.q 7 (.q 8 (.q 9 (.q 10 (.q 11 (.q 12 (.q 13 (.q 14 (.x 15 (.q 16 (.q 17 (.q 18 (.q 19 (.q 20 .done)))))))))))))))))))))); exact rfl; kernel_rfl; kernel_rfl; kernel_rfl) | refine zsx ?_ | refine zss ?_ | ((with_reducible apply AtM.bo); exact rfl; exact rfl; exact rfl) | ((first | (with_reducible first | apply At.val | apply AtQ.val) | ((with_reducible first | apply AtM1.valz | apply AtM1.val); exact rfl) | ((with_reducible apply AtM1.val); exact rfl)); (exact pr_indexArr (k := 1) (by rfl) (by rfl) (by rfl) (by rfl) (by decide)); exact rfl) | refine zs0 ?_ | refine zx0 ?_ | ((with_reducible first | apply At.c1 | apply At.c0); exact rfl; exact rfl; exact k1 _ zml; exact ztk; kernel_rfl; rintro v' m' B' hm' ⟨rfl, p9, c9, rfl, sl9⟩; (try replace sl9 := sl9.mono hm'); (try (have hq0 : hm' = Mem.le_refl _ := rfl; clear hq0 hm'))) | ((with_reducible apply At.box (d := 7)); exact rfl; exact rfl; exact rfl; intro b7) | (refine zsp ?_ ?_ <;> (intro hc; (try simp only [zhcs, reduceCtorEq] at hc); (try (exfalso; first | contradiction | omega | exact absurd rfl hc | exact absurd (by decide) hc))))))
    all_goals ((with_reducible apply At.retB1 (B := kt q K ⟨⟨p1, c1, l1⟩, ⟨p9, c9, o⟩, ⟨p3, c3, l3⟩⟩)); exact rfl; exact rfl; exact zml; exact zkp; exact ⟨rfl, ⟨p9, c9, o⟩, rfl, sl9, rfl⟩)
  · rw [e] at k1 ⊢
    clear e ho
    refine Ct.enterV (by rfl) Tryz.func86 rfl Tryz.ntmps86 rfl (fun w0 Rest => ?_)
    (repeat' (first | ((with_reducible apply At.mixed (id := 1) 21 (.q 0 (.q 1 (.q 2 (.q 3 (.q 4 (.q 5 (.q 6 (.q 7 (.q 8 (.q 9 (.q 10 (.q 11 (.q 12 (.q 13 (.q 14 (.x 15 (.q 16 (.q 17 (.q 18 (.q 19 (.q 20 .done)))))))))))))))))))))); exact rfl; kernel_rfl; kernel_rfl; kernel_rfl) | refine zsx ?_ | refine zss ?_ | ((with_reducible apply AtM.bo); exact rfl; exact rfl; exact rfl) | ((first | (with_reducible first | apply At.val | apply AtQ.val) | ((with_reducible first | apply AtM1.valz | apply AtM1.val); exact rfl) | ((with_reducible apply AtM1.val); exact rfl)); (exact pr_indexArr (k := 1) (by rfl) (by rfl) (by rfl) (by rfl) (by decide)); exact rfl) | refine zs0 ?_ | refine zx0 ?_ | ((with_reducible first | apply At.c1 | apply At.c0); exact rfl; exact rfl; exact k1 _ zml; exact ztk; kernel_rfl; rintro v' m' B' hm' ⟨rfl, p9, c9, rfl, sl9⟩; (try replace sl9 := sl9.mono hm'); (try (have hq0 : hm' = Mem.le_refl _ := rfl; clear hq0 hm'))) | ((with_reducible apply At.box (d := 7)); exact rfl; exact rfl; exact rfl; intro b7) | (refine zsp ?_ ?_ <;> (intro hc; (try simp only [zhcs, reduceCtorEq] at hc); (try (exfalso; first | contradiction | omega | exact absurd rfl hc | exact absurd (by decide) hc))))))
    all_goals ((with_reducible apply At.retB1 (B := kt q K ⟨⟨p1, c1, l1⟩, ⟨p2, c2, l2⟩, ⟨p3, c3, l3⟩⟩)); exact rfl; exact rfl; exact zml; exact zkp; exact ⟨rfl, ⟨p9, c9, o⟩, rfl, sl9, rfl⟩)
theorem put2 {m : Mem} (q : Nat) (K : Cfg) (t : TT) (i : Int) (x : Cell) (ho : t.Ok m) (hi : -9223372036854775808 ≤ i ∧ i ≤ 9223372036854775807) (hx : -9223372036854775808 ≤ x.n ∧ x.n ≤ 9223372036854775807) :
    Ct Tryz.prog 86 #[pt q, (.int .i64 2), .int .i64 i, x.v] m (kt q K t) (PutP q K t 2 i x) := by
  obtain ⟨⟨p1, c1, l1⟩, ⟨p2, c2, l2⟩, ⟨p3, c3, l3⟩⟩ := t
  have k1 := fun (m' : Mem) (h : m.le m') => put_ (m := m') p3 c3 l3 K.d i x ho.c.i hi hx ho.c.n (ho.c.sl.mono h)
  unfold PutP
  show Ct _ _ _ _ _ (fun v m' B => v = .int .i64 (putE l3 K.d i x) ∧ ∃ n : Lst Slot, n.l = putO l3 K.d i x ∧ Sl m' cells 15 n.p n.c n.l ∧ B = kt q K (if putE l3 K.d i x = 0 then _ else _))
  generalize putO l3 K.d i x = o at *
  rcases putE_cases l3 K.d i x with e | e
  · rw [e] at k1 ⊢
    clear e ho
    refine Ct.enterV (by rfl) Tryz.func86 rfl Tryz.ntmps86 rfl (fun w0 Rest => ?_)
    (repeat' (first | ((with_reducible apply At.mixed (id := 1) 21 (.q 0 (.q 1 (.q 2 (.q 3 (.q 4 (.q 5 (.q 6 (.q 7 (.q 8 (.q 9 (.q 10 (.q 11 (.q 12 (.q 13 (.q 14 (.x 15 (.q 16 (.q 17 (.q 18 (.q 19 (.q 20 .done)))))))))))))))))))))); exact rfl; kernel_rfl; kernel_rfl; kernel_rfl) | refine zsx ?_ | refine zss ?_ | ((with_reducible apply AtM.bo); exact rfl; exact rfl; exact rfl) | ((first | (with_reducible first | apply At.val | apply AtQ.val) | ((with_reducible first | apply AtM1.valz | apply AtM1.val); exact rfl) | ((with_reducible apply AtM1.val); exact rfl)); (exact pr_indexArr (k := 2) (by rfl) (by rfl) (by rfl) (by rfl) (by decide)); exact rfl) | refine zs0 ?_ | refine zx0 ?_ | ((with_reducible first | apply At.c1 | apply At.c0); exact rfl; exact rfl; exact k1 _ zml; exact ztk; kernel_rfl; rintro v' m' B' hm' ⟨rfl, p9, c9, rfl, sl9⟩; (try replace sl9 := sl9.mono hm'); (try (have hq0 : hm' = Mem.le_refl _ := rfl; clear hq0 hm'))) | ((with_reducible apply At.box (d := 7)); exact rfl; exact rfl; exact rfl; intro b7) | (refine zsp ?_ ?_ <;> (intro hc; (try simp only [zhcs, reduceCtorEq] at hc); (try (exfalso; first | contradiction | omega | exact absurd rfl hc | exact absurd (by decide) hc))))))
    all_goals ((with_reducible apply At.retB1 (B := kt q K ⟨⟨p1, c1, l1⟩, ⟨p2, c2, l2⟩, ⟨p9, c9, o⟩⟩)); exact rfl; exact rfl; exact zml; exact zkp; exact ⟨rfl, ⟨p9, c9, o⟩, rfl, sl9, rfl⟩)
  · rw [e] at k1 ⊢
    clear e ho
    refine Ct.enterV (by rfl) Tryz.func86 rfl Tryz.ntmps86 rfl (fun w0 Rest => ?_)
    (repeat' (first | ((with_reducible apply At.mixed (id := 1) 21 (.q 0 (.q 1 (.q 2 (.q 3 (.q 4 (.q 5 (.q 6 (.q 7 (.q 8 (.q 9 (.q 10 (.q 11 (.q 12 (.q 13 (.q 14 (.x 15 (.q 16 (.q 17 (.q 18 (.q 19 (.q 20 .done)))))))))))))))))))))); exact rfl; kernel_rfl; kernel_rfl; kernel_rfl) | refine zsx ?_ | refine zss ?_ | ((with_reducible apply AtM.bo); exact rfl; exact rfl; exact rfl) | ((first | (with_reducible first | apply At.val | apply AtQ.val) | ((with_reducible first | apply AtM1.valz | apply AtM1.val); exact rfl) | ((with_reducible apply AtM1.val); exact rfl)); (exact pr_indexArr (k := 2) (by rfl) (by rfl) (by rfl) (by rfl) (by decide)); exact rfl) | refine zs0 ?_ | refine zx0 ?_ | ((with_reducible first | apply At.c1 | apply At.c0); exact rfl; exact rfl; exact k1 _ zml; exact ztk; kernel_rfl; rintro v' m' B' hm' ⟨rfl, p9, c9, rfl, sl9⟩; (try replace sl9 := sl9.mono hm'); (try (have hq0 : hm' = Mem.le_refl _ := rfl; clear hq0 hm'))) | ((with_reducible apply At.box (d := 7)); exact rfl; exact rfl; exact rfl; intro b7) | (refine zsp ?_ ?_ <;> (intro hc; (try simp only [zhcs, reduceCtorEq] at hc); (try (exfalso; first | contradiction | omega | exact absurd rfl hc | exact absurd (by decide) hc))))))
    all_goals ((with_reducible apply At.retB1 (B := kt q K ⟨⟨p1, c1, l1⟩, ⟨p2, c2, l2⟩, ⟨p3, c3, l3⟩⟩)); exact rfl; exact rfl; exact zml; exact zkp; exact ⟨rfl, ⟨p9, c9, o⟩, rfl, sl9, rfl⟩)
theorem mul_le_f {i f w : Int} (hi : 0 ≤ i) (h0 : 0 ≤ f) (hf : f ≤ w) (hb : i * w ≤ 35184372088832) (hw : w ≤ 1099511627776) : (0 ≤ i * f ∧ i * f ≤ 35184372088832) ∧ (0 ≤ (i + 1) * f ∧ (i + 1) * f ≤ 36283883716608) := by
  have h1 : i * f ≤ i * w := Int.mul_le_mul_of_nonneg_left hf hi
  have h2 : 0 ≤ i * f := Int.mul_nonneg hi h0
  rw [Int.add_mul, Int.one_mul]
  omega
theorem made1 {m : Mem} (q : Nat) (K : Cfg) (t : TT) (i : Int) (ho : t.Ok m) (hK : K.ok) (hD : Dis t.a.l) (hi : 0 ≤ i ∧ i ≤ 35184372088832) (hb : i * K.b ≤ 35184372088832) :
    Rd Tryz.prog 112 #[pt q, .int .i64 1, .int .i64 i] m (kt q K t) (.tuple #[(madeC K t 1 i).1.v, .int .i64 (madeC K t 1 i).2]) := by
  unfold Rd
  have hu : 1 ≤ K.a ∧ K.a ≤ 1099511627776 := Kw_bd hK 0
  have hw : 1 ≤ K.b ∧ K.b ≤ 1099511627776 := Kw_bd hK 1
  show Ct _ _ _ _ _ (fun v m' B => v = .tuple #[(foldC t.a.l (i * (K.b / K.a)) ((i + 1) * (K.b / K.a))).1.v, .int .i64 (foldC t.a.l (i * (K.b / K.a)) ((i + 1) * (K.b / K.a))).2] ∧ _)
  have hq : (K.b).tdiv K.a = K.b / K.a := Int.tdiv_eq_ediv_of_nonneg (by omega)
  have f0 : 0 ≤ K.b / K.a := Int.ediv_nonneg (by omega) (by omega)
  have f1 : K.b / K.a ≤ K.b := Int.ediv_le_self _ (by omega)
  obtain ⟨⟨b1, b2⟩, b3, b4⟩ := mul_le_f hi.1 f0 f1 hb hw.2
  have w1 : IntKind.wrap .i64 ((K.b).tdiv K.a) = K.b / K.a := by rw [hq]; exact IntWalk.i64_in _ (by omega)
  generalize K.b / K.a = f at *
  have w2 : IntKind.wrap .i64 (i * f) = i * f := IntWalk.i64_in _ (by omega)
  have w3 : IntKind.wrap .i64 (i + 1) = i + 1 := IntWalk.i64_in _ (by omega)
  have w4 : IntKind.wrap .i64 ((i + 1) * f) = (i + 1) * f := IntWalk.i64_in _ (by omega)
  have w5 : IntKind.wrap .i64 ((1 : Int) - 1) = 0 := by decide
  have k1 := fun (m' : Mem) (h : m.le m') => fold_ (m := m') t.a.p t.a.c t.a.l (i * f) ((i + 1) * f) ho.a.i hD ho.a.n (ho.a.sl.mono h)
  generalize foldC t.a.l (i * f) ((i + 1) * f) = r at *
  clear ho hD b1 b2 b3 b4 hq f0 f1 hb
  obtain ⟨⟨p1, c1, l1⟩, ⟨p2, c2, l2⟩, ⟨p3, c3, l3⟩⟩ := t
  refine Ct.enterV (by rfl) Tryz.func112 rfl Tryz.ntmps112 rfl (fun w0 Rest => ?_)
  (repeat' (first | refine zss ?_ | ((first | (with_reducible first | apply At.val | apply AtQ.val)); (first | exact pr_sub (by rfl) (by rfl) w5 | exact pr_indexArr (k := 1) (by rfl) (by rfl) (by rfl) (by rfl) (by decide) | exact pr_indexArr (k := 0) (by rfl) (by rfl) (by rfl) (by rfl) (by decide) | exact pr_quo (by rfl) (by rfl) (by omega) w1 | exact pr_mul (by rfl) (by rfl) w2 | exact pr_add (by rfl) (by rfl) w3 | exact pr_mul (by rfl) (by rfl) w4); exact rfl) | refine zs0 ?_ | ((with_reducible first | apply AtM1.cr | apply AtQ.cr | apply At.cr); exact rfl; exact rfl; exact fun _ hmm => k1 _ hmm; exact ztk; kernel_rfl) | ((with_reducible apply At.alloc (d := 6)); exact rfl; exact rfl; intro b6) | (refine zsp ?_ ?_ <;> (intro hc; (try simp only [zhcs, reduceCtorEq] at hc); (try (exfalso; first | omega | contradiction | omega | exact absurd rfl hc | exact absurd (by decide) hc))))))
  all_goals ((with_reducible apply At.retV (B := kt q K ⟨⟨p1, c1, l1⟩, ⟨p2, c2, l2⟩, ⟨p3, c3, l3⟩⟩)); exact rfl; (repeat' (first | exact RVs.nil | (with_reducible apply RVs.cons) | exact rv_tmp (by rfl) | exact rv_cellN (by rfl) (by repeat constructor) (by rfl) (by rfl) (by rfl) | exact rv_cell1 (by rfl) (by repeat constructor) (by rfl) (by rfl))); exact zml; exact zkp; exact ⟨rfl, rfl, rfl⟩)
theorem made2 {m : Mem} (q : Nat) (K : Cfg) (t : TT) (i : Int) (ho : t.Ok m) (hK : K.ok) (hD : Dis t.b.l) (hi : 0 ≤ i ∧ i ≤ 35184372088832) (hb : i * K.d ≤ 35184372088832) :
    Rd Tryz.prog 112 #[pt q, .int .i64 2, .int .i64 i] m (kt q K t) (.tuple #[(madeC K t 2 i).1.v, .int .i64 (madeC K t 2 i).2]) := by
  unfold Rd
  have hu : 1 ≤ K.b ∧ K.b ≤ 1099511627776 := Kw_bd hK 1
  have hw : 1 ≤ K.d ∧ K.d ≤ 1099511627776 := Kw_bd hK 2
  show Ct _ _ _ _ _ (fun v m' B => v = .tuple #[(foldC t.b.l (i * (K.d / K.b)) ((i + 1) * (K.d / K.b))).1.v, .int .i64 (foldC t.b.l (i * (K.d / K.b)) ((i + 1) * (K.d / K.b))).2] ∧ _)
  have hq : (K.d).tdiv K.b = K.d / K.b := Int.tdiv_eq_ediv_of_nonneg (by omega)
  have f0 : 0 ≤ K.d / K.b := Int.ediv_nonneg (by omega) (by omega)
  have f1 : K.d / K.b ≤ K.d := Int.ediv_le_self _ (by omega)
  obtain ⟨⟨b1, b2⟩, b3, b4⟩ := mul_le_f hi.1 f0 f1 hb hw.2
  have w1 : IntKind.wrap .i64 ((K.d).tdiv K.b) = K.d / K.b := by rw [hq]; exact IntWalk.i64_in _ (by omega)
  generalize K.d / K.b = f at *
  have w2 : IntKind.wrap .i64 (i * f) = i * f := IntWalk.i64_in _ (by omega)
  have w3 : IntKind.wrap .i64 (i + 1) = i + 1 := IntWalk.i64_in _ (by omega)
  have w4 : IntKind.wrap .i64 ((i + 1) * f) = (i + 1) * f := IntWalk.i64_in _ (by omega)
  have w5 : IntKind.wrap .i64 ((2 : Int) - 1) = 1 := by decide
  have k1 := fun (m' : Mem) (h : m.le m') => fold_ (m := m') t.b.p t.b.c t.b.l (i * f) ((i + 1) * f) ho.b.i hD ho.b.n (ho.b.sl.mono h)
  generalize foldC t.b.l (i * f) ((i + 1) * f) = r at *
  clear ho hD b1 b2 b3 b4 hq f0 f1 hb
  obtain ⟨⟨p1, c1, l1⟩, ⟨p2, c2, l2⟩, ⟨p3, c3, l3⟩⟩ := t
  refine Ct.enterV (by rfl) Tryz.func112 rfl Tryz.ntmps112 rfl (fun w0 Rest => ?_)
  (repeat' (first | refine zss ?_ | ((first | (with_reducible first | apply At.val | apply AtQ.val)); (first | exact pr_sub (by rfl) (by rfl) w5 | exact pr_indexArr (k := 2) (by rfl) (by rfl) (by rfl) (by rfl) (by decide) | exact pr_indexArr (k := 1) (by rfl) (by rfl) (by rfl) (by rfl) (by decide) | exact pr_quo (by rfl) (by rfl) (by omega) w1 | exact pr_mul (by rfl) (by rfl) w2 | exact pr_add (by rfl) (by rfl) w3 | exact pr_mul (by rfl) (by rfl) w4); exact rfl) | refine zs0 ?_ | ((with_reducible first | apply AtM1.cr | apply AtQ.cr | apply At.cr); exact rfl; exact rfl; exact fun _ hmm => k1 _ hmm; exact ztk; kernel_rfl) | ((with_reducible apply At.alloc (d := 6)); exact rfl; exact rfl; intro b6) | (refine zsp ?_ ?_ <;> (intro hc; (try simp only [zhcs, reduceCtorEq] at hc); (try (exfalso; first | omega | contradiction | omega | exact absurd rfl hc | exact absurd (by decide) hc))))))
  all_goals ((with_reducible apply At.retV (B := kt q K ⟨⟨p1, c1, l1⟩, ⟨p2, c2, l2⟩, ⟨p3, c3, l3⟩⟩)); exact rfl; (repeat' (first | exact RVs.nil | (with_reducible apply RVs.cons) | exact rv_tmp (by rfl) | exact rv_cellN (by rfl) (by repeat constructor) (by rfl) (by rfl) (by rfl) | exact rv_cell1 (by rfl) (by repeat constructor) (by rfl) (by rfl))); exact zml; exact zkp; exact ⟨rfl, rfl, rfl⟩)
end Fo
end Go.Proofs.YtjdlnckifhifbaaGreat
/- The package fold: up, Up, Close, Empty. -/
set_option linter.unusedSimpArgs false
set_option linter.unusedVariables false
set_option linter.unusedSectionVars false
set_option maxRecDepth 20000
set_option maxHeartbeats 4000000
namespace Go.Proofs.YtjdlnckifhifbaaGreat
open Go Go.J
attribute [local irreducible] At AtQ AtM AtM1 PR Ct Pu Rd Res.blk Res.own Res.ex RVs RV
namespace Fo
open Slot Win Ti
theorem upL_same {K : Cfg} {k : Nat} {b l : List Slot} {i j : Int} (h : i * K.a / Kw K k = j * K.a / Kw K k) : upL K k b l i j = l := if_pos h
theorem upL_no {K : Cfg} {k : Nat} {b l : List Slot} {i j : Int} {r : Cell × Int} (h : ¬ i * K.a / Kw K k = j * K.a / Kw K k) (hr : foldC b (i * K.a / Kw K k * (Kw K k / Kw K (k - 1))) ((i * K.a / Kw K k + 1) * (Kw K k / Kw K (k - 1))) = r) (h2 : ¬ (r.2 = 0 ∧ 0 < r.1.n)) : upL K k b l i j = l := by
  subst hr
  exact (if_neg h).trans (if_neg h2)
theorem upL_yes {K : Cfg} {k : Nat} {b l : List Slot} {i j : Int} {r : Cell × Int} (h : ¬ i * K.a / Kw K k = j * K.a / Kw K k) (hr : foldC b (i * K.a / Kw K k * (Kw K k / Kw K (k - 1))) ((i * K.a / Kw K k + 1) * (Kw K k / Kw K (k - 1))) = r) (h2 : r.2 = 0 ∧ 0 < r.1.n) (h3 : putE l (Kw K k) (i * K.a / Kw K k) r.1 = 0) : upL K k b l i j = putO l (Kw K k) (i * K.a / Kw K k) r.1 := by
  subst hr
  exact ((if_neg h).trans (if_pos h2)).trans (if_pos h3)
theorem upL_not {K : Cfg} {k : Nat} {b l : List Slot} {i j : Int} {r : Cell × Int} (h : ¬ i * K.a / Kw K k = j * K.a / Kw K k) (hr : foldC b (i * K.a / Kw K k * (Kw K k / Kw K (k - 1))) ((i * K.a / Kw K k + 1) * (Kw K k / Kw K (k - 1))) = r) (h2 : r.2 = 0 ∧ 0 < r.1.n) (h3 : ¬ putE l (Kw K k) (i * K.a / Kw K k) r.1 = 0) : upL K k b l i j = l := by
  subst hr
  exact ((if_neg h).trans (if_pos h2)).trans (if_neg h3)
theorem putY {m : Mem} {q : Nat} {K : Cfg} {t : TT} {k : Nat} {i : Int} {x : Cell} {f : FuncId} {args : Array Value} {A : List Res} (h : Ct Tryz.prog f args m A (PutP q K t k i x)) (e : putE (t.get k).l (Kw K k) i x = 0) :
    Ct Tryz.prog f args m A (fun v m' B => v = .int .i64 0 ∧ ∃ n : Lst Slot, n.l = putO (t.get k).l (Kw K k) i x ∧ Sl m' cells 15 n.p n.c n.l ∧ B = kt q K (t.set n k)) :=
  Ct.mono h fun v m' B _ ⟨h1, n, h2, h3, h4⟩ => ⟨h1.trans (by rw [e]), n, h2, h3, by rw [h4, if_pos e]⟩
theorem putN {m : Mem} {q : Nat} {K : Cfg} {t : TT} {k : Nat} {i : Int} {x : Cell} {f : FuncId} {args : Array Value} {A : List Res} (h : Ct Tryz.prog f args m A (PutP q K t k i x)) (e : ¬ putE (t.get k).l (Kw K k) i x = 0) :
    Ct Tryz.prog f args m A (fun v m' B => v = .int .i64 2 ∧ B = kt q K t) :=
  Ct.mono h fun v m' B _ ⟨h1, n, h2, h3, h4⟩ => ⟨h1.trans (by rw [(putE_cases _ _ _ _).resolve_left e]), by rw [h4, if_neg e]⟩
theorem over_bd {x w : Int} (hx : 0 ≤ x ∧ x ≤ 35184372088832) (hw : 1 ≤ w) : (0 ≤ x / w ∧ x / w ≤ 35184372088832) ∧ x / w * w ≤ 35184372088832 := by
  have h1 := Int.ediv_nonneg hx.1 (show 0 ≤ w by omega)
  have h2 := Int.ediv_le_self w hx.1
  have h3 := Int.ediv_mul_le x (show w ≠ 0 by omega)
  omega
structure US where
  (k : Nat) (m : Mem) (t : TT)
theorem upF {m : Mem} (q : Nat) (K : Cfg) (t : TT) (i j : Int) (ho : t.Ok m) (hK : K.ok) (h0 : okT t.a.l K.a) (h1 : okT t.b.l K.b) (h2 : okT t.c.l K.d) (hi : 0 ≤ i * K.a ∧ i * K.a ≤ 35184372088832) (hj : 0 ≤ j * K.a ∧ j * K.a ≤ 35184372088832) :
    Ct Tryz.prog 87 #[pt q, .int .i64 i, .int .i64 j] m (kt q K t) (fun v m' B => v = .tuple #[] ∧ ∃ t' : TT, t'.Ok m' ∧ t'.ls = up K t.ls i j ∧ B = kt q K t') := by
  have wi : IntKind.wrap .i64 (i * K.a) = i * K.a := IntWalk.i64_in _ (by omega)
  have wj : IntKind.wrap .i64 (j * K.a) = j * K.a := IntWalk.i64_in _ (by omega)
  refine Ct.enterV (by rfl) Tryz.func87 rfl Tryz.ntmps87 rfl (fun w0 Rest => ?_)
  (repeat' (first | refine zss ?_ | refine zs0 ?_ | ((with_reducible apply At.alloc (d := 9)); exact rfl; exact rfl; intro b9) | (refine zsp ?_ ?_ <;> (intro hc; (try simp only [zhcs, reduceCtorEq] at hc); (try (exfalso; first | contradiction | omega | exact absurd rfl hc | exact absurd (by decide) hc))))))
  (refine At.loopk (σ := US) [0, 1, 2] (fun s F0 => (6, .int .i64 (s.k : Int)) :: F0) (fun s => s.m) (fun s => .blk q 155 (K.cells ++ s.t.cells) :: Rest) (fun s => m.le s.m ∧ s.t.Ok s.m ∧ ((s.k = 1 ∧ s.t = t) ∨ (s.k = 2 ∧ s.t.a = t.a ∧ s.t.c = t.c ∧ s.t.b.l = upL K 1 t.a.l t.b.l i j) ∨ (s.k = 3 ∧ s.t.ls = up K t.ls i j))) (fun s => 3 - s.k) ⟨1, m, t⟩ (by rfl) ?_ zsubs zml zente ?_)
  · exact ⟨Mem.le_refl _, ho, .inl ⟨rfl, rfl⟩⟩
  rintro ⟨k, m1, T⟩ ⟨hm1, hT, hk⟩
  dsimp only at hm1 hT hk ⊢
  rcases hk with ⟨rfl, rfl⟩ | ⟨rfl, e1, e2, e3⟩ | ⟨rfl, e1⟩
  · have hw := Kw_bd hK 1
    have hu := Kw_bd hK 0
    change 1 ≤ K.b ∧ K.b ≤ _ at hw
    change 1 ≤ K.a ∧ K.a ≤ _ at hu
    have oi := over_bd hi hw.1
    have oj := over_bd hj hw.1
    have d1 : (i * K.a).tdiv K.b = i * K.a / K.b := Int.tdiv_eq_ediv_of_nonneg hi.1
    have d2 : (j * K.a).tdiv K.b = j * K.a / K.b := Int.tdiv_eq_ediv_of_nonneg hj.1
    have q1 : IntKind.wrap .i64 ((i * K.a).tdiv K.b) = i * K.a / K.b := by rw [d1]; exact IntWalk.i64_in _ (by omega)
    have q2 : IntKind.wrap .i64 ((j * K.a).tdiv K.b) = j * K.a / K.b := by rw [d2]; exact IntWalk.i64_in _ (by omega)
    by_cases ho1 : i * K.a / K.b = j * K.a / K.b
    · have hs : T.b.l = upL K 1 T.a.l T.b.l i j := (upL_same (k := 1) ho1).symm
      rw [← ho1] at q2
      clear d1 d2 oi oj
      (repeat' (first | refine zss ?_ | ((first | (with_reducible first | apply At.val | apply AtQ.val)); (first | exact pr_indexArr (k := 0) (by rfl) (by rfl) (by rfl) (by rfl) (by decide) | exact pr_indexArr (k := 1) (by rfl) (by rfl) (by rfl) (by rfl) (by decide) | exact pr_mul (by rfl) (by rfl) wi | exact pr_mul (by rfl) (by rfl) wj | exact pr_quo (by rfl) (by rfl) (by omega) q1 | exact pr_quo (by rfl) (by rfl) (by omega) q2); exact rfl) | refine zs0 ?_ | ((with_reducible apply At.alloc (d := 9)); exact rfl; exact rfl; intro b9) | (refine zsp ?_ ?_ <;> (intro hc; (try simp only [zhcs, reduceCtorEq] at hc); (try (exfalso; first | (first | omega | exact absurd rfl hc) | contradiction | omega | exact absurd rfl hc | exact absurd (by decide) hc))))))
      all_goals ((with_reducible refine At.reachk ((⟨2, m1, T⟩ : US)) ?_ ?_ ?_ ?_); exact zsubs; exact zml; exact zente; exact ⟨⟨zml, hT, .inr (.inl ⟨rfl, rfl, rfl, hs⟩)⟩, (by decide : 3 - 2 < 3 - 1)⟩)
    have km := fun (m' : Mem) (h : m1.le m') => made1 (m := m') q K T (i * K.a / K.b) (hT.mono h) hK (okT_dis h0) oi.1 oi.2
    obtain ⟨r, hr⟩ : ∃ r, madeC K T 1 (i * K.a / K.b) = r := ⟨_, rfl⟩
    have hri : Cell.In r.1 := hr ▸ foldC_in hT.a.i _ _
    rw [hr] at km
    by_cases ho2 : r.2 = 0 ∧ 0 < r.1.n
    rotate_left
    · have hs : T.b.l = upL K 1 T.a.l T.b.l i j := (upL_no (k := 1) ho1 hr ho2).symm
      clear d1 d2 oi oj
      generalize i * K.a / K.b = o at *
      generalize j * K.a / K.b = nw at *
      (repeat' (first | refine zss ?_ | ((first | (with_reducible first | apply At.val | apply AtQ.val)); (first | exact pr_indexArr (k := 0) (by rfl) (by rfl) (by rfl) (by rfl) (by decide) | exact pr_indexArr (k := 1) (by rfl) (by rfl) (by rfl) (by rfl) (by decide) | exact pr_mul (by rfl) (by rfl) wi | exact pr_mul (by rfl) (by rfl) wj | exact pr_quo (by rfl) (by rfl) (by omega) q1 | exact pr_quo (by rfl) (by rfl) (by omega) q2); exact rfl) | refine zs0 ?_ | ((with_reducible first | apply AtM1.cr | apply AtQ.cr | apply At.cr); exact rfl; exact rfl; exact fun _ hmm => km _ hmm; exact ztk; kernel_rfl) | ((with_reducible apply At.alloc (d := 9)); exact rfl; exact rfl; intro b9) | (refine zsp ?_ ?_ <;> (intro hc; (try simp only [zhcs, reduceCtorEq] at hc); (try (exfalso; first | (first | omega | exact absurd hc ho1) | contradiction | omega | exact absurd rfl hc | exact absurd (by decide) hc))))))
      all_goals ((with_reducible refine At.reachk ((⟨2, m1, T⟩ : US)) ?_ ?_ ?_ ?_); exact zsubs; exact zml; exact zente; exact ⟨⟨zml, hT, .inr (.inl ⟨rfl, rfl, rfl, hs⟩)⟩, (by decide : 3 - 2 < 3 - 1)⟩)
    have kp := fun (m' : Mem) (h : m1.le m') => put1 (m := m') q K T (i * K.a / K.b) r.1 (hT.mono h) (by omega) hri.1
    by_cases ho3 : putE T.b.l K.b (i * K.a / K.b) r.1 = 0
    · have hs : ∀ n : Lst Slot, n.l = putO T.b.l K.b (i * K.a / K.b) r.1 → n.l = upL K 1 T.a.l T.b.l i j := fun n hn => hn.trans (upL_yes (k := 1) ho1 hr ho2 ho3).symm
      have hn : ∀ (m' : Mem) (n : Lst Slot), n.l = putO T.b.l K.b (i * K.a / K.b) r.1 → Sl m' cells 15 n.p n.c n.l → TT.OkL m' n := fun m' n hn sl => ⟨sl, by rw [hn]; exact putO_in hT.b.i hri (by omega), by rw [hn]; exact Nat.le_trans (putO_le _ _ _ _) hT.b.n⟩
      have kp := fun (m' : Mem) (h : m1.le m') => putY (kp m' h) ho3
      change ∀ m' (h : m1.le m'), Ct _ _ _ _ _ (fun v m' B => v = .int .i64 0 ∧ ∃ n : Lst Slot, n.l = putO T.b.l K.b (i * K.a / K.b) r.1 ∧ Sl m' cells 15 n.p n.c n.l ∧ B = kt q K ⟨T.a, n, T.c⟩) at kp
      clear d1 d2 oi oj
      generalize i * K.a / K.b = o at *
      generalize j * K.a / K.b = nw at *
      (repeat' (first | refine zss ?_ | ((first | (with_reducible first | apply At.val | apply AtQ.val)); (first | exact pr_indexArr (k := 0) (by rfl) (by rfl) (by rfl) (by rfl) (by decide) | exact pr_indexArr (k := 1) (by rfl) (by rfl) (by rfl) (by rfl) (by decide) | exact pr_mul (by rfl) (by rfl) wi | exact pr_mul (by rfl) (by rfl) wj | exact pr_quo (by rfl) (by rfl) (by omega) q1 | exact pr_quo (by rfl) (by rfl) (by omega) q2); exact rfl) | refine zs0 ?_ | ((with_reducible first | apply AtM1.cr | apply AtQ.cr | apply At.cr); exact rfl; exact rfl; exact fun _ hmm => km _ hmm; exact ztk; kernel_rfl) | ((with_reducible first | apply At.c1 | apply At.c0); exact rfl; exact rfl; exact kp _ zml; exact ztk; kernel_rfl; rintro v' m' B' hm' ⟨rfl, n, hn1, sl9, rfl⟩; (try replace sl9 := sl9.mono hm'); (try (have hq0 : hm' = Mem.le_refl _ := rfl; clear hq0 hm'))) | ((with_reducible apply At.alloc (d := 9)); exact rfl; exact rfl; intro b9) | (refine zsp ?_ ?_ <;> (intro hc; (try simp only [zhcs, reduceCtorEq] at hc); (try (exfalso; first | (first | omega | exact absurd hc ho1) | contradiction | omega | exact absurd rfl hc | exact absurd (by decide) hc))))))
      all_goals ((with_reducible refine At.reachk ((⟨2, m', ⟨T.a, n, T.c⟩⟩ : US)) ?_ ?_ ?_ ?_); exact zsubs; exact zml; exact zente; exact ⟨⟨zml, ⟨hT.a.mono zml, hn _ n hn1 sl9, hT.c.mono zml⟩, .inr (.inl ⟨rfl, rfl, rfl, hs n hn1⟩)⟩, (by decide : 3 - 2 < 3 - 1)⟩)
    · have hs : T.b.l = upL K 1 T.a.l T.b.l i j := (upL_not (k := 1) ho1 hr ho2 ho3).symm
      have kp := fun (m' : Mem) (h : m1.le m') => putN (kp m' h) ho3
      clear d1 d2 oi oj
      generalize i * K.a / K.b = o at *
      generalize j * K.a / K.b = nw at *
      (repeat' (first | refine zss ?_ | ((first | (with_reducible first | apply At.val | apply AtQ.val)); (first | exact pr_indexArr (k := 0) (by rfl) (by rfl) (by rfl) (by rfl) (by decide) | exact pr_indexArr (k := 1) (by rfl) (by rfl) (by rfl) (by rfl) (by decide) | exact pr_mul (by rfl) (by rfl) wi | exact pr_mul (by rfl) (by rfl) wj | exact pr_quo (by rfl) (by rfl) (by omega) q1 | exact pr_quo (by rfl) (by rfl) (by omega) q2); exact rfl) | refine zs0 ?_ | ((with_reducible first | apply AtM1.cr | apply AtQ.cr | apply At.cr); exact rfl; exact rfl; exact fun _ hmm => km _ hmm; exact ztk; kernel_rfl) | ((with_reducible first | apply At.c1 | apply At.c0); exact rfl; exact rfl; exact kp _ zml; exact ztk; kernel_rfl; rintro v' m' B' hm' ⟨rfl, rfl⟩; (try replace sl9 := sl9.mono hm'); (try (have hq0 : hm' = Mem.le_refl _ := rfl; clear hq0 hm'))) | ((with_reducible apply At.alloc (d := 9)); exact rfl; exact rfl; intro b9) | (refine zsp ?_ ?_ <;> (intro hc; (try simp only [zhcs, reduceCtorEq] at hc); (try (exfalso; first | (first | omega | exact absurd hc ho1) | contradiction | omega | exact absurd rfl hc | exact absurd (by decide) hc))))))
      all_goals ((with_reducible refine At.reachk ((⟨2, m', T⟩ : US)) ?_ ?_ ?_ ?_); exact zsubs; exact zml; exact zente; exact ⟨⟨zml, hT.mono zml, .inr (.inl ⟨rfl, rfl, rfl, hs⟩)⟩, (by decide : 3 - 2 < 3 - 1)⟩)
  · have hw := Kw_bd hK 2
    have hu := Kw_bd hK 1
    change 1 ≤ K.d ∧ K.d ≤ _ at hw
    change 1 ≤ K.b ∧ K.b ≤ _ at hu
    have oi := over_bd hi hw.1
    have oj := over_bd hj hw.1
    have d1 : (i * K.a).tdiv K.d = i * K.a / K.d := Int.tdiv_eq_ediv_of_nonneg hi.1
    have d2 : (j * K.a).tdiv K.d = j * K.a / K.d := Int.tdiv_eq_ediv_of_nonneg hj.1
    have q1 : IntKind.wrap .i64 ((i * K.a).tdiv K.d) = i * K.a / K.d := by rw [d1]; exact IntWalk.i64_in _ (by omega)
    have q2 : IntKind.wrap .i64 ((j * K.a).tdiv K.d) = j * K.a / K.d := by rw [d2]; exact IntWalk.i64_in _ (by omega)
    have hlc : T.c.l = t.c.l := by rw [e2]
    have fin : ∀ n : Lst Slot, n.l = upL K 2 T.b.l T.c.l i j → (⟨T.a, T.b, n⟩ : TT).ls = up K t.ls i j := fun n hn => by
      show (⟨T.a.l, T.b.l, n.l⟩ : L3) = ⟨t.a.l, upL K 1 t.a.l t.b.l i j, upL K 2 (upL K 1 t.a.l t.b.l i j) t.c.l i j⟩
      rw [hn, e1, e3, hlc]
    by_cases ho1 : i * K.a / K.d = j * K.a / K.d
    · have hs : T.c.l = upL K 2 T.b.l T.c.l i j := (upL_same (k := 2) ho1).symm
      rw [← ho1] at q2
      clear d1 d2 oi oj
      (repeat' (first | refine zss ?_ | ((first | (with_reducible first | apply At.val | apply AtQ.val)); (first | exact pr_indexArr (k := 0) (by rfl) (by rfl) (by rfl) (by rfl) (by decide) | exact pr_indexArr (k := 2) (by rfl) (by rfl) (by rfl) (by rfl) (by decide) | exact pr_mul (by rfl) (by rfl) wi | exact pr_mul (by rfl) (by rfl) wj | exact pr_quo (by rfl) (by rfl) (by omega) q1 | exact pr_quo (by rfl) (by rfl) (by omega) q2); exact rfl) | refine zs0 ?_ | ((with_reducible apply At.alloc (d := 9)); exact rfl; exact rfl; intro b9) | (refine zsp ?_ ?_ <;> (intro hc; (try simp only [zhcs, reduceCtorEq] at hc); (try (exfalso; first | (first | omega | exact absurd rfl hc) | contradiction | omega | exact absurd rfl hc | exact absurd (by decide) hc))))))
      all_goals ((with_reducible refine At.reachk ((⟨3, m1, T⟩ : US)) ?_ ?_ ?_ ?_); exact zsubs; exact zml; exact zente; exact ⟨⟨zml, hT, .inr (.inr ⟨rfl, fin _ hs⟩)⟩, (by decide : 3 - 3 < 3 - 2)⟩)
    have km := fun (m' : Mem) (h : m1.le m') => made2 (m := m') q K T (i * K.a / K.d) (hT.mono h) hK (okT_dis (e3 ▸ upL_ok (k := 1) h1)) oi.1 oi.2
    obtain ⟨r, hr⟩ : ∃ r, madeC K T 2 (i * K.a / K.d) = r := ⟨_, rfl⟩
    have hri : Cell.In r.1 := hr ▸ foldC_in hT.b.i _ _
    rw [hr] at km
    by_cases ho2 : r.2 = 0 ∧ 0 < r.1.n
    rotate_left
    · have hs : T.c.l = upL K 2 T.b.l T.c.l i j := (upL_no (k := 2) ho1 hr ho2).symm
      clear d1 d2 oi oj
      generalize i * K.a / K.d = o at *
      generalize j * K.a / K.d = nw at *
      (repeat' (first | refine zss ?_ | ((first | (with_reducible first | apply At.val | apply AtQ.val)); (first | exact pr_indexArr (k := 0) (by rfl) (by rfl) (by rfl) (by rfl) (by decide) | exact pr_indexArr (k := 2) (by rfl) (by rfl) (by rfl) (by rfl) (by decide) | exact pr_mul (by rfl) (by rfl) wi | exact pr_mul (by rfl) (by rfl) wj | exact pr_quo (by rfl) (by rfl) (by omega) q1 | exact pr_quo (by rfl) (by rfl) (by omega) q2); exact rfl) | refine zs0 ?_ | ((with_reducible first | apply AtM1.cr | apply AtQ.cr | apply At.cr); exact rfl; exact rfl; exact fun _ hmm => km _ hmm; exact ztk; kernel_rfl) | ((with_reducible apply At.alloc (d := 9)); exact rfl; exact rfl; intro b9) | (refine zsp ?_ ?_ <;> (intro hc; (try simp only [zhcs, reduceCtorEq] at hc); (try (exfalso; first | (first | omega | exact absurd hc ho1) | contradiction | omega | exact absurd rfl hc | exact absurd (by decide) hc))))))
      all_goals ((with_reducible refine At.reachk ((⟨3, m1, T⟩ : US)) ?_ ?_ ?_ ?_); exact zsubs; exact zml; exact zente; exact ⟨⟨zml, hT, .inr (.inr ⟨rfl, fin _ hs⟩)⟩, (by decide : 3 - 3 < 3 - 2)⟩)
    have kp := fun (m' : Mem) (h : m1.le m') => put2 (m := m') q K T (i * K.a / K.d) r.1 (hT.mono h) (by omega) hri.1
    by_cases ho3 : putE T.c.l K.d (i * K.a / K.d) r.1 = 0
    · have hs : ∀ n : Lst Slot, n.l = putO T.c.l K.d (i * K.a / K.d) r.1 → n.l = upL K 2 T.b.l T.c.l i j := fun n hn => hn.trans (upL_yes (k := 2) ho1 hr ho2 ho3).symm
      have hn : ∀ (m' : Mem) (n : Lst Slot), n.l = putO T.c.l K.d (i * K.a / K.d) r.1 → Sl m' cells 15 n.p n.c n.l → TT.OkL m' n := fun m' n hn sl => ⟨sl, by rw [hn]; exact putO_in hT.c.i hri (by omega), by rw [hn]; exact Nat.le_trans (putO_le _ _ _ _) hT.c.n⟩
      have kp := fun (m' : Mem) (h : m1.le m') => putY (kp m' h) ho3
      change ∀ m' (h : m1.le m'), Ct _ _ _ _ _ (fun v m' B => v = .int .i64 0 ∧ ∃ n : Lst Slot, n.l = putO T.c.l K.d (i * K.a / K.d) r.1 ∧ Sl m' cells 15 n.p n.c n.l ∧ B = kt q K ⟨T.a, T.b, n⟩) at kp
      clear d1 d2 oi oj
      generalize i * K.a / K.d = o at *
      generalize j * K.a / K.d = nw at *
      (repeat' (first | refine zss ?_ | ((first | (with_reducible first | apply At.val | apply AtQ.val)); (first | exact pr_indexArr (k := 0) (by rfl) (by rfl) (by rfl) (by rfl) (by decide) | exact pr_indexArr (k := 2) (by rfl) (by rfl) (by rfl) (by rfl) (by decide) | exact pr_mul (by rfl) (by rfl) wi | exact pr_mul (by rfl) (by rfl) wj | exact pr_quo (by rfl) (by rfl) (by omega) q1 | exact pr_quo (by rfl) (by rfl) (by omega) q2); exact rfl) | refine zs0 ?_ | ((with_reducible first | apply AtM1.cr | apply AtQ.cr | apply At.cr); exact rfl; exact rfl; exact fun _ hmm => km _ hmm; exact ztk; kernel_rfl) | ((with_reducible first | apply At.c1 | apply At.c0); exact rfl; exact rfl; exact kp _ zml; exact ztk; kernel_rfl; rintro v' m' B' hm' ⟨rfl, n, hn1, sl9, rfl⟩; (try replace sl9 := sl9.mono hm'); (try (have hq0 : hm' = Mem.le_refl _ := rfl; clear hq0 hm'))) | ((with_reducible apply At.alloc (d := 9)); exact rfl; exact rfl; intro b9) | (refine zsp ?_ ?_ <;> (intro hc; (try simp only [zhcs, reduceCtorEq] at hc); (try (exfalso; first | (first | omega | exact absurd hc ho1) | contradiction | omega | exact absurd rfl hc | exact absurd (by decide) hc))))))
      all_goals ((with_reducible refine At.reachk ((⟨3, m', ⟨T.a, T.b, n⟩⟩ : US)) ?_ ?_ ?_ ?_); exact zsubs; exact zml; exact zente; exact ⟨⟨zml, ⟨hT.a.mono zml, hT.b.mono zml, hn _ n hn1 sl9⟩, .inr (.inr ⟨rfl, fin _ (hs n hn1)⟩)⟩, (by decide : 3 - 3 < 3 - 2)⟩)
    · have hs : T.c.l = upL K 2 T.b.l T.c.l i j := (upL_not (k := 2) ho1 hr ho2 ho3).symm
      have kp := fun (m' : Mem) (h : m1.le m') => putN (kp m' h) ho3
      clear d1 d2 oi oj
      generalize i * K.a / K.d = o at *
      generalize j * K.a / K.d = nw at *
      (repeat' (first | refine zss ?_ | ((first | (with_reducible first | apply At.val | apply AtQ.val)); (first | exact pr_indexArr (k := 0) (by rfl) (by rfl) (by rfl) (by rfl) (by decide) | exact pr_indexArr (k := 2) (by rfl) (by rfl) (by rfl) (by rfl) (by decide) | exact pr_mul (by rfl) (by rfl) wi | exact pr_mul (by rfl) (by rfl) wj | exact pr_quo (by rfl) (by rfl) (by omega) q1 | exact pr_quo (by rfl) (by rfl) (by omega) q2); exact rfl) | refine zs0 ?_ | ((with_reducible first | apply AtM1.cr | apply AtQ.cr | apply At.cr); exact rfl; exact rfl; exact fun _ hmm => km _ hmm; exact ztk; kernel_rfl) | ((with_reducible first | apply At.c1 | apply At.c0); exact rfl; exact rfl; exact kp _ zml; exact ztk; kernel_rfl; rintro v' m' B' hm' ⟨rfl, rfl⟩; (try replace sl9 := sl9.mono hm'); (try (have hq0 : hm' = Mem.le_refl _ := rfl; clear hq0 hm'))) | ((with_reducible apply At.alloc (d := 9)); exact rfl; exact rfl; intro b9) | (refine zsp ?_ ?_ <;> (intro hc; (try simp only [zhcs, reduceCtorEq] at hc); (try (exfalso; first | (first | omega | exact absurd hc ho1) | contradiction | omega | exact absurd rfl hc | exact absurd (by decide) hc))))))
      all_goals ((with_reducible refine At.reachk ((⟨3, m', T⟩ : US)) ?_ ?_ ?_ ?_); exact zsubs; exact zml; exact zente; exact ⟨⟨zml, hT.mono zml, .inr (.inr ⟨rfl, fin _ hs⟩)⟩, (by decide : 3 - 3 < 3 - 2)⟩)
  · (repeat' (first | refine zss ?_ | refine zs0 ?_ | ((with_reducible apply At.alloc (d := 9)); exact rfl; exact rfl; intro b9) | (refine zsp ?_ ?_ <;> (intro hc; (try simp only [zhcs, reduceCtorEq] at hc); (try (exfalso; first | omega | contradiction | omega | exact absurd rfl hc | exact absurd (by decide) hc))))))
    all_goals ((first | (with_reducible apply At.retB0 (B := kt q K T)) | (with_reducible apply At.retR0 (B := kt q K T))); exact rfl; exact zml; exact zkp; exact ⟨rfl, T, hT, e1, rfl⟩)
end Fo
end Go.Proofs.YtjdlnckifhifbaaGreat

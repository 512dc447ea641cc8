/- QuantOrder: rates that are handed in from any place on, round, or the other way round, are sorted alike; they rise, and are as many; sorted again they are the same; the first and the last one are at no part, and at the whole. Conditions: the library's table reads as the row's cells say (the card ties it to the program's text). -/
import Derived.Test.YtmnlmmbfjfgfeaaDoorQu3Z10
/- QuantOrder: rates that are handed in from any place on, round, or the other way round, are sorted alike; they rise, and are as many; sorted again they are the same; the first and the last one are at no part, and at the whole. Conditions: the library's table reads as the row's cells say (the card ties it to the program's text). -/
set_option linter.unusedSimpArgs false
set_option linter.unusedVariables false
set_option linter.unusedSectionVars false
set_option maxRecDepth 20000
set_option maxHeartbeats 4000000
namespace Go.Proofs.YtmnlmmbfjfgfeaaDoor
open Go Go.J
attribute [local irreducible] At AtQ AtM AtM1 PR Ct Pu Rd Res.blk Res.own Res.ex RVs RV
namespace Qu
open Wide
theorem chkL_perm {a b : List (Nat × Nat)} (h : a.Perm b) : chkL a = chkL b := by
  unfold chkL
  rw [h.any_eq, h.any_eq]
theorem outS_perm {a b : List (Nat × Nat)} (h : a.Perm b) : outS a = outS b := by
  unfold outS
  rw [chkL_perm h]
  by_cases k : chkL b = 0
  · rw [if_pos k, if_pos k]
    exact srt_alike (fun p hp => chkL_ok k p (h.mem_iff.1 hp)) h
  · rw [if_neg k, if_neg k]
theorem sortO {m : Mem} (ht : Ra.TZ m) (p : Option Addr) (c n k : Nat) (l o : List (Nat × Nat)) (w : Int) (hn : l.length = n) (hl : l.length ≤ 1000000) (hb : ∀ x ∈ l, In2 x) (ho : outS l = o) (hw : chkL l = w) (hk : o.length = k) :
    Ct Tryd.prog 8 #[.slice p n c] m [.own fd 4 27 p c l] (fun v m' B => B = [] ∧ ∃ p c, v = .tuple #[.slice p k c, .int .i64 w] ∧ Sl m' fd 4 p c o) :=
  Ct.freezeG inferInstance fun m' hm' sl => sortC (ht.mono hm') p c n k l o w hn hl hb ho hw hk sl
structure BK where
  (i : Nat) (p : Option Addr) (c : Nat)
theorem rev_snoc {l : List (Nat × Nat)} {i : Nat} (h : i < l.length) : l.reverse.take (i + 1) = l.reverse.take i ++ [l[l.length - 1 - i]!] := by
  rw [Ls.take_snoc (by rw [List.length_reverse]; exact h), getElem!_pos l.reverse i (by rw [List.length_reverse]; exact h), List.getElem_reverse, getElem!_pos l (l.length - 1 - i) (by omega)]
theorem up_at {o : List (Nat × Nat)} (h : o.Pairwise fun x y => lq x y = true) {i : Nat} (hi : i + 1 < o.length) : lq o[i]! o[i + 1]! = true := by
  rw [getElem!_pos o i (by omega), getElem!_pos o (i + 1) hi]
  exact List.pairwise_iff_getElem.1 h i (i + 1) (by omega) hi (Nat.lt_succ_self i)
theorem ofV_none {l : List (Nat × Nat)} (hk : chkL l = 0) (h : 0 < l.length) : ofV 0 1 l = ((srt l)[0]!, 0) := by
  unfold ofV
  have e : rkV (l.length : Int) 0 1 = (1, 0) := by
    unfold rkV
    rw [if_neg (by omega), rk_none]
    rfl
  rw [hk, if_neg (fun e => e rfl), e, if_neg (fun e => e rfl)]
  rfl
theorem ofV_whole {l : List (Nat × Nat)} (hk : chkL l = 0) (h : 0 < l.length) : ofV 1 1 l = ((srt l)[l.length - 1]!, 0) := by
  unfold ofV
  have e : rkV (l.length : Int) 1 1 = ((l.length : Int), 0) := by
    unfold rkV
    rw [if_neg (by omega), Int.toNat_natCast, rk_whole h (by decide)]
  rw [hk, if_neg (fun e => e rfl), e, if_neg (fun e => e rfl)]
  rfl
theorem orderL {m : Mem} (hz : Ra.TZ m) (p : Option Addr) (c : Nat) (l : List (Nat × Nat)) (k : Int) (hb : ∀ x ∈ l, In2 x) (hk0 : -9223372036854775808 ≤ k ∧ k ≤ 9223372036854775807) (sl0 : Sl m fd 4 p c l) :
    Ct Tryd.prog 5 #[.slice p l.length c, .int .i64 k] m [] (fun v m' B => v = .bool true ∧ B = []) := by
  have hl := fun (m' : Mem) (h : m.le m') => lives (m := m') (hz.mono h)
  by_cases h60 : l.length > 60 ∨ k < 0 ∨ k > l.length
  · refine Ct.enterV (by rfl) Tryd.func5 rfl Tryd.ntmps5 rfl (fun w0 Rest => ?_)
    (repeat' (first | refine zss ?_ | refine zsM ?_ | ((with_reducible first | apply AtM1.cr | apply AtQ.cr | apply At.cr); exact rfl; exact rfl; exact fun _ hmm => hl _ hmm; exact ztk; kernel_rfl) | ((with_reducible apply At.alloc (d := 19)); exact rfl; exact rfl; intro b19) | ((with_reducible apply At.alloc (d := 21)); exact rfl; exact rfl; intro b21) | (refine zsp ?_ ?_ <;> (intro hc; (try simp only [zhcs, reduceCtorEq] at hc); (try (exfalso; first | omega | contradiction | omega | exact absurd rfl hc | exact absurd (by decide) hc))))))
    all_goals ((with_reducible apply At.retB1 (B := [])); exact rfl; exact rfl; exact zml; exact zkp; exact ⟨rfl, rfl⟩)
  have hm : l.length ≤ 60 := by omega
  obtain ⟨at_, rfl⟩ : ∃ a : Nat, k = (a : Int) := ⟨k.toNat, by omega⟩
  have hat : at_ ≤ l.length := by omega
  obtain ⟨o, ho⟩ : ∃ o, outS l = o := ⟨_, rfl⟩
  obtain ⟨w, hw⟩ : ∃ w, chkL l = w := ⟨_, rfl⟩
  have a1 := fun (m' : Mem) (h : m.le m') => sortC (m := m') (hz.mono h) p c l.length o.length l o w rfl (by omega) hb ho hw rfl (sl0.mono h)
  have pb : l.reverse.Perm l := List.reverse_perm l
  have a2 := fun (m' : Mem) (h : m.le m') (p : Option Addr) (c : Nat) => sortO (m := m') (hz.mono h) p c l.length o.length l.reverse o w List.length_reverse (by rw [List.length_reverse]; omega) (fun x hx => hb x (List.mem_reverse.1 hx)) (by rw [outS_perm pb, ho]) (by rw [chkL_perm pb, hw]) rfl
  have hR : ([] ++ l.drop at_ ++ l.take at_).length = l.length := by rw [List.nil_append, List.length_append, List.length_drop, List.length_take]; omega
  have pr : ([] ++ l.drop at_ ++ l.take at_).Perm l := by
    rw [List.nil_append]
    exact List.perm_append_comm.trans (by rw [List.take_append_drop])
  have a3 := fun (m' : Mem) (h : m.le m') (p : Option Addr) (c : Nat) => sortO (m := m') (hz.mono h) p c _ o.length ([] ++ l.drop at_ ++ l.take at_) o w rfl (by rw [hR]; omega) (fun x hx => hb x (pr.mem_iff.1 hx)) (by rw [outS_perm pr, ho]) (by rw [chkL_perm pr, hw]) rfl
  have a4 := fun (m' : Mem) (h : m.le m') => checkQ (m := m') (hz.mono h) p c l.length l w rfl (by omega) hb hw (sl0.mono h)
  have hrl : l.reverse.length = l.length := List.length_reverse
  have sl1 := Sl.subl sl0 at_ hat
  have sl2 := Sl.subh sl0 at_ hat
  have hol : o.length ≤ l.length := by
    rw [← ho]
    unfold outS
    split
    · exact Nat.le_of_eq (srt_len l)
    · exact Nat.zero_le _
  by_cases hk : chkL l = 0
  rotate_left
  · have eo : o = [] := by rw [← ho]; exact if_neg hk
    rw [hw] at hk
    subst eo
    clear ho hw pb pr
    refine Ct.enterV (by rfl) Tryd.func5 rfl Tryd.ntmps5 rfl (fun w0 Rest => ?_)
    (repeat' (first | refine zss ?_ | refine zsM ?_ | ((with_reducible first | apply AtM1.cr | apply AtQ.cr | apply At.cr); exact rfl; exact rfl; exact fun _ hmm => hl _ hmm; exact ztk; kernel_rfl) | ((with_reducible apply At.alloc (d := 19)); exact rfl; exact rfl; intro b19) | ((with_reducible apply At.alloc (d := 21)); exact rfl; exact rfl; intro b21) | (refine zsp ?_ ?_ <;> (intro hc; (try simp only [zhcs, reduceCtorEq] at hc); (try (exfalso; first | omega | contradiction | omega | exact absurd rfl hc | exact absurd (by decide) hc))))))
    refine At.own_nil fd 4 27 ?_
    (refine At.loopk (σ := BK) [0, 1, 39] (fun s F0 => (40, .int .i64 (s.i : Int)) :: (5, .slice s.p (l.reverse.take s.i).length s.c) :: F0) (fun s => m) (fun s => .own fd 4 27 s.p s.c (l.reverse.take s.i) :: Rest) (fun s => s.i ≤ l.length) (fun s => l.length - s.i) ⟨0, none, 0⟩ (by rfl) ?_ zsubs zml zente ?_)
    · exact Nat.zero_le _
    rintro ⟨i, pp, cc⟩ hi
    dsimp only at hi ⊢
    by_cases h : i < l.length
    · have e1 := rev_snoc h
      have e2 : (l.reverse.take i).length = i := by rw [List.length_take]; omega
      have hw1 : IntKind.wrap .i64 ((l.length : Int) - 1) = ((l.length - 1 : Nat) : Int) := by rw [show (l.length : Int) - 1 = ((l.length - 1 : Nat) : Int) by omega]; exact IntWalk.i64_in _ (by omega)
      have hw2 : IntKind.wrap .i64 (((l.length - 1 : Nat) : Int) - (i : Int)) = ((l.length - 1 - i : Nat) : Int) := by rw [show ((l.length - 1 : Nat) : Int) - (i : Int) = ((l.length - 1 - i : Nat) : Int) by omega]; exact IntWalk.i64_in _ (by omega)
      generalize l.reverse.take i = O at *
      (repeat' (first | refine zss ?_ | ((first | (with_reducible first | apply At.val | apply AtQ.val)); (first | exact pr_sub (by rfl) (by rfl) hw1 | exact pr_sub (by rfl) (by rfl) hw2); exact rfl) | refine zsOM ?_ | ((with_reducible apply At.lit fd [_]); exact inferInstance; (iterate 7 exact rfl); intro _) | ((with_reducible apply At.apW (f := fd)); exact rfl; exact rfl; exact (by repeat constructor); exact inferInstance; exact zrdl; (iterate 4 exact rfl); exact zom; exact rfl; intro p3 c3) | ((with_reducible apply At.alloc (d := 19)); exact rfl; exact rfl; intro b19) | ((with_reducible apply At.alloc (d := 21)); exact rfl; exact rfl; intro b21) | (refine zsp ?_ ?_ <;> (intro hc; (try simp only [zhcs, reduceCtorEq] at hc); (try (exfalso; first | omega | contradiction | omega | exact absurd rfl hc | exact absurd (by decide) hc))))))
      all_goals rw [← e1]
      all_goals ((with_reducible refine At.reachk (⟨i + 1, p3, c3⟩) ?_ ?_ ?_ ?_); exact zsubs; exact zml; exact zente; exact ⟨h, by dsimp only; omega⟩)
    · have e1 : l.reverse.take i = l.reverse := List.take_of_length_le (by omega)
      rw [e1, hrl]
      (repeat' (first | ((with_reducible apply At.mixed (id := 11) 10 (.q 1 (.q 2 (.q 3 (.q 5 (.q 6 (.q 7 (.l 0 (.l 4 (.x 8 (.q 9 .done))))))))))); exact rfl; kernel_rfl; kernel_rfl; kernel_rfl) | refine zsx ?_ | refine zss ?_ | ((with_reducible apply AtM.bo); exact rfl; exact rfl; exact rfl) | refine zsOM ?_ | refine zxOM ?_ | ((with_reducible first | apply At.c1 | apply At.c0); exact rfl; exact rfl; exact a1 _ zml; exact ztk; kernel_rfl; rintro v' m' B' hm' ⟨rfl, p5, c5, rfl, sl5⟩; (try replace sl0 := sl0.mono hm'); (try replace sl1 := sl1.mono hm'); (try replace sl2 := sl2.mono hm'); (try replace sl5 := sl5.mono hm'); (try replace sl6 := sl6.mono hm'); (try replace sl8 := sl8.mono hm'); (try replace sl9 := sl9.mono hm'); (try (have hq0 : hm' = Mem.le_refl _ := rfl; clear hq0 hm'))) | ((with_reducible first | apply At.c1 | apply At.c0); exact rfl; exact rfl; exact a2 _ zml pp cc; exact ztk; kernel_rfl; rintro v' m' B' hm' ⟨rfl, p6, c6, rfl, sl6⟩; (try replace sl0 := sl0.mono hm'); (try replace sl1 := sl1.mono hm'); (try replace sl2 := sl2.mono hm'); (try replace sl5 := sl5.mono hm'); (try replace sl6 := sl6.mono hm'); (try replace sl8 := sl8.mono hm'); (try replace sl9 := sl9.mono hm'); (try (have hq0 : hm' = Mem.le_refl _ := rfl; clear hq0 hm'))) | ((with_reducible apply At.lit fd []); exact inferInstance; (iterate 7 exact rfl); intro _) | ((with_reducible apply At.apW (f := fd)); exact rfl; exact rfl; exact (by repeat constructor); exact inferInstance; exact zrdl; (iterate 4 exact rfl); exact zom; exact rfl; intro p7 c7) | ((with_reducible first | apply At.c1 | apply At.c0); exact rfl; exact rfl; exact a3 _ zml _ _; exact ztk; kernel_rfl; rintro v' m' B' hm' ⟨rfl, p8, c8, rfl, sl8⟩; (try replace sl0 := sl0.mono hm'); (try replace sl1 := sl1.mono hm'); (try replace sl2 := sl2.mono hm'); (try replace sl5 := sl5.mono hm'); (try replace sl6 := sl6.mono hm'); (try replace sl8 := sl8.mono hm'); (try replace sl9 := sl9.mono hm'); (try (have hq0 : hm' = Mem.le_refl _ := rfl; clear hq0 hm'))) | ((with_reducible first | apply AtM1.cr | apply AtQ.cr | apply At.cr); exact rfl; exact rfl; exact fun _ hmm => a4 _ (Mem.le_trans zml hmm); exact ztk; kernel_rfl) | ((with_reducible first | apply AtM1.cr | apply AtQ.cr | apply At.cr); exact rfl; exact rfl; exact fun _ hmm => sameC _ _ 0 [] _ _ 0 [] true rfl rfl (by decide) (by decide) (decide_eq_true rfl) (sl5.mono hmm) (sl6.mono hmm); exact ztk; kernel_rfl) | ((with_reducible first | apply AtM1.cr | apply AtQ.cr | apply At.cr); exact rfl; exact rfl; exact fun _ hmm => sameC _ _ 0 [] _ _ 0 [] true rfl rfl (by decide) (by decide) (decide_eq_true rfl) (sl5.mono hmm) (sl8.mono hmm); exact ztk; kernel_rfl) | ((with_reducible apply At.alloc (d := 19)); exact rfl; exact rfl; intro b19) | ((with_reducible apply At.alloc (d := 21)); exact rfl; exact rfl; intro b21) | (refine zsp ?_ ?_ <;> (intro hc; (try simp only [zhcs, reduceCtorEq] at hc); (try (exfalso; first | (first | omega | exact absurd rfl hc | exact hc rfl | exact absurd hc hk) | contradiction | omega | exact absurd rfl hc | exact absurd (by decide) hc))))))
      all_goals ((with_reducible apply At.retB1 (B := [])); exact rfl; exact rfl; exact zml; exact zkp; exact ⟨by first | rfl | (simp [andL]; done), rfl⟩)
  have eo : o = srt l := by rw [← ho]; exact if_pos hk
  have hsl := chkL_ok hk
  have hso : ∀ x ∈ o, Sm x := fun x hx => hsl x (srt_mem.1 (eo ▸ hx))
  have hup : o.Pairwise fun x y => lq x y = true := eo ▸ srt_up hsl
  have hoo : outS o = o := by
    unfold outS
    rw [if_pos (ok_chkL hso)]
    exact (srt_alike hso (by rw [eo]; exact srt_perm l)).trans eo.symm
  have hln : o.length = l.length := by rw [eo]; exact srt_len l
  have a5 := fun (m' : Mem) (h : m.le m') (p : Option Addr) (c : Nat) => sortC (m := m') (hz.mono h) p c o.length o.length o o 0 rfl (by omega) (fun x hx => sm_in (hso x hx)) hoo (ok_chkL hso) rfl
  have w0 : w = 0 := hw.symm.trans hk
  have q1 : 0 < l.length → ∀ m' : Mem, m.le m' → Rd Tryd.prog 12 #[.int .u64 0, .int .u64 1, .slice p l.length c] m' [] (.tuple #[fv o[0]!, .int .i64 0]) := fun h0 m' h => by
    have := ofC (m := m') (hz.mono h) 0 1 (by decide) (by decide) p c l.length l rfl (by omega) hb (sl0.mono h)
    rw [ofV_none hk h0, ← eo] at this
    exact this
  have q2 : 0 < l.length → ∀ m' : Mem, m.le m' → Rd Tryd.prog 12 #[.int .u64 1, .int .u64 1, .slice p l.length c] m' [] (.tuple #[fv o[o.length - 1]!, .int .i64 0]) := fun h0 m' h => by
    have := ofC (m := m') (hz.mono h) 1 1 (by decide) (by decide) p c l.length l rfl (by omega) hb (sl0.mono h)
    rw [ofV_whole hk h0, ← eo, show l.length - 1 = o.length - 1 by rw [hln]] at this
    exact this
  subst w0
  clear ho hw pb pr hk eo hoo hsl
  refine Ct.enterV (by rfl) Tryd.func5 rfl Tryd.ntmps5 rfl (fun w0 Rest => ?_)
  (repeat' (first | refine zss ?_ | refine zsM ?_ | ((with_reducible first | apply AtM1.cr | apply AtQ.cr | apply At.cr); exact rfl; exact rfl; exact fun _ hmm => hl _ hmm; exact ztk; kernel_rfl) | ((with_reducible apply At.alloc (d := 19)); exact rfl; exact rfl; intro b19) | ((with_reducible apply At.alloc (d := 21)); exact rfl; exact rfl; intro b21) | (refine zsp ?_ ?_ <;> (intro hc; (try simp only [zhcs, reduceCtorEq] at hc); (try (exfalso; first | omega | contradiction | omega | exact absurd rfl hc | exact absurd (by decide) hc))))))
  refine At.own_nil fd 4 27 ?_
  (refine At.loopk (σ := BK) [0, 1, 39] (fun s F0 => (40, .int .i64 (s.i : Int)) :: (5, .slice s.p (l.reverse.take s.i).length s.c) :: F0) (fun s => m) (fun s => .own fd 4 27 s.p s.c (l.reverse.take s.i) :: Rest) (fun s => s.i ≤ l.length) (fun s => l.length - s.i) ⟨0, none, 0⟩ (by rfl) ?_ zsubs zml zente ?_)
  · exact Nat.zero_le _
  rintro ⟨i, pp, cc⟩ hi
  dsimp only at hi ⊢
  by_cases h : i < l.length
  · have e1 := rev_snoc h
    have e2 : (l.reverse.take i).length = i := by rw [List.length_take]; omega
    have hw1 : IntKind.wrap .i64 ((l.length : Int) - 1) = ((l.length - 1 : Nat) : Int) := by rw [show (l.length : Int) - 1 = ((l.length - 1 : Nat) : Int) by omega]; exact IntWalk.i64_in _ (by omega)
    have hw2 : IntKind.wrap .i64 (((l.length - 1 : Nat) : Int) - (i : Int)) = ((l.length - 1 - i : Nat) : Int) := by rw [show ((l.length - 1 : Nat) : Int) - (i : Int) = ((l.length - 1 - i : Nat) : Int) by omega]; exact IntWalk.i64_in _ (by omega)
    generalize l.reverse.take i = O at *
    (repeat' (first | refine zss ?_ | ((first | (with_reducible first | apply At.val | apply AtQ.val)); (first | exact pr_sub (by rfl) (by rfl) hw1 | exact pr_sub (by rfl) (by rfl) hw2); exact rfl) | refine zsOM ?_ | ((with_reducible apply At.lit fd [_]); exact inferInstance; (iterate 7 exact rfl); intro _) | ((with_reducible apply At.apW (f := fd)); exact rfl; exact rfl; exact (by repeat constructor); exact inferInstance; exact zrdl; (iterate 4 exact rfl); exact zom; exact rfl; intro p3 c3) | ((with_reducible apply At.alloc (d := 19)); exact rfl; exact rfl; intro b19) | ((with_reducible apply At.alloc (d := 21)); exact rfl; exact rfl; intro b21) | (refine zsp ?_ ?_ <;> (intro hc; (try simp only [zhcs, reduceCtorEq] at hc); (try (exfalso; first | omega | contradiction | omega | exact absurd rfl hc | exact absurd (by decide) hc))))))
    all_goals rw [← e1]
    all_goals ((with_reducible refine At.reachk (⟨i + 1, p3, c3⟩) ?_ ?_ ?_ ?_); exact zsubs; exact zml; exact zente; exact ⟨h, by dsimp only; omega⟩)
  · have e1 : l.reverse.take i = l.reverse := List.take_of_length_le (by omega)
    rw [e1, hrl]
    (repeat' (first | ((with_reducible apply At.mixed (id := 11) 10 (.q 1 (.q 2 (.q 3 (.q 5 (.q 6 (.q 7 (.l 0 (.l 4 (.x 8 (.q 9 .done))))))))))); exact rfl; kernel_rfl; kernel_rfl; kernel_rfl) | refine zsx ?_ | refine zss ?_ | ((with_reducible apply AtM.bo); exact rfl; exact rfl; exact rfl) | refine zsOM ?_ | refine zxOM ?_ | ((with_reducible first | apply At.c1 | apply At.c0); exact rfl; exact rfl; exact a1 _ zml; exact ztk; kernel_rfl; rintro v' m' B' hm' ⟨rfl, p5, c5, rfl, sl5⟩; (try replace sl0 := sl0.mono hm'); (try replace sl1 := sl1.mono hm'); (try replace sl2 := sl2.mono hm'); (try replace sl5 := sl5.mono hm'); (try replace sl6 := sl6.mono hm'); (try replace sl8 := sl8.mono hm'); (try replace sl9 := sl9.mono hm'); (try (have hq0 : hm' = Mem.le_refl _ := rfl; clear hq0 hm'))) | ((with_reducible first | apply At.c1 | apply At.c0); exact rfl; exact rfl; exact a2 _ zml pp cc; exact ztk; kernel_rfl; rintro v' m' B' hm' ⟨rfl, p6, c6, rfl, sl6⟩; (try replace sl0 := sl0.mono hm'); (try replace sl1 := sl1.mono hm'); (try replace sl2 := sl2.mono hm'); (try replace sl5 := sl5.mono hm'); (try replace sl6 := sl6.mono hm'); (try replace sl8 := sl8.mono hm'); (try replace sl9 := sl9.mono hm'); (try (have hq0 : hm' = Mem.le_refl _ := rfl; clear hq0 hm'))) | ((with_reducible apply At.lit fd []); exact inferInstance; (iterate 7 exact rfl); intro _) | ((with_reducible apply At.apW (f := fd)); exact rfl; exact rfl; exact (by repeat constructor); exact inferInstance; exact zrdl; (iterate 4 exact rfl); exact zom; exact rfl; intro p7 c7) | ((with_reducible first | apply At.c1 | apply At.c0); exact rfl; exact rfl; exact a3 _ zml _ _; exact ztk; kernel_rfl; rintro v' m' B' hm' ⟨rfl, p8, c8, rfl, sl8⟩; (try replace sl0 := sl0.mono hm'); (try replace sl1 := sl1.mono hm'); (try replace sl2 := sl2.mono hm'); (try replace sl5 := sl5.mono hm'); (try replace sl6 := sl6.mono hm'); (try replace sl8 := sl8.mono hm'); (try replace sl9 := sl9.mono hm'); (try (have hq0 : hm' = Mem.le_refl _ := rfl; clear hq0 hm'))) | ((with_reducible first | apply AtM1.cr | apply AtQ.cr | apply At.cr); exact rfl; exact rfl; exact fun _ hmm => a4 _ (Mem.le_trans zml hmm); exact ztk; kernel_rfl) | ((with_reducible first | apply AtM1.cr | apply AtQ.cr | apply At.cr); exact rfl; exact rfl; exact fun _ hmm => sameC _ _ o.length o _ _ o.length o true rfl rfl (by omega) (by omega) (decide_eq_true rfl) (sl5.mono hmm) (sl6.mono hmm); exact ztk; kernel_rfl) | ((with_reducible first | apply AtM1.cr | apply AtQ.cr | apply At.cr); exact rfl; exact rfl; exact fun _ hmm => sameC _ _ o.length o _ _ o.length o true rfl rfl (by omega) (by omega) (decide_eq_true rfl) (sl5.mono hmm) (sl8.mono hmm); exact ztk; kernel_rfl) | ((with_reducible first | apply At.c1 | apply At.c0); exact rfl; exact rfl; exact a5 _ zml _ _ sl5; exact ztk; kernel_rfl; rintro v' m' B' hm' ⟨rfl, p9, c9, rfl, sl9⟩; (try replace sl0 := sl0.mono hm'); (try replace sl1 := sl1.mono hm'); (try replace sl2 := sl2.mono hm'); (try replace sl5 := sl5.mono hm'); (try replace sl6 := sl6.mono hm'); (try replace sl8 := sl8.mono hm'); (try replace sl9 := sl9.mono hm'); (try (have hq0 : hm' = Mem.le_refl _ := rfl; clear hq0 hm'))) | ((with_reducible first | apply AtM1.cr | apply AtQ.cr | apply At.cr); exact rfl; exact rfl; exact fun _ hmm => sameC _ _ o.length o _ _ o.length o true rfl rfl (by omega) (by omega) (decide_eq_true rfl) (sl5.mono hmm) (sl9.mono hmm); exact ztk; kernel_rfl) | ((with_reducible apply At.alloc (d := 19)); exact rfl; exact rfl; intro b19) | ((with_reducible apply At.alloc (d := 21)); exact rfl; exact rfl; intro b21) | (refine zsp ?_ ?_ <;> (intro hc; (try simp only [zhcs, reduceCtorEq] at hc); (try (exfalso; first | (first | omega | exact absurd rfl hc | exact hc rfl) | contradiction | omega | exact absurd rfl hc | exact absurd (by decide) hc))))))
    have hz' : Ra.TZ m' := hz.mono zml
    have q1' := fun h m2 (h2 : m'.le m2) => q1 h m2 (Mem.le_trans zml h2)
    have q2' := fun h m2 (h2 : m'.le m2) => q2 h m2 (Mem.le_trans zml h2)
    clear a1 a2 a3 a4 a5 q1 q2 hl hz e1 hi hb
    (refine At.loopk (σ := Nat) [0, 8, 131] (fun s F0 => (132, .int .i64 (s : Int)) :: F0) (fun s => m') (fun s => Rest) (fun s => s ≤ o.length) (fun s => o.length - s) 0 (by rfl) ?_ zsubs zml zente ?_)
    · exact Nat.zero_le _
    rintro j hj
    by_cases hjo : j < o.length
    · cases j with
      | zero =>
        (repeat' (first | refine zss ?_ | refine zsM ?_ | ((with_reducible apply At.alloc (d := 19)); exact rfl; exact rfl; intro b19) | ((with_reducible apply At.alloc (d := 21)); exact rfl; exact rfl; intro b21) | (refine zsp ?_ ?_ <;> (intro hc; (try simp only [zhcs, reduceCtorEq] at hc); (try (exfalso; first | omega | contradiction | omega | exact absurd rfl hc | exact absurd (by decide) hc))))))
        all_goals ((with_reducible refine At.reachk (1) ?_ ?_ ?_ ?_); exact zsubs; exact zml; exact zente; exact ⟨hjo, by omega⟩)
      | succ j =>
        have hw3 : IntKind.wrap .i64 (((j + 1 : Nat) : Int) - 1) = (j : Int) := by rw [show ((j + 1 : Nat) : Int) - 1 = (j : Int) by omega]; exact IntWalk.i64_in _ (by omega)
        have hx1 := hso _ (Ls.mem! hjo)
        have hx0 := hso _ (Ls.mem! (show j < o.length by omega))
        have k5 := fun (m2 : Mem) (h2 : m'.le m2) => Ra.lessT (m := m2) (hz'.mono h2) o[j + 1]!.1 o[j + 1]!.2 o[j]!.1 o[j]!.2 (sm_in hx1).1 (sm_in hx1).2 (sm_in hx0).1 (sm_in hx0).2
        rw [les_sm hx1 hx0, decide_eq_false (Nat.not_lt.2 (of_decide_eq_true (up_at hup hjo)))] at k5
        clear hx1 hx0 hso hup q1' q2'
        (repeat' (first | refine zss ?_ | ((first | (with_reducible first | apply At.val | apply AtQ.val)); (exact pr_sub (by rfl) (by rfl) hw3); exact rfl) | refine zsM ?_ | ((with_reducible first | apply AtM1.cr | apply AtQ.cr | apply At.cr); exact rfl; exact rfl; exact fun _ hmm => k5 _ hmm; exact ztk; kernel_rfl) | ((with_reducible apply At.alloc (d := 19)); exact rfl; exact rfl; intro b19) | ((with_reducible apply At.alloc (d := 21)); exact rfl; exact rfl; intro b21) | (refine zsp ?_ ?_ <;> (intro hc; (try simp only [zhcs, reduceCtorEq] at hc); (try (exfalso; first | omega | contradiction | omega | exact absurd rfl hc | exact absurd (by decide) hc))))))
        all_goals ((with_reducible refine At.reachk ((j + 2)) ?_ ?_ ?_ ?_); exact zsubs; exact zml; exact zente; exact ⟨hjo, by omega⟩)
    · by_cases h0 : 0 < l.length
      · have q1 := q1' h0
        have q2 := q2' h0
        have hw4 : IntKind.wrap .i64 ((o.length : Int) - 1) = ((o.length - 1 : Nat) : Int) := by rw [show (o.length : Int) - 1 = ((o.length - 1 : Nat) : Int) by omega]; exact IntWalk.i64_in _ (by omega)
        clear hso hup q1' q2'
        (repeat' (first | refine zss ?_ | ((first | (with_reducible first | apply At.val | apply AtQ.val)); (first | exact pr_sub (by rfl) (by rfl) hw4 | exact pr_feq (a := o[0]!) (b := o[0]!) (by rfl) (by rfl) | exact pr_feq (a := o[o.length - 1]!) (b := o[o.length - 1]!) (by rfl) (by rfl)); exact rfl) | refine zsM ?_ | ((with_reducible first | apply AtM1.cr | apply AtQ.cr | apply At.cr); exact rfl; exact rfl; exact fun _ hmm => q1 _ hmm; exact ztk; kernel_rfl) | ((with_reducible first | apply AtM1.cr | apply AtQ.cr | apply At.cr); exact rfl; exact rfl; exact fun _ hmm => q2 _ hmm; exact ztk; kernel_rfl) | ((with_reducible apply At.alloc (d := 19)); exact rfl; exact rfl; intro b19) | ((with_reducible apply At.alloc (d := 21)); exact rfl; exact rfl; intro b21) | (refine zsp ?_ ?_ <;> (intro hc; (try simp only [zhcs, reduceCtorEq] at hc); (try (exfalso; first | (first | omega | exact absurd rfl hc | exact hc rfl) | contradiction | omega | exact absurd rfl hc | exact absurd (by decide) hc))))))
        all_goals ((with_reducible apply At.retB1 (B := [])); exact rfl; exact rfl; exact zml; exact zkp; exact ⟨by first | rfl | (simp [andL]; done), rfl⟩)
      · clear hso hup q1' q2'
        (repeat' (first | refine zss ?_ | refine zsM ?_ | ((with_reducible apply At.alloc (d := 19)); exact rfl; exact rfl; intro b19) | ((with_reducible apply At.alloc (d := 21)); exact rfl; exact rfl; intro b21) | (refine zsp ?_ ?_ <;> (intro hc; (try simp only [zhcs, reduceCtorEq] at hc); (try (exfalso; first | omega | contradiction | omega | exact absurd rfl hc | exact absurd (by decide) hc))))))
        all_goals ((with_reducible apply At.retB1 (B := [])); exact rfl; exact rfl; exact zml; exact zkp; exact ⟨rfl, rfl⟩)
end Qu
namespace QuantOrderCardL
open Go.ChangeShapes Go.WideShapes Go.ChangeAt Go.RowKit
open Go.ChangeMaps (open_string shut_string)
theorem own : ownKnob Tryd.prog.godebug = none := by kernel_rfl
theorem laidOut : laidOutB Tryd.prog = true := by kernel_rfl
set_option maxRecDepth 100000 in
theorem door_met (os : Os) (args : Array Value) : laidMetH Tryd.prog Rows.quantOrderRow.laid ((World.doorLaid Tryd.prog 400 os).forCall (fun _ _ => 0) ⟨#[], args, []⟩).memory :=
  laidMetH_of_parts3 (fuel := 8) (laidMet_of_run' 8 (by kernel_rfl) (by kernel_rfl)) (by kernel_rfl) (by kernel_rfl)
set_option maxRecDepth 100000 in
theorem lifted (os : Os) (started : os.Started) (H : Type) (enc : TypeId × Value → H) :
    ReturnsInHanded {} Tryd.checked os 5 .any (fun w args => (Rows.quantOrderSpec.pre enc Tryd.prog Tryd.f5 [] false w args ∧ laidMetH Tryd.prog Rows.quantOrderRow.laid w) ∧ sizedMet enc Tryd.prog Tryd.f5 (OpenSpec.ofChange Rows.quantOrderSpec) false w args)
      (Rows.quantOrderSpec.post enc Tryd.prog Tryd.f5 false true false false) := by
  refine returnsInHanded_of_change_and (C := Tryd.checked) (X := fun w _ => laidMetH Tryd.prog Rows.quantOrderRow.laid w) (fun _ _ _ hh h => h.of_heap hh) own started (by kernel_rfl) Tryd.func5
    (ChangeSpec.witness_shaped (enc := enc) (C := Tryd.checked) (os := os) (X := fun w _ => laidMetH Tryd.prog Rows.quantOrderRow.laid w) false (World.doorLaid Tryd.prog 400 os) #[.slice none 0 0, .int .i64 0] 8 rfl (World.shaped_of_RefB (by kernel_rfl) (by kernel_rfl)) (by kernel_rfl) (by kernel_rfl) (by kernel_rfl) (door_met os _)) ?_
  intro W base args ds gs before hval0 hW hcnd _ hL _
  have hval : ∀ (j : Nat) t v, Tryd.f5.params[j]? = some t → args[j]? = some v → Value.okWide Tryd.prog W .any base t v := hval0
  have hW' := hW
  obtain ⟨p, q, hA0, hV, rfl, hfz, hnd⟩ := hW
  have hA : DataW.TrodAll enc Tryd.prog W 0 (fun _ => true) true Tryd.f5.params.toList args.toList ds p := hA0
  rw [Tryd.params5] at hA hval
  obtain ⟨rfl, rfl⟩ := trodVars_none hV
  have hlt : ∀ x ∈ p, x.block < W.heap.size := fun x hx => hW'.lt x (by simpa using hx)
  have hback := fun (W' : World) (bel : Below W.heap.size W W') => trodAll_below laidOut bel _ _ _ _ (by kernel_rfl) hA hlt
  obtain ⟨v0, vs0, d0, ds0, p0, q0, hargs, rfl, rfl, h0, r0⟩ := trodAll_cons hA
  obtain ⟨v1, vs1, d1, ds1, p1, q1, rfl, rfl, rfl, h1, r1⟩ := trodAll_cons r0
  obtain ⟨rfl, rfl, rfl⟩ := trodAll_nil r1
  obtain rfl : args = #[v0, v1] := by cases args; simp_all
  obtain ⟨p0, c0, a0, rfl, s0, w0⟩ := open_sl_arg (f := Qu.fd) (sz := 4) inferInstance (Qu.In2) Tryd.underlying22 (by rfl) (dec_flat' [.int .u64, .int .u64, .int .u64, .int .u64] (by kernel_rfl) Qu.dec_frac) (okWide_slice Tryd.underlying22 (hval 0 22 v0 rfl rfl)) h0
  obtain ⟨a1, rfl, rfl, rfl, w1⟩ := open_int Tryd.underlying3 (hval 1 3 v1 rfl rfl) h1
  refine (law_calls (Ct.mono (Qu.orderL (m := memOf W) (Qu.tz_of hL (by kernel_rfl)) p0 c0 a0 a1 w0 (bounds_i64 w1) s0) fun v m' B _ h => h.1)).mono fun e W' ⟨he, bel⟩ => ?_
  subst he
  exact ⟨_, rfl, _, _, _, [], _, [], hW', trodAll_mk1 (shut_bool Tryd.underlying4 _), hback W' bel, rfl, bel.frame _, fun h => by cases h⟩
theorem over : Rows.quantOrderRow.holds Tryd.pinned (OpenSpec.ofChange Rows.quantOrderSpec) :=
  OpenClaim.holds_of_wide 5 Tryd.f5 rfl rfl rfl rfl rfl rfl rfl ⟨rfl, rfl, rfl, rfl, rfl⟩ rfl rfl rfl rfl rfl (by kernel_rfl) Tryd.func5 (by kernel_rfl)
    (of_decide_eq_true (by kernel_rfl)) (by unfold Func.isWrapper; first | (rw [if_pos (by decide +kernel)]; kernel_rfl) | (rw [if_neg (by decide +kernel)]; exact ⟨rfl, rfl⟩))
    (fun os started H enc _ => lifted os started H enc)
theorem proved : Rows.QuantOrderCardSaid :=
  Claim7.holds_tied_plain_at .later [] Rows.quantOrderCard.laidKinds true Rows.quantOrderCard.stood.harness Rows.quantOrderCard.stood.looks
    over (fun _ h => by cases h) (by kernel_rfl) (fun _ h => by cases h) quantOrder_row_tie rfl ⟨rfl, rfl⟩ (by kernel_rfl) rfl
    (fun f fn hf hfn => by
      obtain rfl : f = 5 := Option.some.inj ((show Tryd.prog.funcNamed Tryd.f5.name = some 5 by kernel_rfl).symm.trans hf) |>.symm
      obtain rfl : fn = Tryd.f5 := (Option.some.inj (Tryd.func5.symm.trans hfn)).symm
      exact ⟨by kernel_rfl, fun j t ht => by
        rw [Tryd.params5] at ht
        have hm := Array.mem_of_getElem? ht
        have hall : ((Tryd.f5.params).all fun u => !Tryd.prog.wantsStandIn u) = true := by kernel_rfl
        rw [Tryd.params5] at hall
        exact (show Tryd.prog.wantsStandIn t = false by simpa using Array.all_eq_true'.1 hall t hm)⟩)
    (by kernel_rfl)
end QuantOrderCardL
end Go.Proofs.YtmnlmmbfjfgfeaaDoor

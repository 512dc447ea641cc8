/- The contracts of Sort, for few labels. -/
import Derived.Test.YtjncahmbllmllaaLbT
import Derived.Test.YtjncahmbllmllaaLbQ
import Derived.Test.YtjncahmbllmllaaNmA
import Derived.Test.YtjncahmbllmllaaJT
set_option linter.unusedSimpArgs false
set_option linter.unusedVariables false
set_option linter.unusedSectionVars false
set_option maxRecDepth 20000
set_option maxHeartbeats 4000000
namespace Go.Proofs.Ytjncahmbllmllaa
open Go Go.J
attribute [local irreducible] At AtQ AtM AtM1 PR Ct Pu Rd Res.blk Res.own Res.ex RVs RV
namespace Lb
abbrev oL (p : Option Addr) (c : Nat) (l : List Lab) : Res := .own cells 2 29 p c l
abbrev fnS : Value := .func (.func 46) #[] #[]
theorem sort1 {m : Mem} (a b : Lab) (r : Int) (h : Nm.cmpS a.n b.n = r) : Ct Try.prog 46 #[a.val, b.val] m [] (fun v m' B => v = .int .i64 r ∧ m = m' ∧ B = []) := by
  subst h
  refine Ct.enterV (by rfl) Try.func46 rfl Try.ntmps46 rfl (fun w0 Rest => ?_)
  (repeat' (first | refine zss ?_ | refine zs0 ?_ | ((with_reducible first | apply AtM1.callp | apply AtQ.callp | apply At.callp); kernel_rfl; exact rfl; exact rfl; exact Nm.compare _ _) | ((with_reducible apply At.box (d := 2)); exact rfl; exact rfl; exact rfl; intro b2) | ((with_reducible apply At.box (d := 3)); exact rfl; exact rfl; exact rfl; intro b3) | (refine zsp ?_ ?_ <;> (intro hc; (try simp only [zhcs, reduceCtorEq] at hc); (try (exfalso; first | contradiction | omega | exact absurd rfl hc | exact absurd (by decide) hc))))))
  all_goals ((with_reducible apply At.retB1 (B := [])); exact rfl; exact rfl; exact zml; exact zkp; exact ⟨rfl, rfl, rfl⟩)
set_option maxHeartbeats 1000000 in
theorem insX0 {m : Mem} (p : Option Addr) (c : Nat) (l : List Lab) (hl : l.length ≤ 1000000) :
    Ct Try.prog 60 #[.slice p l.length c, .int .i64 0, .int .i64 (l.length : Int), fnS] m [oL p c (srtL (l.take 1) ++ l.drop 1)] (fun v m' B => v = .tuple #[] ∧ m = m' ∧ B = [oL p c (srtL l)]) := by
  refine Ct.enterV (by rfl) Try.func60 rfl Try.ntmps60 rfl (fun w0 Rest => ?_)
  (repeat' (first | refine zss ?_ | refine zsO ?_ | (refine zsp ?_ ?_ <;> (intro hc; (try simp only [zhcs, reduceCtorEq] at hc); (try (exfalso; first | contradiction | omega | exact absurd rfl hc | exact absurd (by decide) hc))))))
  (refine At.loopk (σ := Nat) [0, 1, 2, 3] (fun s F0 => (8, .int .i64 ((s + 1 : Nat) : Int)) :: F0) (fun s => m) (fun s => oL p c (srtL (l.take (s + 1)) ++ l.drop (s + 1)) :: Rest) (fun s => True) (fun s => l.length - s) 0 (by rfl) ?_ zsubs zml zente ?_)
  · trivial
  rintro i -
  by_cases h : i + 1 < l.length
  · have hD : srtL (l.take (i + 1)) ++ l.drop (i + 1) = way (srtL (l.take (i + 1))) l[i + 1]! (l.drop (i + 1 + 1)) (i + 1) := by
      have hP : (srtL (l.take (i + 1))).length = i + 1 := by rw [len_srt, List.length_take]; omega
      have := way_top (P := srtL (l.take (i + 1))) (x := l[i + 1]!) (R := l.drop (i + 1 + 1))
      rw [hP] at this
      rw [this, ← Ls.drop_cons h]
    have hN := srt_snoc h
    have hP : (srtL (l.take (i + 1))).length = i + 1 := by rw [len_srt, List.length_take]; omega
    have hR : (l.drop (i + 1 + 1)).length = l.length - (i + 1 + 1) := List.length_drop ..
    rw [hD]
    generalize srtL (l.take (i + 1)) = P at hN hP
    generalize l[i + 1]! = x at hN
    obtain ⟨Z, eZ⟩ : ∃ Z, srtL (l.take (i + 1 + 1)) ++ l.drop (i + 1 + 1) = Z := ⟨_, rfl⟩
    have hC : ∀ j, atF P x.n P.length = j → way P x (l.drop (i + 1 + 1)) j = Z := fun j hj => by rw [way_end hj, ← hN, eZ]
    generalize l.drop (i + 1 + 1) = R at hR hC
    (repeat' (first | refine zss ?_ | refine zsO ?_ | (refine zsp ?_ ?_ <;> (intro hc; (try simp only [zhcs, reduceCtorEq] at hc); (try (exfalso; first | omega | contradiction | omega | exact absurd rfl hc | exact absurd (by decide) hc))))))
    (refine At.loopk (σ := Nat) [0, 1, 2, 3, 8] (fun s F0 => (9, .int .i64 (s : Int)) :: F0) (fun s => m) (fun s => oL p c (way P x R s) :: Rest) (fun s => s ≤ P.length ∧ atF P x.n P.length = atF P x.n s) (fun s => s) (i + 1) (by rfl) ?_ zsubs zml zente ?_)
    · exact ⟨by omega, by rw [hP]⟩
    rintro j ⟨hj, ha⟩
    have hlw : (way P x R j).length = l.length := by rw [len_way]; omega
    cases j with
    | zero =>
      rw [hC 0 ha]
      (repeat' (first | ((with_reducible apply At.mixed (id := 4) 17 (.q 0 (.q 1 (.q 2 (.q 3 (.q 4 (.q 5 (.q 6 (.q 7 (.q 8 (.q 9 (.q 10 (.q 11 (.q 12 (.q 13 (.x 14 (.q 15 (.q 16 .done)))))))))))))))))); exact rfl; kernel_rfl; kernel_rfl; kernel_rfl) | ((with_reducible apply At.mixed (id := 6) 18 (.q 0 (.q 1 (.q 2 (.q 3 (.q 4 (.q 5 (.q 6 (.q 7 (.q 8 (.q 9 (.q 10 (.q 11 (.q 12 (.q 13 (.q 14 (.x 15 (.q 16 (.x 17 .done))))))))))))))))))); exact rfl; kernel_rfl; kernel_rfl; kernel_rfl) | refine zsx ?_ | refine zss ?_ | ((with_reducible apply AtM.bo); exact rfl; exact rfl; exact rfl) | refine zsO ?_ | refine zxO ?_ | (refine zsp ?_ ?_ <;> (intro hc; (try simp only [zhcs, reduceCtorEq] at hc); (try (exfalso; first | omega | contradiction | omega | exact absurd rfl hc | exact absurd (by decide) hc))))))
      all_goals rw [← eZ]
      all_goals ((with_reducible refine At.reachk ((i + 1)) ?_ ?_ ?_ ?_); exact zsubs; exact zml; exact zente; exact ⟨trivial, by omega⟩)
    | succ k =>
      have hw : IntKind.wrap .i64 (((k + 1 : Nat) : Int) - 1) = (k : Int) := by rw [show ((k + 1 : Nat) : Int) - 1 = (k : Int) by omega]; exact IntWalk.i64_in _ (by omega)
      have hx := way_x (P := P) (R := R) (x := x) hj
      have hp := way_p (P := P) (R := R) (x := x) (j := k) (by omega)
      cases e : ltB x.n P[k]!.n with
      | true =>
        have hcm := fun (m : Mem) => sort1 (m := m) ((way P x R (k + 1))[k + 1]!) ((way P x R (k + 1))[k]!) (-1) (by rw [hx, hp]; exact Nm.cmpS_lt e)
        have hsw : ((way P x R (k + 1)).set (k + 1) ((way P x R (k + 1))[k]!)).set k ((way P x R (k + 1))[k + 1]!) = way P x R k := by rw [hx, hp]; exact way_sw (by omega)
        generalize way P x R (k + 1) = W at hlw hcm hsw
        (repeat' (first | ((with_reducible apply At.mixed (id := 4) 17 (.q 0 (.q 1 (.q 2 (.q 3 (.q 4 (.q 5 (.q 6 (.q 7 (.q 8 (.q 9 (.q 10 (.q 11 (.q 12 (.q 13 (.x 14 (.q 15 (.q 16 .done)))))))))))))))))); exact rfl; kernel_rfl; kernel_rfl; kernel_rfl) | ((with_reducible apply At.mixed (id := 6) 18 (.q 0 (.q 1 (.q 2 (.q 3 (.q 4 (.q 5 (.q 6 (.q 7 (.q 8 (.q 9 (.q 10 (.q 11 (.q 12 (.q 13 (.q 14 (.x 15 (.q 16 (.x 17 .done))))))))))))))))))); exact rfl; kernel_rfl; kernel_rfl; kernel_rfl) | refine zsx ?_ | refine zss ?_ | ((with_reducible apply AtM.bo); exact rfl; exact rfl; exact rfl) | ((first | (with_reducible first | apply At.val | apply AtQ.val) | ((with_reducible first | apply AtM1.valz | apply AtM1.val); exact rfl) | ((with_reducible apply AtM1.val); exact rfl)); (exact pr_sub (by rfl) (by rfl) hw); exact rfl) | refine zsO ?_ | refine zxO ?_ | ((with_reducible apply At.callf); exact rfl; kernel_rfl; exact rfl; exact rfl; exact hcm _; exact ztk; rintro v' m' B' hm' ⟨rfl, rfl, rfl⟩; skip) | ((with_reducible apply At.storeW (f := cells) (x' := (W[k]!))); (iterate 3 exact rfl); exact (by repeat constructor); exact rfl; exact inferInstance; exact zom; (iterate 3 exact rfl)) | ((with_reducible apply At.storeW (f := cells) (x' := (W[k + 1]!))); (iterate 3 exact rfl); exact (by repeat constructor); exact rfl; exact inferInstance; exact zom; (iterate 3 exact rfl)) | (refine zsp ?_ ?_ <;> (intro hc; (try simp only [zhcs, reduceCtorEq] at hc); (try (exfalso; first | omega | contradiction | omega | exact absurd rfl hc | exact absurd (by decide) hc))))))
        all_goals rw [hsw]
        all_goals ((with_reducible refine At.reachk (k) ?_ ?_ ?_ ?_); exact zsubs; exact zml; exact zente; exact ⟨⟨by omega, by rw [ha, atF_dn e]⟩, by omega⟩)
      | false =>
        obtain ⟨r, hr⟩ : ∃ r, Nm.cmpS x.n P[k]!.n = r := ⟨_, rfl⟩
        have hr0 : 0 ≤ r := by rw [← hr]; exact Nm.cmpS_ge e
        have hcm := fun (m : Mem) => sort1 (m := m) ((way P x R (k + 1))[k + 1]!) ((way P x R (k + 1))[k]!) r (by rw [hx, hp]; exact hr)
        have hCe := hC (k + 1) (by rw [ha, atF_st e])
        rw [hCe] at hcm hlw ⊢
        (repeat' (first | ((with_reducible apply At.mixed (id := 4) 17 (.q 0 (.q 1 (.q 2 (.q 3 (.q 4 (.q 5 (.q 6 (.q 7 (.q 8 (.q 9 (.q 10 (.q 11 (.q 12 (.q 13 (.x 14 (.q 15 (.q 16 .done)))))))))))))))))); exact rfl; kernel_rfl; kernel_rfl; kernel_rfl) | ((with_reducible apply At.mixed (id := 6) 18 (.q 0 (.q 1 (.q 2 (.q 3 (.q 4 (.q 5 (.q 6 (.q 7 (.q 8 (.q 9 (.q 10 (.q 11 (.q 12 (.q 13 (.q 14 (.x 15 (.q 16 (.x 17 .done))))))))))))))))))); exact rfl; kernel_rfl; kernel_rfl; kernel_rfl) | refine zsx ?_ | refine zss ?_ | ((with_reducible apply AtM.bo); exact rfl; exact rfl; exact rfl) | ((first | (with_reducible first | apply At.val | apply AtQ.val) | ((with_reducible first | apply AtM1.valz | apply AtM1.val); exact rfl) | ((with_reducible apply AtM1.val); exact rfl)); (exact pr_sub (by rfl) (by rfl) hw); exact rfl) | refine zsO ?_ | refine zxO ?_ | ((with_reducible apply At.callf); exact rfl; kernel_rfl; exact rfl; exact rfl; exact hcm _; exact ztk; rintro v' m' B' hm' ⟨rfl, rfl, rfl⟩; skip) | (refine zsp ?_ ?_ <;> (intro hc; (try simp only [zhcs, reduceCtorEq] at hc); (try (exfalso; first | omega | contradiction | omega | exact absurd rfl hc | exact absurd (by decide) hc))))))
        all_goals rw [← eZ]
        all_goals ((with_reducible refine At.reachk ((i + 1)) ?_ ?_ ?_ ?_); exact zsubs; exact zml; exact zente; exact ⟨trivial, by omega⟩)
  · have hE : srtL (l.take (i + 1)) ++ l.drop (i + 1) = srtL l := by rw [List.take_of_length_le (by omega), List.drop_of_length_le (by omega), List.append_nil]
    rw [hE]
    (repeat' (first | refine zss ?_ | refine zsO ?_ | (refine zsp ?_ ?_ <;> (intro hc; (try simp only [zhcs, reduceCtorEq] at hc); (try (exfalso; first | omega | contradiction | omega | exact absurd rfl hc | exact absurd (by decide) hc))))))
    all_goals ((first | (with_reducible apply At.retB0 (B := [oL p c (srtL l)])) | (with_reducible apply At.retR0 (B := [oL p c (srtL l)]))); exact rfl; exact zml; exact zkp; exact ⟨rfl, rfl, rfl⟩)
theorem one_srt (l : List Lab) : srtL (l.take 1) ++ l.drop 1 = l := by
  cases l with
  | nil => rfl
  | cons x l => rfl
theorem insX {m : Mem} (p : Option Addr) (c : Nat) (l : List Lab) (hl : l.length ≤ 1000000) :
    Ct Try.prog 60 #[.slice p l.length c, .int .i64 0, .int .i64 (l.length : Int), fnS] m [oL p c l] (fun v m' B => v = .tuple #[] ∧ m = m' ∧ B = [oL p c (srtL l)]) := by
  have h := insX0 (m := m) p c l hl
  rwa [one_srt] at h
theorem stableX {m : Mem} (p : Option Addr) (c : Nat) (l : List Lab) (hl : l.length ≤ 16) :
    Ct Try.prog 56 #[.slice p l.length c, .int .i64 (l.length : Int), fnS] m [oL p c l] (fun v m' B => v = .tuple #[] ∧ m = m' ∧ B = [oL p c (srtL l)]) := by
  have hin := insX (m := m) p c l (by omega)
  refine Ct.enterV (by rfl) Try.func56 rfl Try.ntmps56 rfl (fun w0 Rest => ?_)
  (repeat' (first | refine zss ?_ | refine zsO ?_ | (refine zsp ?_ ?_ <;> (intro hc; (try simp only [zhcs, reduceCtorEq] at hc); (try (exfalso; first | contradiction | omega | exact absurd rfl hc | exact absurd (by decide) hc))))))
  (refine At.loopk (σ := Unit) [0, 1, 2, 6] (fun s F0 => (7, .int .i64 0) :: (8, .int .i64 20) :: F0) (fun s => m) (fun s => oL p c l :: Rest) (fun s => True) (fun s => 0) () (by rfl) ?_ zsubs zml zente ?_)
  · trivial
  rintro _ -
  (repeat' (first | refine zss ?_ | refine zsO ?_ | ((with_reducible first | apply At.c1 | apply At.c0); exact rfl; exact rfl; exact hin; exact ztk; kernel_rfl; rintro v' m' B' hm' ⟨rfl, rfl, rfl⟩; skip; (try (have hq0 : hm' = Mem.le_refl _ := rfl; clear hq0 hm'))) | (refine zsp ?_ ?_ <;> (intro hc; (try simp only [zhcs, reduceCtorEq] at hc); (try (exfalso; first | omega | contradiction | omega | exact absurd rfl hc | exact absurd (by decide) hc))))))
  (refine At.loopk (σ := Unit) [0, 1, 2] (fun s F0 => (6, .int .i64 20) :: F0) (fun s => m) (fun s => oL p c (srtL l) :: Rest) (fun s => True) (fun s => 0) () (by rfl) ?_ zsubs zml zente ?_)
  · trivial
  rintro _ -
  (repeat' (first | refine zss ?_ | refine zsO ?_ | (refine zsp ?_ ?_ <;> (intro hc; (try simp only [zhcs, reduceCtorEq] at hc); (try (exfalso; first | omega | contradiction | omega | exact absurd rfl hc | exact absurd (by decide) hc))))))
  all_goals ((first | (with_reducible apply At.retB0 (B := [oL p c (srtL l)])) | (with_reducible apply At.retR0 (B := [oL p c (srtL l)]))); exact rfl; exact zml; exact zkp; exact ⟨rfl, rfl, rfl⟩)
theorem sortfX {m : Mem} (p : Option Addr) (c : Nat) (l : List Lab) (hl : l.length ≤ 16) :
    Ct Try.prog 45 #[.slice p l.length c, fnS] m [oL p c l] (fun v m' B => v = .tuple #[] ∧ m = m' ∧ B = [oL p c (srtL l)]) := by
  have hin := stableX (m := m) p c l hl
  refine Ct.enterV (by rfl) Try.func45 rfl Try.ntmps45 rfl (fun w0 Rest => ?_)
  (repeat' (first | refine zss ?_ | refine zsO ?_ | ((with_reducible first | apply At.c1 | apply At.c0); exact rfl; exact rfl; exact hin; exact ztk; kernel_rfl; rintro v' m' B' hm' ⟨rfl, rfl, rfl⟩; skip; (try (have hq0 : hm' = Mem.le_refl _ := rfl; clear hq0 hm'))) | (refine zsp ?_ ?_ <;> (intro hc; (try simp only [zhcs, reduceCtorEq] at hc); (try (exfalso; first | contradiction | omega | exact absurd rfl hc | exact absurd (by decide) hc))))))
  all_goals ((first | (with_reducible apply At.retB0 (B := [oL p c (srtL l)])) | (with_reducible apply At.retR0 (B := [oL p c (srtL l)]))); exact rfl; exact zml; exact zkp; exact ⟨rfl, rfl, rfl⟩)
theorem clone {m : Mem} (p : Option Addr) (c : Nat) (l : List Lab) (hl : l.length ≤ 1000000) (sl0 : Sl m cells 2 p c l) :
    Ct Try.prog 44 #[.slice p l.length c] m [] (fun v m' B => m = m' ∧ ∃ p2 c2, v = .slice p2 l.length c2 ∧ B = [oL p2 c2 l]) := by
  cases p with
  | none =>
    have h0 : l = [] := List.eq_nil_of_length_eq_zero (by have := sl0.nil rfl; have := sl0.le; omega)
    subst h0
    refine Ct.enterV (by rfl) Try.func44 rfl Try.ntmps44 rfl (fun w0 Rest => ?_)
    (repeat' (first | refine zss ?_ | ((first | (with_reducible first | apply At.val | apply AtQ.val)); (exact pr_sleql (by rfl) (by rfl) (by rfl)); exact rfl) | refine zsM ?_ | (refine zsp ?_ ?_ <;> (intro hc; (try simp only [zhcs, reduceCtorEq] at hc); (try (exfalso; first | contradiction | omega | exact absurd rfl hc | exact absurd (by decide) hc))))))
    all_goals refine At.own_nil cells 2 29 ?_
    all_goals ((with_reducible apply At.retB1 (B := [oL _ _ _])); exact rfl; exact rfl; exact zml; exact zkp; exact ⟨rfl, _, _, rfl, rfl⟩)
  | some a =>
    refine Ct.enterV (by rfl) Try.func44 rfl Try.ntmps44 rfl (fun w0 Rest => ?_)
    (repeat' (first | refine zss ?_ | ((first | (with_reducible first | apply At.val | apply AtQ.val)); (exact pr_sleql (by rfl) (by rfl) (by rfl)); exact rfl) | refine zsM ?_ | ((with_reducible apply At.lit cells ([] : List Lab)); exact inferInstance; (iterate 7 exact rfl); intro _) | ((with_reducible apply At.apW (f := cells)); exact rfl; exact rfl; exact (by repeat constructor); exact inferInstance; exact zrdl; (iterate 4 exact rfl); exact zom; exact rfl; intro _ _) | (refine zsp ?_ ?_ <;> (intro hc; (try simp only [zhcs, reduceCtorEq] at hc); (try (exfalso; first | contradiction | omega | exact absurd rfl hc | exact absurd (by decide) hc))))))
    all_goals ((with_reducible apply At.retB1 (B := [oL _ _ _])); exact rfl; exact rfl; exact zml; exact zkp; exact ⟨rfl, _, _, rfl, rfl⟩)
theorem sortX0 {m : Mem} (p : Option Addr) (c : Nat) (l : List Lab) (hl : l.length ≤ 16) (sl0 : Sl m cells 2 p c l) :
    Ct Try.prog 22 #[.slice p l.length c] m [] (fun v m' B => m = m' ∧ ∃ p2 c2, v = .slice p2 l.length c2 ∧ B = [oL p2 c2 (srtL l)]) := by
  have h1 := fun (m : Mem) p c => sortfX (m := m) p c l hl
  refine Ct.enterV (by rfl) Try.func22 rfl Try.ntmps22 rfl (fun w0 Rest => ?_)
  (repeat' (first | refine zss ?_ | refine zsO ?_ | ((with_reducible first | apply At.c1 | apply At.c0); exact rfl; exact rfl; exact clone p c l (by omega) sl0; exact ztk; kernel_rfl; rintro v' m' B' hm' ⟨rfl, p2, c2, rfl, rfl⟩; (try replace sl0 := sl0.mono hm'); (try (have hq0 : hm' = Mem.le_refl _ := rfl; clear hq0 hm'))) | ((with_reducible first | apply At.c1 | apply At.c0); exact rfl; exact rfl; exact h1 _ p2 c2; exact ztk; kernel_rfl; rintro v' m' B' hm' ⟨rfl, rfl, rfl⟩; (try replace sl0 := sl0.mono hm'); (try (have hq0 : hm' = Mem.le_refl _ := rfl; clear hq0 hm'))) | (refine zsp ?_ ?_ <;> (intro hc; (try simp only [zhcs, reduceCtorEq] at hc); (try (exfalso; first | contradiction | omega | exact absurd rfl hc | exact absurd (by decide) hc))))))
  all_goals ((with_reducible apply At.retB1 (B := [oL _ _ _])); exact rfl; exact rfl; exact zml; exact zkp; exact ⟨rfl, _, _, rfl, rfl⟩)
/-- labels, that stay -/
def PostL (l : List Lab) : Value → Mem → List Res → Prop := fun v m' B => B = [] ∧ ∃ p c, v = .slice p l.length c ∧ Sl m' cells 2 p c l
theorem sortX {m : Mem} (p : Option Addr) (c : Nat) (l : List Lab) (hl : l.length ≤ 16) (sl0 : Sl m cells 2 p c l) :
    Ct Try.prog 22 #[.slice p l.length c] m [] (PostL (srtL l)) :=
  Ct.slice (R := fun v p c => v = .slice p (srtL l).length c) inferInstance (Ct.mono (sortX0 p c l hl sl0) fun v m' B _ ⟨_, p, c, h2, h3⟩ => ⟨p, c, by rw [len_srt]; exact h2, h3⟩)
end Lb
end Go.Proofs.Ytjncahmbllmllaa

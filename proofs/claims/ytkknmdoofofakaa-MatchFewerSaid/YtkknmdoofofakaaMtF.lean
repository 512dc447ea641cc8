/- MatchFewer: the law's walk. -/
import Derived.Test.YtkknmdoofofakaaMtT
import Derived.Test.YtkknmdoofofakaaMtD
import Derived.Test.YtkknmdoofofakaaJP
import Derived.Test.YtkknmdoofofakaaJT
set_option linter.unusedSimpArgs false
set_option linter.unusedVariables false
set_option linter.unusedSectionVars false
set_option maxRecDepth 20000
set_option maxHeartbeats 4000000
namespace Go.Proofs.Ytkknmdoofofakaa
open Go Go.J
attribute [local irreducible] At AtQ AtM AtM1 PR Ct Pu Rd Res.blk Res.own Res.ex RVs RV
namespace Mt
abbrev owM (p : Option Addr) (c : Nat) (l : List Mat) : Res := .own cells 3 31 p c l
structure B3 where
  (a b c : Nat)
set_option maxHeartbeats 4000000 in
theorem fewerT {m : Mem} (q : Option Addr) (d : Nat) (ms : List Mat) (x : Mat) (p : Option Addr) (c : Nat) (l : List Lab) (sl0 : Sl m cells 3 q d ms) (sl1 : Sl m Lb.cells 2 p c l) :
    Ct Try.prog 4 #[.slice q ms.length d, x.val, .slice p l.length c] m [] (fun v m' B => v = .bool true ∧ B = []) := by
  have hsm := fun (m' : Mem) (hm' : m.le m') => small (m := m') q d ms (sl0.mono hm')
  have hls := fun (m' : Mem) (hm' : m.le m') => Lb.small (m := m') p c l (sl1.mono hm')
  have hlv := lives
  by_cases hf : few ms
  · rw [if_pos hf] at hsm
    by_cases hl : Lb.few l
    · rw [if_pos hl] at hls
      have hm1 : ms.length ≤ 40 := hf.1
      have hl1 : l.length ≤ 40 := hl.1
      have hmids := hf.mids
      have hmo : (ms ++ [x]).length = ms.length + 1 := by simp
      have ha := fun (m' : Mem) (hm' : m.le m') => allC (m := m') p c l.length l q d ms.length ms (all ms l) (by omega) (by omega) rfl rfl rfl (sl1.mono hm') (sl0.mono hm')
      have hx := fun (m' : Mem) (hm' : m.le m') => hitC (m := m') x p c l.length l (hit x l) (by omega) rfl rfl (sl1.mono hm')
      have hb := fun (m' : Mem) q3 d3 (hm' : m.le m') (sl2 : Sl m' cells 3 q3 d3 (ms ++ [x])) => allC (m := m') p c l.length l q3 d3 (ms ++ [x]).length (ms ++ [x]) (all ms l && hit x l) (by omega) (by omega) rfl rfl (all_snoc ms x l) (sl1.mono hm') sl2
      have he := fun (m' : Mem) (hm' : m.le m') => hitC (m := m') { x with k := 1 } p c l.length l (hit { x with k := 1 } l) (by omega) rfl rfl (sl1.mono hm')
      have ho := fun (m' : Mem) (hm' : m.le m') => hitC (m := m') { x with k := 2 } p c l.length l (!hit { x with k := 1 } l) (by omega) rfl (eq_other x l) (sl1.mono hm')
      have hg := fun (m' : Mem) (hm' : m.le m') => hitC (m := m') { x with k := 3 } p c l.length l (hit { x with k := 3 } l) (by omega) rfl rfl (sl1.mono hm')
      have hx1 := fun (m' : Mem) (hm' : m.le m') => exactM (m := m') q d ms (by omega) hmids (sl0.mono hm')
      refine Ct.enterV (by rfl) Try.func4 rfl Try.ntmps4 rfl (fun w0 Rest => ?_)
      have hax := ex_all (ms := ms)
      have hbg := eq_begins x l
      generalize all ms l = wa at ha hb
      generalize hit x l = wx at hx hb
      generalize hit { x with k := 1 } l = w1 at he ho hbg
      generalize hit { x with k := 3 } l = w3 at hg hbg
      (repeat' (first | (refine At.cutr (id := 5) (σ := PS) [0, 2, 4] (fun s F0 => (7, .slice s.p (ms ++ [x]).length s.c) :: F0) (fun s => m) (fun s => owM s.p s.c (ms ++ [x]) :: .blk b4 31 (cells x) :: Rest) (fun s => True) (by rfl) ?_ ?_) | ((with_reducible apply At.mixed (id := 5) 7 (.q 1 (.q 3 (.b 0 4 (.b 2 4 (.l 4 (.x 5 (.q 6 .done))) (.l 2 (.x 5 (.q 6 .done)))) (.l 0 (.l 2 (.x 5 (.q 6 .done)))))))); exact rfl; kernel_rfl; kernel_rfl; kernel_rfl) | ((with_reducible apply At.mixed (id := 8) 9 (.q 0 (.q 1 (.q 2 (.t 3 4 5 (.b 4 5 (.l 5 (.l 6 (.l 7 (.x 8 .done)))) (.l 4 (.l 6 (.l 7 (.x 8 .done))))) (.b 3 5 (.l 5 (.l 6 (.l 7 (.x 8 .done)))) (.l 3 (.l 6 (.l 7 (.x 8 .done))))) (.b 3 4 (.l 4 (.l 6 (.l 7 (.x 8 .done)))) (.l 3 (.l 6 (.l 7 (.x 8 .done)))))))))); exact rfl; kernel_rfl; kernel_rfl; kernel_rfl) | refine sx ?_ | refine ss ?_ | ((with_reducible apply AtM.bo); exact rfl; exact rfl; exact rfl) | ((with_reducible apply AtM.tr); exact rfl; exact rfl; exact rfl; exact rfl) | refine sOM ?_ | refine xOM ?_ | ((with_reducible first | apply AtM1.cr | apply AtQ.cr | apply At.cr); exact rfl; exact rfl; exact fun _ hmm => hsm _ hmm; exact tk; kernel_rfl) | ((with_reducible first | apply AtM1.cr | apply AtQ.cr | apply At.cr); exact rfl; exact rfl; exact fun _ hmm => hls _ hmm; exact tk; kernel_rfl) | ((with_reducible first | apply AtM1.callp | apply AtQ.callp | apply At.callp); kernel_rfl; exact rfl; exact rfl; exact hlv) | ((with_reducible apply At.lit cells ([] : List Mat)); exact inferInstance; (iterate 7 exact rfl); intro _) | ((with_reducible apply At.litF cells [x]); exact inferInstance; (iterate 7 exact rfl); intro b' m' hm' sl3; (try replace sl0 := sl0.mono hm'); (try replace sl1 := sl1.mono hm'); (try replace sl2 := sl2.mono hm'); (try replace sl5 := sl5.mono hm')) | ((with_reducible apply At.apW (f := cells) (l := ([] : List Mat))); exact rfl; exact rfl; exact (by repeat constructor); exact inferInstance; exact rdl; (iterate 4 exact rfl); exact om; exact rfl; intro p2 c2) | ((with_reducible apply At.apW (f := cells) (l := [] ++ ms)); exact rfl; exact rfl; exact (by repeat constructor); exact inferInstance; exact rdl; (iterate 4 exact rfl); exact om; exact rfl; intro p3 c3) | ((with_reducible apply At.box (d := 4)); exact rfl; exact rfl; exact rfl; intro b4) | ((with_reducible apply At.alloc (d := 8)); exact rfl; exact rfl; intro b8) | ((with_reducible apply At.alloc (d := 9)); exact rfl; exact rfl; intro b9) | ((with_reducible apply At.alloc (d := 10)); exact rfl; exact rfl; intro b10) | (refine sp ?_ ?_ <;> (intro hc; (try simp only [hcs, reduceCtorEq] at hc); (try (exfalso; first | omega | contradiction | omega | exact absurd rfl hc | exact absurd (by decide) hc))))))
      all_goals first
        | (simp only [List.nil_append]; ((with_reducible refine At.reachk ((⟨0, p3, c3⟩ : PS)) ?_ ?_ ?_ ?_); exact subs; exact ml; exact ente; exact trivial))
        | skip
      rintro ⟨_, p3, c3⟩ -
      dsimp only
      (refine At.own_freeze inferInstance (by repeat constructor) fun m' hm' sl2 => ?_; (try replace sl0 := sl0.mono hm'); (try replace sl1 := sl1.mono hm'); (try replace sl3 := sl3.mono hm'); (try replace sl5 := sl5.mono hm'))
      have hb := fun (m1 : Mem) (hm1 : m'.le m1) => hb m1 p3 c3 (Mem.le_trans (by assumption) hm1)
      (repeat' (first | (refine At.cutp (id := 6) (False) 40 [0, 2, 4] (by rfl) ?_ ?_) | (refine At.cutr (id := 8) (σ := B3) [0, 2] (fun s F0 => (8, .pointer (some ⟨s.a, 0, none⟩)) :: (9, .pointer (some ⟨s.b, 0, none⟩)) :: (10, .pointer (some ⟨s.c, 0, none⟩)) :: F0) (fun s => m') (fun s => .blk s.a 31 (cells x) :: .blk s.b 31 (cells x) :: .blk s.c 31 (cells x) :: Rest) (fun s => True) (by rfl) ?_ ?_) | ((with_reducible apply At.mixed (id := 5) 7 (.q 1 (.q 3 (.b 0 4 (.b 2 4 (.l 4 (.x 5 (.q 6 .done))) (.l 2 (.x 5 (.q 6 .done)))) (.l 0 (.l 2 (.x 5 (.q 6 .done)))))))); exact rfl; kernel_rfl; kernel_rfl; kernel_rfl) | ((with_reducible apply At.mixed (id := 8) 9 (.q 0 (.q 1 (.q 2 (.t 3 4 5 (.b 4 5 (.l 5 (.l 6 (.l 7 (.x 8 .done)))) (.l 4 (.l 6 (.l 7 (.x 8 .done))))) (.b 3 5 (.l 5 (.l 6 (.l 7 (.x 8 .done)))) (.l 3 (.l 6 (.l 7 (.x 8 .done))))) (.b 3 4 (.l 4 (.l 6 (.l 7 (.x 8 .done)))) (.l 3 (.l 6 (.l 7 (.x 8 .done)))))))))); exact rfl; kernel_rfl; kernel_rfl; kernel_rfl) | refine sx ?_ | refine ss ?_ | ((with_reducible apply AtM.bo); exact rfl; exact rfl; exact rfl) | ((with_reducible apply AtM.tr); exact rfl; exact rfl; exact rfl; exact rfl) | refine sM ?_ | refine xM ?_ | ((with_reducible first | apply AtM1.cr | apply AtQ.cr | apply At.cr); exact rfl; exact rfl; exact fun _ hmm => ha _ (Mem.le_trans ml hmm); exact tk; kernel_rfl) | ((with_reducible first | apply AtM1.cr | apply AtQ.cr | apply At.cr); exact rfl; exact rfl; exact fun _ hmm => hx _ (Mem.le_trans ml hmm); exact tk; kernel_rfl) | ((with_reducible first | apply AtM1.cr | apply AtQ.cr | apply At.cr); exact rfl; exact rfl; exact fun _ hmm => hb _ hmm (sl2.mono hmm); exact tk; kernel_rfl) | ((with_reducible apply At.endp); exact rfl; exact subs; exact ml; exact ente; (cases wa <;> cases wx <;> simp_all)) | ((with_reducible apply At.box (d := 4)); exact rfl; exact rfl; exact rfl; intro b4) | ((with_reducible apply At.alloc (d := 8)); exact rfl; exact rfl; intro b8) | ((with_reducible apply At.alloc (d := 9)); exact rfl; exact rfl; intro b9) | ((with_reducible apply At.alloc (d := 10)); exact rfl; exact rfl; intro b10) | (refine sp ?_ ?_ <;> (intro hc; (try simp only [hcs, reduceCtorEq] at hc); (try (exfalso; first | (first | omega | exact absurd rfl hc | exact hc rfl) | contradiction | omega | exact absurd rfl hc | exact absurd (by decide) hc))))))
      all_goals first
        | ((with_reducible refine At.reachk ((⟨b8, b9, b10⟩ : B3)) ?_ ?_ ?_ ?_); exact subs; exact ml; exact ente; exact trivial)
        | skip
      rintro ⟨b8, b9, b10⟩ -
      dsimp only
      have hxx : ∀ m1, m'.le m1 → m.le m1 := fun m1 h1 => Mem.le_trans (by assumption) h1
      have he := fun (m1 : Mem) h1 => he m1 (hxx m1 h1)
      have ho := fun (m1 : Mem) h1 => ho m1 (hxx m1 h1)
      have hg := fun (m1 : Mem) h1 => hg m1 (hxx m1 h1)
      have hx1 := fun (m1 : Mem) h1 => hx1 m1 (hxx m1 h1)
      have hz : Mids ms := hmids
      have hxa := fun (m1 : Mem) (h1 : m'.le m1) p5 c5 (hal : all ms (exL ms) = true) (hle : (exL ms).length ≤ 1000000000) (s5 : Sl m1 Lb.cells 2 p5 c5 (exL ms)) => allC (m := m1) p5 c5 (exL ms).length (exL ms) q d ms.length ms true hle (by omega) rfl rfl hal s5 (sl0.mono h1)
      generalize exL ms = X at hx1 hax hxa
      cases hw : exB ms
      all_goals
        rw [hw] at hx1 hax
        cases w1
        all_goals
          first
            | (have hbg := hbg rfl; subst hbg)
            | skip
          first
            | (obtain ⟨g1, g2⟩ := hax rfl; have hxa := fun (m1 : Mem) (h1 : m'.le m1) p5 c5 s5 => hxa m1 h1 p5 c5 g1 (by omega) s5)
            | skip
          (repeat' (first | refine ss ?_ | refine sM ?_ | ((with_reducible first | apply AtM1.cr | apply AtQ.cr | apply At.cr); exact rfl; exact rfl; exact fun _ hmm => he _ hmm; exact tk; kernel_rfl) | ((with_reducible first | apply AtM1.cr | apply AtQ.cr | apply At.cr); exact rfl; exact rfl; exact fun _ hmm => ho _ hmm; exact tk; kernel_rfl) | ((with_reducible first | apply AtM1.cr | apply AtQ.cr | apply At.cr); exact rfl; exact rfl; exact fun _ hmm => hg _ hmm; exact tk; kernel_rfl) | ((with_reducible first | apply At.c1 | apply At.c0); exact rfl; exact rfl; exact hx1 _ ml; exact tk; kernel_rfl; rintro v' m' B' hm' ⟨rfl, p5, c5, rfl, sl5⟩; (try replace sl0 := sl0.mono hm'); (try replace sl1 := sl1.mono hm'); (try replace sl2 := sl2.mono hm'); (try replace sl3 := sl3.mono hm'); (try replace sl5 := sl5.mono hm'); (try (have hq0 : hm' = Mem.le_refl _ := rfl; clear hq0 hm'))) | ((with_reducible first | apply AtM1.cr | apply AtQ.cr | apply At.cr); exact rfl; exact rfl; exact fun _ hmm => hxa _ (Mem.le_trans ml hmm) p5 c5 (sl5.mono hmm); exact tk; kernel_rfl) | ((with_reducible apply At.box (d := 4)); exact rfl; exact rfl; exact rfl; intro b4) | ((with_reducible apply At.alloc (d := 8)); exact rfl; exact rfl; intro b8) | ((with_reducible apply At.alloc (d := 9)); exact rfl; exact rfl; intro b9) | ((with_reducible apply At.alloc (d := 10)); exact rfl; exact rfl; intro b10) | (refine sp ?_ ?_ <;> (intro hc; (try simp only [hcs, reduceCtorEq] at hc); (try (exfalso; first | (first | omega | exact absurd rfl hc | exact hc rfl) | contradiction | omega | exact absurd rfl hc | exact absurd (by decide) hc))))))
          all_goals ((with_reducible apply At.retB1 (B := [])); exact rfl; exact rfl; exact ml; exact kp; exact ⟨by first | rfl | exact congrArg Value.bool (decide_eq_true (by omega)), rfl⟩)
    · rw [if_neg hl] at hls
      refine Ct.enterV (by rfl) Try.func4 rfl Try.ntmps4 rfl (fun w0 Rest => ?_)
      (repeat' (first | refine ss ?_ | refine sM ?_ | ((with_reducible first | apply AtM1.cr | apply AtQ.cr | apply At.cr); exact rfl; exact rfl; exact fun _ hmm => hsm _ hmm; exact tk; kernel_rfl) | ((with_reducible first | apply AtM1.cr | apply AtQ.cr | apply At.cr); exact rfl; exact rfl; exact fun _ hmm => hls _ hmm; exact tk; kernel_rfl) | ((with_reducible first | apply AtM1.callp | apply AtQ.callp | apply At.callp); kernel_rfl; exact rfl; exact rfl; exact hlv) | ((with_reducible apply At.box (d := 4)); exact rfl; exact rfl; exact rfl; intro b4) | ((with_reducible apply At.alloc (d := 8)); exact rfl; exact rfl; intro b8) | ((with_reducible apply At.alloc (d := 9)); exact rfl; exact rfl; intro b9) | ((with_reducible apply At.alloc (d := 10)); exact rfl; exact rfl; intro b10) | (refine sp ?_ ?_ <;> (intro hc; (try simp only [hcs, reduceCtorEq] at hc); (try (exfalso; first | omega | contradiction | omega | exact absurd rfl hc | exact absurd (by decide) hc))))))
      all_goals ((with_reducible apply At.retB1 (B := [])); exact rfl; exact rfl; exact ml; exact kp; exact ⟨rfl, rfl⟩)
  · rw [if_neg hf] at hsm
    refine Ct.enterV (by rfl) Try.func4 rfl Try.ntmps4 rfl (fun w0 Rest => ?_)
    (repeat' (first | refine ss ?_ | refine sM ?_ | ((with_reducible first | apply AtM1.cr | apply AtQ.cr | apply At.cr); exact rfl; exact rfl; exact fun _ hmm => hsm _ hmm; exact tk; kernel_rfl) | ((with_reducible first | apply AtM1.callp | apply AtQ.callp | apply At.callp); kernel_rfl; exact rfl; exact rfl; exact hlv) | ((with_reducible apply At.box (d := 4)); exact rfl; exact rfl; exact rfl; intro b4) | ((with_reducible apply At.alloc (d := 8)); exact rfl; exact rfl; intro b8) | ((with_reducible apply At.alloc (d := 9)); exact rfl; exact rfl; intro b9) | ((with_reducible apply At.alloc (d := 10)); exact rfl; exact rfl; intro b10) | (refine sp ?_ ?_ <;> (intro hc; (try simp only [hcs, reduceCtorEq] at hc); (try (exfalso; first | omega | contradiction | omega | exact absurd rfl hc | exact absurd (by decide) hc))))))
    all_goals ((with_reducible apply At.retB1 (B := [])); exact rfl; exact rfl; exact ml; exact kp; exact ⟨rfl, rfl⟩)
end Mt
end Go.Proofs.Ytkknmdoofofakaa

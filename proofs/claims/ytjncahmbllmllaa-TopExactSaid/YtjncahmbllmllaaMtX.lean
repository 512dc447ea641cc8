/- The contracts of matchers: Pick, Exact. -/
import Derived.Test.YtjncahmbllmllaaMtC
import Derived.Test.YtjncahmbllmllaaLbG
import Derived.Test.YtjncahmbllmllaaLbR
import Derived.Test.YtjncahmbllmllaaJT
set_option linter.unusedSimpArgs false
set_option linter.unusedVariables false
set_option linter.unusedSectionVars false
set_option maxRecDepth 20000
set_option maxHeartbeats 4000000
namespace Go.Proofs.Ytjncahmbllmllaa
open Go Go.J
attribute [local irreducible] At AtQ AtM AtM1 PR Ct Pu Rd Res.blk Res.own Res.ex RVs RV
namespace Mt
abbrev SL := Ls.SX Lab
/-- labels of several, that stay -/
def Lbs (m : Mem) (ls : List SL) : Prop := ∀ i, i < ls.length → ls[i]!.l.length ≤ 1000000000 ∧ Sl m Lb.cells 2 ls[i]!.p ls[i]!.c ls[i]!.l
theorem Lbs.mono {m m' : Mem} {ls : List SL} (h : Lbs m ls) (hm : m.le m') : Lbs m' ls := fun i hi => ⟨(h i hi).1, (h i hi).2.mono hm⟩
def pickI (ms : List Mat) (ls : List SL) (n : Nat) : List Int := ((List.range n).filter fun i : Nat => all ms ls[i]!.l).map fun i : Nat => (i : Int)
theorem pickI_snoc (ms : List Mat) (ls : List SL) (n : Nat) : pickI ms ls (n + 1) = pickI ms ls n ++ if all ms ls[n]!.l then [(n : Int)] else [] := by
  unfold pickI
  rw [List.range_succ, List.filter_append, List.map_append]
  congr 1
  by_cases h : all ms ls[n]!.l = true
  · rw [if_pos h, List.filter_cons_of_pos (p := fun i : Nat => all ms ls[i]!.l) h]; rfl
  · rw [if_neg h, List.filter_cons_of_neg (p := fun i : Nat => all ms ls[i]!.l) h]; rfl
theorem pickI_len (ms : List Mat) (ls : List SL) (n : Nat) : (pickI ms ls n).length ≤ n := by
  unfold pickI
  rw [List.length_map]
  refine Nat.le_trans (List.length_filter_le _ _) ?_
  rw [List.length_range]; exact Nat.le_refl _
def PostI (l : List Int) : Value → Mem → List Res → Prop := fun v m' B => B = [] ∧ ∃ p c, v = .slice p l.length c ∧ Sl m' Ls.fI 1 p c l
structure PS where
  (i : Nat) (p : Option Addr) (c : Nat)
abbrev owI (p : Option Addr) (c : Nat) (l : List Int) : Res := .own Ls.fI 1 3 p c l
theorem pickM {m : Mem} (q : Option Addr) (d : Nat) (ms : List Mat) (q2 : Option Addr) (d2 : Nat) (ls : List SL) (hm : ms.length ≤ 1000000000) (hls : ls.length ≤ 1000000000) (sl0 : Sl m cells 3 q d ms) (sl1 : Sl m Ls.fX 1 q2 d2 ls) (hL : Lbs m ls) :
    Ct Try.prog 10 #[.slice q ms.length d, .slice q2 ls.length d2] m [] (PostI (pickI ms ls ls.length)) := by
  refine Ct.slice (R := fun v p c => v = .slice p (pickI ms ls ls.length).length c) (f := Ls.fI) (sz := 1) (E := 3) (B0 := []) inferInstance ?_
  refine Ct.enterV (by rfl) Try.func10 rfl Try.ntmps10 rfl (fun w0 Rest => ?_)
  (repeat' (first | refine zss ?_ | refine zsM ?_ | (refine zsp ?_ ?_ <;> (intro hc; (try simp only [zhcs, reduceCtorEq] at hc); (try (exfalso; first | contradiction | omega | exact absurd rfl hc | exact absurd (by decide) hc))))))
  refine At.own_nil Ls.fI 1 3 ?_
  (refine At.loopk (σ := PS) [0, 8, 9] (fun s F0 => (5, .slice s.p (pickI ms ls s.i).length s.c) :: (10, .int .i64 (s.i : Int)) :: F0) (fun s => m) (fun s => owI s.p s.c (pickI ms ls s.i) :: Rest) (fun s => s.i ≤ ls.length) (fun s => ls.length - s.i) ⟨0, none, 0⟩ (by rfl) ?_ zsubs zml zente ?_)
  · exact Nat.zero_le _
  rintro ⟨i, p1, c1⟩ hi
  dsimp only at hi ⊢
  by_cases h : i < ls.length
  · have hh := fun (m' : Mem) (hm' : m.le m') => allM (m := m') ls[i]!.p ls[i]!.c ls[i]!.l q d ms (hL i h).1 hm ((hL i h).2.mono hm') (sl0.mono hm')
    have hs := pickI_snoc ms ls i
    have hln := pickI_len ms ls i
    cases e : all ms ls[i]!.l with
    | true =>
      rw [e] at hh hs
      rw [if_pos rfl] at hs
      generalize pickI ms ls i = Y at hs hln ⊢
      (repeat' (first | refine zss ?_ | refine zsM ?_ | ((with_reducible first | apply AtM1.cr | apply AtQ.cr | apply At.cr); exact rfl; exact rfl; exact fun _ hmm => hh _ hmm; exact ztk; kernel_rfl) | ((with_reducible apply At.litF Ls.fI [(i : Int)]); exact inferInstance; (iterate 7 exact rfl); intro b' m' hm' sl2; (try replace sl0 := sl0.mono hm'); (try replace sl1 := sl1.mono hm')) | ((with_reducible apply At.apW (f := Ls.fI) (l := Y)); exact rfl; exact rfl; exact (by repeat constructor); exact inferInstance; exact zrdl; (iterate 4 exact rfl); exact zom; exact rfl; intro p2 c2) | (refine zsp ?_ ?_ <;> (intro hc; (try simp only [zhcs, reduceCtorEq] at hc); (try (exfalso; first | omega | contradiction | omega | exact absurd rfl hc | exact absurd (by decide) hc))))))
      all_goals rw [← hs]
      all_goals ((with_reducible refine At.reachk ((⟨i + 1, p2, c2⟩ : PS)) ?_ ?_ ?_ ?_); exact zsubs; exact zml; exact zente; exact ⟨h, by dsimp only; omega⟩)
    | false =>
      rw [e] at hh hs
      rw [if_neg (by decide), List.append_nil] at hs
      rw [← hs]
      (repeat' (first | refine zss ?_ | refine zsM ?_ | ((with_reducible first | apply AtM1.cr | apply AtQ.cr | apply At.cr); exact rfl; exact rfl; exact fun _ hmm => hh _ hmm; exact ztk; kernel_rfl) | (refine zsp ?_ ?_ <;> (intro hc; (try simp only [zhcs, reduceCtorEq] at hc); (try (exfalso; first | omega | contradiction | omega | exact absurd rfl hc | exact absurd (by decide) hc))))))
      all_goals ((with_reducible refine At.reachk ((⟨i + 1, p1, c1⟩ : PS)) ?_ ?_ ?_ ?_); exact zsubs; exact zml; exact zente; exact ⟨h, by dsimp only; omega⟩)
  · have hi : i = ls.length := by omega
    subst hi
    (repeat' (first | refine zss ?_ | refine zsM ?_ | (refine zsp ?_ ?_ <;> (intro hc; (try simp only [zhcs, reduceCtorEq] at hc); (try (exfalso; first | omega | contradiction | omega | exact absurd rfl hc | exact absurd (by decide) hc))))))
    all_goals ((with_reducible apply At.retB1 (B := [owI p1 c1 (pickI ms ls ls.length)])); exact rfl; exact rfl; exact zml; exact zkp; exact ⟨_, _, rfl, rfl⟩)
end Mt
end Go.Proofs.Ytjncahmbllmllaa

/- FlatEach: whatever is read, the law's call returns true; no condition. -/
import Derived.Test.YtoplagjjojlceaaFlEWZ3
import Derived.ProofKit
import Derived.OpenShut
import Derived.Below
import Derived.Carry
import Derived.Deep.Slices
import Derived.WideShapes
/- The document's book of series. -/
set_option linter.unusedSimpArgs false
set_option linter.unusedVariables false
set_option linter.unusedSectionVars false
set_option maxRecDepth 20000
set_option maxHeartbeats 4000000
namespace Go.Proofs.Ytoplagjjojlceaa
open Go Go.J
attribute [local irreducible] At AtQ AtM AtM1 PR Ct Pu Rd Res.blk Res.own Res.ex RVs RV Res.map
namespace Fl
attribute [local irreducible] sr srs
open Ev
/-- a series of the document's, and where it lies -/
structure On where
  (l : List Lab) (lp : Option Addr) (lc : Nat) (e : List Ev) (ep : Option Addr) (ec : Nat)
instance : Inhabited On := ⟨⟨[], none, 0, [], none, 0⟩⟩
abbrev fN : On → List Value := fun x => [.slice x.lp x.l.length x.lc, .slice x.ep x.e.length x.ec]
instance : Fl fN 2 := ⟨fun _ => rfl, fun _ v h => by simp at h; rcases h with rfl | rfl <;> rfl, by decide⟩
def ab (x : On) : Ser := ⟨x.l, x.e⟩
def abs (O : List On) : List Ser := O.map ab
structure DI (m : Mem) (O : List On) : Prop where
  l : ∀ x ∈ O, Sl m Lb.cells 2 x.lp x.lc x.l
  e : ∀ x ∈ O, Sl m cells 4 x.ep x.ec x.e
theorem DI.mono {m m' : Mem} {O : List On} (h : DI m O) (hm : m.le m') : DI m' O := ⟨fun x hx => (h.l x hx).mono hm, fun x hx => (h.e x hx).mono hm⟩
def idxI (S : List Ser) (l : List Lab) : Int := match idx S l with
  | none => -1
  | some i => (i : Int)
theorem idx_none {O : List On} {l : List Lab} (h : ∀ i, i < O.length → O[i]!.l ≠ l) : idx (abs O) l = none := by
  unfold idx abs
  rw [List.findIdx?_eq_none_iff]
  intro x hx
  obtain ⟨y, hy, rfl⟩ := List.mem_map.1 hx
  obtain ⟨i, hi, rfl⟩ := List.mem_iff_getElem.1 hy
  have := h i hi
  rw [getElem!_pos O i hi] at this
  exact decide_eq_false this
theorem idx_some {O : List On} {l : List Lab} {i : Nat} (hi : i < O.length) (h1 : O[i]!.l = l) (h : ∀ j, j < i → O[j]!.l ≠ l) : idx (abs O) l = some i := by
  unfold idx abs
  rw [List.findIdx?_eq_some_iff_getElem]
  refine ⟨by rw [List.length_map]; exact hi, ?_, fun j hj => ?_⟩
  · rw [List.getElem_map]
    rw [getElem!_pos O i hi] at h1
    exact decide_eq_true h1
  · have := h j hj
    rw [getElem!_pos O j (by omega)] at this
    rw [List.getElem_map]
    first
      | exact decide_eq_false this
      | (show ¬ decide (O[j].l = l) = true; rw [decide_eq_true_eq]; exact this)
theorem abs_at {O : List On} {i : Nat} (hi : i < O.length) : (abs O)[i]! = ab O[i]! := by
  unfold abs
  rw [getElem!_pos _ i (by rw [List.length_map]; exact hi), List.getElem_map, getElem!_pos O i hi]
theorem idx_lt {S : List Ser} {l : List Lab} {i : Nat} (h : idx S l = some i) : i < S.length ∧ S[i]!.l = l := by
  unfold idx at h
  obtain ⟨h1, h2, _⟩ := List.findIdx?_eq_some_iff_getElem.1 h
  exact ⟨h1, by rw [getElem!_pos S i h1]; exact of_decide_eq_true h2⟩
theorem abs_len (O : List On) : (abs O).length = O.length := List.length_map ..
theorem rat {m : Mem} (p : Option Addr) (c : Nat) (O : List On) (q : Option Addr) (d : Nat) (l : List Lab) (hO : O.length ≤ 1000000) (hOl : ∀ x ∈ O, x.l.length ≤ 1000000) (hl : l.length ≤ 1000000) (sl0 : Sl m fN 2 p c O) (hD : DI m O) (sl1 : Sl m Lb.cells 2 q d l) :
    Rd Try.prog 23 #[.slice p O.length c, .slice q l.length d] m [] (.int .i64 (idxI (abs O) l)) := by
  unfold Rd
  refine Ct.enterV (by rfl) Try.func23 rfl Try.ntmps23 rfl (fun w0 Rest => ?_)
  (repeat' (first | refine zss ?_ | refine zsM ?_ | ((with_reducible apply At.alloc (d := 6)); exact rfl; exact rfl; intro b6) | (refine zsp ?_ ?_ <;> (intro hc; (try simp only [zhcs, reduceCtorEq] at hc); (try (exfalso; first | contradiction | omega | exact absurd rfl hc | exact absurd (by decide) hc))))))
  (refine At.loopk (σ := Nat) [1, 7, 8] (fun s F0 => (9, .int .i64 (s : Int)) :: F0) (fun s => m) (fun s => Rest) (fun s => s ≤ O.length ∧ ∀ i, i < s → O[i]!.l ≠ l) (fun s => O.length - s) 0 (by rfl) ?_ zsubs zml zente ?_)
  · exact ⟨Nat.zero_le _, fun i h => absurd h (Nat.not_lt_zero i)⟩
  rintro j ⟨hs, hn⟩
  by_cases h : j < O.length
  · have hin := Ls.mem! h
    have hsm := fun (m' : Mem) (hm' : m.le m') => Lb.rsame (m := m') O[j]!.lp O[j]!.lc O[j]!.l q d l (by have := hOl _ hin; omega) (by omega) ((hD.l _ hin).mono hm') (sl1.mono hm')
    by_cases e : O[j]!.l = l
    · rw [decide_eq_true e] at hsm
      rw [show idxI (abs O) l = (j : Int) by unfold idxI; rw [idx_some h e hn]]
      (repeat' (first | refine zss ?_ | refine zsM ?_ | ((with_reducible first | apply AtM1.cr | apply AtQ.cr | apply At.cr); exact rfl; exact rfl; exact fun _ hmm => hsm _ hmm; exact ztk; kernel_rfl) | ((with_reducible apply At.alloc (d := 6)); exact rfl; exact rfl; intro b6) | (refine zsp ?_ ?_ <;> (intro hc; (try simp only [zhcs, reduceCtorEq] at hc); (try (exfalso; first | omega | contradiction | omega | exact absurd rfl hc | exact absurd (by decide) hc))))))
      all_goals ((with_reducible apply At.retB1 (B := [])); exact rfl; exact rfl; exact zml; exact zkp; exact ⟨rfl, rfl, rfl⟩)
    · rw [decide_eq_false e] at hsm
      have hnn : ∀ i, i < j + 1 → O[i]!.l ≠ l := fun i hi => by
        by_cases e1 : i = j
        · subst e1; exact e
        · exact hn i (by omega)
      (repeat' (first | refine zss ?_ | refine zsM ?_ | ((with_reducible first | apply AtM1.cr | apply AtQ.cr | apply At.cr); exact rfl; exact rfl; exact fun _ hmm => hsm _ hmm; exact ztk; kernel_rfl) | ((with_reducible apply At.alloc (d := 6)); exact rfl; exact rfl; intro b6) | (refine zsp ?_ ?_ <;> (intro hc; (try simp only [zhcs, reduceCtorEq] at hc); (try (exfalso; first | omega | contradiction | omega | exact absurd rfl hc | exact absurd (by decide) hc))))))
      all_goals ((with_reducible refine At.reachk ((j + 1)) ?_ ?_ ?_ ?_); exact zsubs; exact zml; exact zente; exact ⟨⟨h, hnn⟩, by omega⟩)
  · rw [show idxI (abs O) l = -1 by unfold idxI; rw [idx_none fun i hi => hn i (by omega)]]
    (repeat' (first | refine zss ?_ | refine zsM ?_ | ((with_reducible apply At.alloc (d := 6)); exact rfl; exact rfl; intro b6) | (refine zsp ?_ ?_ <;> (intro hc; (try simp only [zhcs, reduceCtorEq] at hc); (try (exfalso; first | omega | contradiction | omega | exact absurd rfl hc | exact absurd (by decide) hc))))))
    all_goals ((with_reducible apply At.retB1 (B := [])); exact rfl; exact rfl; exact zml; exact zkp; exact ⟨rfl, rfl, rfl⟩)
abbrev oO (p : Option Addr) (c : Nat) (O : List On) : Res := .own fN 2 55 p c O
theorem ratO {m : Mem} (p : Option Addr) (c : Nat) (O : List On) (q : Option Addr) (d : Nat) (l : List Lab) (hO : O.length ≤ 1000000) (hOl : ∀ x ∈ O, x.l.length ≤ 1000000) (hl : l.length ≤ 1000000) (hD : DI m O) (sl1 : Sl m Lb.cells 2 q d l) :
    Rd Try.prog 23 #[.slice p O.length c, .slice q l.length d] m [oO p c O] (.int .i64 (idxI (abs O) l)) := by
  unfold Rd
  refine Ct.enterV (by rfl) Try.func23 rfl Try.ntmps23 rfl (fun w0 Rest => ?_)
  (repeat' (first | refine zss ?_ | refine zsO ?_ | ((with_reducible apply At.alloc (d := 6)); exact rfl; exact rfl; intro b6) | (refine zsp ?_ ?_ <;> (intro hc; (try simp only [zhcs, reduceCtorEq] at hc); (try (exfalso; first | contradiction | omega | exact absurd rfl hc | exact absurd (by decide) hc))))))
  (refine At.loopk (σ := Nat) [1, 7, 8] (fun s F0 => (9, .int .i64 (s : Int)) :: F0) (fun s => m) (fun s => oO p c O :: Rest) (fun s => s ≤ O.length ∧ ∀ i, i < s → O[i]!.l ≠ l) (fun s => O.length - s) 0 (by rfl) ?_ zsubs zml zente ?_)
  · exact ⟨Nat.zero_le _, fun i h => absurd h (Nat.not_lt_zero i)⟩
  rintro j ⟨hs, hn⟩
  by_cases h : j < O.length
  · have hin := Ls.mem! h
    have hsm := fun (m' : Mem) (hm' : m.le m') => Lb.rsame (m := m') O[j]!.lp O[j]!.lc O[j]!.l q d l (by have := hOl _ hin; omega) (by omega) ((hD.l _ hin).mono hm') (sl1.mono hm')
    by_cases e : O[j]!.l = l
    · rw [decide_eq_true e] at hsm
      rw [show idxI (abs O) l = (j : Int) by unfold idxI; rw [idx_some h e hn]]
      (repeat' (first | refine zss ?_ | refine zsO ?_ | ((with_reducible first | apply AtM1.cr | apply AtQ.cr | apply At.cr); exact rfl; exact rfl; exact fun _ hmm => hsm _ hmm; exact ztk; kernel_rfl) | ((with_reducible apply At.alloc (d := 6)); exact rfl; exact rfl; intro b6) | (refine zsp ?_ ?_ <;> (intro hc; (try simp only [zhcs, reduceCtorEq] at hc); (try (exfalso; first | omega | contradiction | omega | exact absurd rfl hc | exact absurd (by decide) hc))))))
      all_goals ((with_reducible apply At.retB1 (B := [oO p c O])); exact rfl; exact rfl; exact zml; exact zkp; exact ⟨rfl, rfl, rfl⟩)
    · rw [decide_eq_false e] at hsm
      have hnn : ∀ i, i < j + 1 → O[i]!.l ≠ l := fun i hi => by
        by_cases e1 : i = j
        · subst e1; exact e
        · exact hn i (by omega)
      (repeat' (first | refine zss ?_ | refine zsO ?_ | ((with_reducible first | apply AtM1.cr | apply AtQ.cr | apply At.cr); exact rfl; exact rfl; exact fun _ hmm => hsm _ hmm; exact ztk; kernel_rfl) | ((with_reducible apply At.alloc (d := 6)); exact rfl; exact rfl; intro b6) | (refine zsp ?_ ?_ <;> (intro hc; (try simp only [zhcs, reduceCtorEq] at hc); (try (exfalso; first | omega | contradiction | omega | exact absurd rfl hc | exact absurd (by decide) hc))))))
      all_goals ((with_reducible refine At.reachk ((j + 1)) ?_ ?_ ?_ ?_); exact zsubs; exact zml; exact zente; exact ⟨⟨h, hnn⟩, by omega⟩)
  · rw [show idxI (abs O) l = -1 by unfold idxI; rw [idx_none fun i hi => hn i (by omega)]]
    (repeat' (first | refine zss ?_ | refine zsO ?_ | ((with_reducible apply At.alloc (d := 6)); exact rfl; exact rfl; intro b6) | (refine zsp ?_ ?_ <;> (intro hc; (try simp only [zhcs, reduceCtorEq] at hc); (try (exfalso; first | omega | contradiction | omega | exact absurd rfl hc | exact absurd (by decide) hc))))))
    all_goals ((with_reducible apply At.retB1 (B := [oO p c O])); exact rfl; exact rfl; exact zml; exact zkp; exact ⟨rfl, rfl, rfl⟩)
/-- the sizes that the laws keep -/
structure Sz (O : List On) (l : List Lab) : Prop where
  n : O.length ≤ 1000
  ls : ∀ x ∈ O, x.l.length ≤ 1000000
  es : ∀ x ∈ O, x.e.length ≤ 1000
  q : l.length ≤ 1000000
theorem revents {m : Mem} (p : Option Addr) (c : Nat) (O : List On) (q : Option Addr) (d : Nat) (l : List Lab) (hz : Sz O l) (sl0 : Sl m fN 2 p c O) (hD : DI m O) (sl1 : Sl m Lb.cells 2 q d l) :
    Ct Try.prog 19 #[.slice p O.length c, .slice q l.length d] m [] (fun v m' B => m = m' ∧ B = [] ∧ ∃ p2 c2, v = .slice p2 (evs (abs O) l).length c2 ∧ Sl m cells 4 p2 c2 (evs (abs O) l)) := by
  have ha := fun (m' : Mem) (hm' : m.le m') => rat (m := m') p c O q d l (by have := hz.n; omega) hz.ls hz.q (sl0.mono hm') (hD.mono hm') (sl1.mono hm')
  have hn := hz.n
  unfold evs
  unfold idxI at ha
  cases hx : idx (abs O) l with
  | none =>
    rw [hx] at ha
    dsimp only at ha ⊢
    refine Ct.enterV (by rfl) Try.func19 rfl Try.ntmps19 rfl (fun w0 Rest => ?_)
    (repeat' (first | refine zss ?_ | refine zsM ?_ | ((with_reducible first | apply AtM1.cr | apply AtQ.cr | apply At.cr); exact rfl; exact rfl; exact fun _ hmm => ha _ hmm; exact ztk; kernel_rfl) | (refine zsp ?_ ?_ <;> (intro hc; (try simp only [zhcs, reduceCtorEq] at hc); (try (exfalso; first | omega | contradiction | omega | exact absurd rfl hc | exact absurd (by decide) hc))))))
    all_goals ((with_reducible apply At.retB1 (B := [])); exact rfl; exact rfl; exact zml; exact zkp; exact ⟨rfl, rfl, none, 0, rfl, Sl.empty _ inferInstance⟩)
  | some i =>
    rw [hx] at ha
    have hi := (idx_lt hx).1
    rw [abs_len] at hi
    have hin := Ls.mem! hi
    dsimp only at ha ⊢
    rw [abs_at hi]
    unfold ab
    dsimp only
    have hs := hD.e _ hin
    refine Ct.enterV (by rfl) Try.func19 rfl Try.ntmps19 rfl (fun w0 Rest => ?_)
    (repeat' (first | refine zss ?_ | refine zsM ?_ | ((with_reducible first | apply AtM1.cr | apply AtQ.cr | apply At.cr); exact rfl; exact rfl; exact fun _ hmm => ha _ hmm; exact ztk; kernel_rfl) | (refine zsp ?_ ?_ <;> (intro hc; (try simp only [zhcs, reduceCtorEq] at hc); (try (exfalso; first | omega | contradiction | omega | exact absurd rfl hc | exact absurd (by decide) hc))))))
    all_goals ((with_reducible apply At.retB1 (B := [])); exact rfl; exact rfl; exact zml; exact zkp; exact ⟨rfl, rfl, _, _, rfl, hs⟩)
theorem lst_evs {S : List Ser} (l : List Lab) (hne : ∀ x ∈ S, x.e ≠ []) : (evs S l = [] → lst S l = -1) ∧ (evs S l ≠ [] → lst S l = (evs S l)[(evs S l).length - 1]!.T) := by
  unfold evs lst
  cases hx : idx S l with
  | none => exact ⟨fun _ => rfl, fun h => absurd rfl h⟩
  | some i =>
    have hi := (idx_lt hx).1
    exact ⟨fun h => absurd h (hne _ (Ls.mem! hi)), fun _ => rfl⟩
theorem rlast {m : Mem} (p : Option Addr) (c : Nat) (O : List On) (q : Option Addr) (d : Nat) (l : List Lab) (hz : Sz O l) (hne : ∀ x ∈ abs O, x.e ≠ []) (hb : (evs (abs O) l).length ≤ 1000) (sl0 : Sl m fN 2 p c O) (hD : DI m O) (sl1 : Sl m Lb.cells 2 q d l) :
    Rd Try.prog 16 #[.slice p O.length c, .slice q l.length d] m [] (.int .i64 (lst (abs O) l)) := by
  unfold Rd
  have k1 := revents (m := m) p c O q d l hz sl0 hD sl1
  obtain ⟨h1, h2⟩ := lst_evs l hne
  generalize evs (abs O) l = L at k1 h1 h2 hb
  by_cases h : L = []
  · rw [h1 h]
    subst h
    refine Ct.enterV (by rfl) Try.func16 rfl Try.ntmps16 rfl (fun w0 Rest => ?_)
    (repeat' (first | refine zss ?_ | refine zsM ?_ | ((with_reducible first | apply At.c1 | apply At.c0); exact rfl; exact rfl; exact k1; exact ztk; kernel_rfl; rintro v' m' B' hm' ⟨rfl, rfl, p2, c2, rfl, sl3⟩; (try replace sl0 := sl0.mono hm'); (try replace sl1 := sl1.mono hm'); (try replace sl3 := sl3.mono hm'); (try (have hq0 : hm' = Mem.le_refl _ := rfl; clear hq0 hm'))) | (refine zsp ?_ ?_ <;> (intro hc; (try simp only [zhcs, reduceCtorEq] at hc); (try (exfalso; first | omega | contradiction | omega | exact absurd rfl hc | exact absurd (by decide) hc))))))
    all_goals ((with_reducible apply At.retB1 (B := [])); exact rfl; exact rfl; exact zml; exact zkp; exact ⟨rfl, rfl, rfl⟩)
  · rw [h2 h]
    have hp : 0 < L.length := List.length_pos_iff.2 h
    have hw : IntKind.wrap .i64 ((L.length : Int) - 1) = ((L.length - 1 : Nat) : Int) := by rw [show (L.length : Int) - 1 = ((L.length - 1 : Nat) : Int) by omega]; exact IntWalk.i64_in _ (by omega)
    refine Ct.enterV (by rfl) Try.func16 rfl Try.ntmps16 rfl (fun w0 Rest => ?_)
    (repeat' (first | refine zss ?_ | ((first | (with_reducible first | apply At.val | apply AtQ.val)); (exact pr_sub (by rfl) (by rfl) hw); exact rfl) | refine zsM ?_ | ((with_reducible first | apply At.c1 | apply At.c0); exact rfl; exact rfl; exact k1; exact ztk; kernel_rfl; rintro v' m' B' hm' ⟨rfl, rfl, p2, c2, rfl, sl3⟩; (try replace sl0 := sl0.mono hm'); (try replace sl1 := sl1.mono hm'); (try replace sl3 := sl3.mono hm'); (try (have hq0 : hm' = Mem.le_refl _ := rfl; clear hq0 hm'))) | (refine zsp ?_ ?_ <;> (intro hc; (try simp only [zhcs, reduceCtorEq] at hc); (try (exfalso; first | omega | contradiction | omega | exact absurd rfl hc | exact absurd (by decide) hc))))))
    all_goals ((with_reducible apply At.retB1 (B := [])); exact rfl; exact rfl; exact zml; exact zkp; exact ⟨rfl, rfl, rfl⟩)
structure CS where
  (i : Nat) (p : Option Addr) (c : Nat)
theorem filt_take {f : Ev → Bool} {L : List Ev} {i : Nat} (h : i < L.length) : (L.take (i + 1)).filter f = (L.take i).filter f ++ if f L[i]! then [L[i]!] else [] := filt_snoc f L i h
theorem rcell {m : Mem} (p : Option Addr) (c : Nat) (O : List On) (q : Option Addr) (d : Nat) (l : List Lab) (u v : Int) (hz : Sz O l) (hb : (evs (abs O) l).length ≤ 1000 ∧ ∀ e ∈ evs (abs O) l, e.V < 18446744073709551616) (sl0 : Sl m fN 2 p c O) (hD : DI m O) (sl1 : Sl m Lb.cells 2 q d l) :
    Ct Try.prog 14 #[.slice p O.length c, .slice q l.length d, .int .i64 u, .int .i64 v] m [] (fun v' m' B => v' = (cel (abs O) l u v).v ∧ B = []) := by
  have k1 := revents (m := m) p c O q d l hz sl0 hD sl1
  obtain ⟨h1, h2⟩ := hb
  unfold cel
  generalize evs (abs O) l = L at k1 h1 h2 ⊢
  have k3 := fun (m : Mem) p c sl => Cell.rof (m := m) p c (L.filter (keep u v)) (by have := List.length_filter_le (keep u v) L; omega) (fun e he => h2 e (List.mem_filter.1 he).1) sl
  refine Ct.enterV (by rfl) Try.func14 rfl Try.ntmps14 rfl (fun w0 Rest => ?_)
  (repeat' (first | refine zss ?_ | refine zsM ?_ | ((with_reducible first | apply At.c1 | apply At.c0); exact rfl; exact rfl; exact k1; exact ztk; kernel_rfl; rintro v' m' B' hm' ⟨rfl, rfl, p2, c2, rfl, sl3⟩; (try replace sl0 := sl0.mono hm'); (try replace sl1 := sl1.mono hm'); (try replace sl3 := sl3.mono hm'); (try replace sl4 := sl4.mono hm'); (try (have hq0 : hm' = Mem.le_refl _ := rfl; clear hq0 hm'))) | ((with_reducible apply At.alloc (d := 8)); exact rfl; exact rfl; intro b8) | ((with_reducible apply At.alloc (d := 11)); exact rfl; exact rfl; intro b11) | ((with_reducible apply At.alloc (d := 12)); exact rfl; exact rfl; intro b12) | (refine zsp ?_ ?_ <;> (intro hc; (try simp only [zhcs, reduceCtorEq] at hc); (try (exfalso; first | contradiction | omega | exact absurd rfl hc | exact absurd (by decide) hc))))))
  change At _ w0 _ m (Res.blk b8 47 (Cell.cells Cell.z) :: Rest) _
  refine At.own_nil cells 4 32 ?_
  (refine At.loopk (σ := CS) [2, 3, 8, 16, 17] (fun s F0 => (9, .slice s.p ((L.take s.i).filter (keep u v)).length s.c) :: (18, .int .i64 (s.i : Int)) :: F0) (fun s => m) (fun s => ow s.p s.c ((L.take s.i).filter (keep u v)) :: .blk b8 47 (Cell.cells Cell.z) :: Rest) (fun s => s.i ≤ L.length) (fun s => L.length - s.i) ⟨0, none, 0⟩ (by rfl) ?_ zsubs zml zente ?_)
  · exact Nat.zero_le _
  rintro ⟨i, p4, c4⟩ hi
  dsimp only at hi ⊢
  by_cases h : i < L.length
  · have hs := filt_take (f := keep u v) h
    have hl2 : ((L.take i).filter (keep u v)).length ≤ 1000 := Nat.le_trans (List.length_filter_le _ _) (by rw [List.length_take]; omega)
    by_cases hk : u ≤ L[i]!.T ∧ L[i]!.T < v
    · rw [if_pos (show keep u v L[i]! = true from decide_eq_true hk)] at hs
      generalize (L.take i).filter (keep u v) = Y at hs hl2 ⊢
      (repeat' (first | refine zss ?_ | refine zsOM ?_ | ((with_reducible apply At.litF cells [L[i]!]); exact inferInstance; (iterate 7 exact rfl); intro b' m' hm' sl4; (try replace sl0 := sl0.mono hm'); (try replace sl1 := sl1.mono hm'); (try replace sl3 := sl3.mono hm')) | ((with_reducible apply At.apW (f := cells) (l := Y)); exact rfl; exact rfl; exact (by repeat constructor); exact inferInstance; exact zrdl; (iterate 4 exact rfl); exact zom; exact rfl; intro p2 c2) | ((with_reducible apply At.alloc (d := 8)); exact rfl; exact rfl; intro b8) | ((with_reducible apply At.alloc (d := 11)); exact rfl; exact rfl; intro b11) | ((with_reducible apply At.alloc (d := 12)); exact rfl; exact rfl; intro b12) | (refine zsp ?_ ?_ <;> (intro hc; (try simp only [zhcs, reduceCtorEq] at hc); (try (exfalso; first | omega | contradiction | omega | exact absurd rfl hc | exact absurd (by decide) hc))))))
      all_goals rw [← hs]
      all_goals ((with_reducible refine At.reachk ((⟨i + 1, p2, c2⟩ : CS)) ?_ ?_ ?_ ?_); exact zsubs; exact zml; exact zente; exact ⟨h, by dsimp only; omega⟩)
    · rw [if_neg (show ¬ keep u v L[i]! = true from fun e => hk (of_decide_eq_true e)), List.append_nil] at hs
      rw [← hs]
      (repeat' (first | refine zss ?_ | refine zsM ?_ | ((with_reducible apply At.alloc (d := 8)); exact rfl; exact rfl; intro b8) | ((with_reducible apply At.alloc (d := 11)); exact rfl; exact rfl; intro b11) | ((with_reducible apply At.alloc (d := 12)); exact rfl; exact rfl; intro b12) | (refine zsp ?_ ?_ <;> (intro hc; (try simp only [zhcs, reduceCtorEq] at hc); (try (exfalso; first | omega | contradiction | omega | exact absurd rfl hc | exact absurd (by decide) hc))))))
      all_goals ((with_reducible refine At.reachk ((⟨i + 1, p4, c4⟩ : CS)) ?_ ?_ ?_ ?_); exact zsubs; exact zml; exact zente; exact ⟨h, by dsimp only; omega⟩)
  · rw [List.take_of_length_le (show L.length ≤ i by omega)]
    have k4 : ∀ m : Mem, Ct Try.prog 34 #[.slice p4 (L.filter (keep u v)).length c4] m [ow p4 c4 (L.filter (keep u v))] (fun v' m' B => v' = .tuple #[(Cell.ofL (L.filter (keep u v))).1.v, .int .i64 (Cell.ofL (L.filter (keep u v))).2] ∧ B = []) :=
      fun m => Ct.freezeG inferInstance fun m' _ sl => (k3 m' p4 c4 sl).mono fun v m' B _ ⟨h1, _, h3⟩ => ⟨h1, h3⟩
    (repeat' (first | refine zss ?_ | refine zsOM ?_ | ((with_reducible first | apply At.c1 | apply At.c0); exact rfl; exact rfl; exact k4 _; exact ztk; kernel_rfl; rintro v' m' B' hm' ⟨rfl, rfl⟩; (try replace sl0 := sl0.mono hm'); (try replace sl1 := sl1.mono hm'); (try replace sl3 := sl3.mono hm'); (try replace sl4 := sl4.mono hm'); (try (have hq0 : hm' = Mem.le_refl _ := rfl; clear hq0 hm'))) | ((with_reducible apply At.alloc (d := 8)); exact rfl; exact rfl; intro b8) | ((with_reducible apply At.alloc (d := 11)); exact rfl; exact rfl; intro b11) | ((with_reducible apply At.alloc (d := 12)); exact rfl; exact rfl; intro b12) | (refine zsp ?_ ?_ <;> (intro hc; (try simp only [zhcs, reduceCtorEq] at hc); (try (exfalso; first | omega | contradiction | omega | exact absurd rfl hc | exact absurd (by decide) hc))))))
    all_goals ((with_reducible apply At.retV (B := [])); exact rfl; (repeat' (first | exact RVs.nil | (with_reducible apply RVs.cons) | exact rv_tmp (by rfl) | exact rv_cellN (by rfl) (by repeat constructor) (by rfl) (by rfl) (by rfl) | exact rv_cell1 (by rfl) (by repeat constructor) (by rfl) (by rfl))); exact zml; exact zkp; exact ⟨rfl, rfl⟩)
end Fl
end Go.Proofs.Ytoplagjjojlceaa
/- The document's book of series: Put, Forget. -/
set_option linter.unusedSimpArgs false
set_option linter.unusedVariables false
set_option linter.unusedSectionVars false
set_option maxRecDepth 20000
set_option maxHeartbeats 4000000
namespace Go.Proofs.Ytoplagjjojlceaa
open Go Go.J
attribute [local irreducible] At AtQ AtM AtM1 PR Ct Pu Rd Res.blk Res.own Res.ex RVs RV Res.map
namespace Fl
attribute [local irreducible] sr srs
open Ev
/-- the document's book comes back -/
def PostB (S : List Ser) (v2 : Value) : Value → Mem → List Res → Prop := fun v m' B => B = [] ∧ ∃ p c, ∃ O : List On, v = .tuple #[.slice p O.length c, v2] ∧ Sl m' fN 2 p c O ∧ DI m' O ∧ abs O = S
theorem set_abs (O : List On) (i : Nat) (x : On) : abs (O.set i x) = (abs O).set i (ab x) := by unfold abs; rw [List.map_set]
set_option maxHeartbeats 2000000 in
theorem rput {m : Mem} (p : Option Addr) (c : Nat) (O : List On) (q : Option Addr) (d : Nat) (l : List Lab) (hm : Lb.Mid l) (hz : Sz O l) (hI : Inv (abs O)) (e : Ev) (hV : e.V < 18446744073709551616) (sl0 : Sl m fN 2 p c O) (hD : DI m O) (sl1 : Sl m Lb.cells 2 q d l) :
    Ct Try.prog 8 #[.slice p O.length c, .slice q l.length d, e.v] m [] (PostB (putS (abs O) l e).1 (.int .i64 (putS (abs O) l e).2)) := by
  have hck := fun (m' : Mem) (hm' : m.le m') => Lb.rcheck (m := m') q d l hm (sl1.mono hm')
  have hce := rcheck e
  obtain ⟨hb1, hb2⟩ := evs_bd hI l
  have hla := fun (m' : Mem) (hm' : m.le m') => rlast (m := m') p c O q d l hz hI.ne hb1 (sl0.mono hm') (hD.mono hm') (sl1.mono hm')
  have hn := hz.n
  unfold putS
  by_cases hr : Lb.right l
  rotate_left
  · rw [if_pos hr]
    rw [show Lb.chk l = 8 from if_neg hr] at hck
    refine Ct.enterV (by rfl) Try.func8 rfl Try.ntmps8 rfl (fun w0 Rest => ?_)
    (repeat' (first | refine zss ?_ | refine zsM ?_ | ((with_reducible first | apply AtM1.cr | apply AtQ.cr | apply At.cr); exact rfl; exact rfl; exact fun _ hmm => hck _ hmm; exact ztk; kernel_rfl) | ((with_reducible apply At.box (d := 5)); exact rfl; exact rfl; exact rfl; intro b5) | (refine zsp ?_ ?_ <;> (intro hc; (try simp only [zhcs, reduceCtorEq] at hc); (try (exfalso; first | omega | contradiction | omega | exact absurd rfl hc | exact absurd (by decide) hc))))))
    all_goals ((with_reducible apply At.retV (B := [])); exact rfl; (repeat' (first | exact RVs.nil | (with_reducible apply RVs.cons) | exact rv_tmp (by rfl) | exact rv_cellN (by rfl) (by repeat constructor) (by rfl) (by rfl) (by rfl) | exact rv_cell1 (by rfl) (by repeat constructor) (by rfl) (by rfl))); exact zml; exact zkp; exact ⟨rfl, p, c, O, rfl, sl0, hD, rfl⟩)
  rw [if_neg (not_not_intro hr)]
  rw [Lb.chk_ok hr] at hck
  by_cases hok : e.ok
  rotate_left
  · rw [if_pos hok]
    rw [show e.chk = 2 from if_neg hok] at hce
    refine Ct.enterV (by rfl) Try.func8 rfl Try.ntmps8 rfl (fun w0 Rest => ?_)
    (repeat' (first | refine zss ?_ | refine zsM ?_ | ((with_reducible first | apply AtM1.cr | apply AtQ.cr | apply At.cr); exact rfl; exact rfl; exact fun _ hmm => hck _ hmm; exact ztk; kernel_rfl) | ((with_reducible first | apply AtM1.callp | apply AtQ.callp | apply At.callp); kernel_rfl; exact rfl; exact rfl; exact hce) | ((with_reducible apply At.box (d := 5)); exact rfl; exact rfl; exact rfl; intro b5) | (refine zsp ?_ ?_ <;> (intro hc; (try simp only [zhcs, reduceCtorEq] at hc); (try (exfalso; first | omega | contradiction | omega | exact absurd rfl hc | exact absurd (by decide) hc))))))
    all_goals ((with_reducible apply At.retV (B := [])); exact rfl; (repeat' (first | exact RVs.nil | (with_reducible apply RVs.cons) | exact rv_tmp (by rfl) | exact rv_cellN (by rfl) (by repeat constructor) (by rfl) (by rfl) (by rfl) | exact rv_cell1 (by rfl) (by repeat constructor) (by rfl) (by rfl))); exact zml; exact zkp; exact ⟨rfl, p, c, O, rfl, sl0, hD, rfl⟩)
  rw [if_neg (not_not_intro hok)]
  rw [show e.chk = 0 from if_pos hok] at hce
  have hT0 : 0 ≤ e.T := hok.1
  have hl16 : l.length ≤ 16 := hr.2.1
  have hat := fun (m' : Mem) (hm' : m.le m') (p' : Option Addr) (c' : Nat) => ratO (m := m') p' c' O q d l (by omega) hz.ls (by omega) (hD.mono hm') (sl1.mono hm')
  unfold idxI at hat
  unfold lst at hla
  cases hx : idx (abs O) l with
  | none =>
    rw [hx] at hla hat
    dsimp only at hla hat ⊢
    refine Ct.enterV (by rfl) Try.func8 rfl Try.ntmps8 rfl (fun w0 Rest => ?_)
    (repeat' (first | (refine At.cutr (id := 8) (σ := CS) [1, 5] (fun s F0 => (9, .slice s.p O.length s.c) :: F0) (fun s => m) (fun s => oO s.p s.c O :: .blk b5 32 (cells e) :: Rest) (fun s => True) (by rfl) ?_ ?_) | refine zss ?_ | refine zsOM ?_ | ((with_reducible first | apply AtM1.cr | apply AtQ.cr | apply At.cr); exact rfl; exact rfl; exact fun _ hmm => hck _ hmm; exact ztk; kernel_rfl) | ((with_reducible first | apply AtM1.callp | apply AtQ.callp | apply At.callp); kernel_rfl; exact rfl; exact rfl; exact hce) | ((with_reducible first | apply AtM1.cr | apply AtQ.cr | apply At.cr); exact rfl; exact rfl; exact fun _ hmm => hla _ hmm; exact ztk; kernel_rfl) | ((with_reducible apply At.lit fN ([] : List On)); exact inferInstance; (iterate 7 exact rfl); intro _) | ((with_reducible apply At.apW (f := fN) (l := ([] : List On))); exact rfl; exact rfl; exact (by repeat constructor); exact inferInstance; exact zrdl; (iterate 4 exact rfl); exact zom; exact rfl; intro p2 c2) | ((with_reducible first | apply AtM1.cr | apply AtQ.cr | apply At.cr); exact rfl; exact rfl; exact fun _ hmm => hat _ hmm p2 c2; exact ztk; kernel_rfl) | ((with_reducible apply At.box (d := 5)); exact rfl; exact rfl; exact rfl; intro b5) | (refine zsp ?_ ?_ <;> (intro hc; (try simp only [zhcs, reduceCtorEq] at hc); (try (exfalso; first | omega | contradiction | omega | exact absurd rfl hc | exact absurd (by decide) hc))))))
    all_goals first
      | (simp only [List.nil_append]; ((with_reducible refine At.reachk ((⟨0, p2, c2⟩ : CS)) ?_ ?_ ?_ ?_); exact zsubs; exact zml; exact zente; exact trivial))
      | skip
    rintro ⟨_, p2, c2⟩ -
    dsimp only
    have hat := fun (m' : Mem) (hm' : m.le m') => hat m' hm' p2 c2
    (repeat' (first | ((with_reducible apply At.mixed (id := 6) 6 (.q 0 (.q 1 (.q 2 (.q 3 (.l 4 (.q 5 .done))))))); exact rfl; kernel_rfl; kernel_rfl; kernel_rfl) | ((with_reducible apply At.mixed (id := 11) 11 (.q 0 (.q 2 (.q 4 (.b 1 5 (.b 3 5 (.l 5 (.q 6 (.x 7 (.x 8 (.q 9 (.q 10 .done)))))) (.l 3 (.q 6 (.x 7 (.x 8 (.q 9 (.q 10 .done))))))) (.l 1 (.l 3 (.q 6 (.x 7 (.x 8 (.q 9 (.q 10 .done)))))))))))); exact rfl; kernel_rfl; kernel_rfl; kernel_rfl) | ((with_reducible apply At.mixed (id := 12) 15 (.q 0 (.q 1 (.q 3 (.q 4 (.q 5 (.q 6 (.q 7 (.q 9 (.b 2 10 (.b 8 10 (.l 10 (.x 11 (.q 12 (.q 13 (.x 14 .done))))) (.l 8 (.x 11 (.q 12 (.q 13 (.x 14 .done)))))) (.l 2 (.l 8 (.x 11 (.q 12 (.q 13 (.x 14 .done)))))))))))))))); exact rfl; kernel_rfl; kernel_rfl; kernel_rfl) | refine zsx ?_ | refine zss ?_ | ((with_reducible apply AtM.bo); exact rfl; exact rfl; exact rfl) | refine zsOM ?_ | refine zxOM ?_ | ((with_reducible first | apply AtM1.cr | apply AtQ.cr | apply At.cr); exact rfl; exact rfl; exact fun _ hmm => hat _ hmm; exact ztk; kernel_rfl) | ((with_reducible apply At.lit Lb.cells ([] : List Lab)); exact inferInstance; (iterate 7 exact rfl); intro _) | ((with_reducible apply At.apW (f := Lb.cells) (l := ([] : List Lab))); exact rfl; exact rfl; exact (by repeat constructor); exact inferInstance; exact zrdl; (iterate 4 exact rfl); exact zom; exact rfl; intro p3 c3) | ((with_reducible apply At.lit cells [e]); exact inferInstance; (iterate 7 exact rfl); intro be) | ((with_reducible apply At.litF fN [(⟨[] ++ l, p3, c3, [e], some ⟨be, 0, none⟩, 1⟩ : On)]); exact inferInstance; (iterate 7 exact rfl); intro b' m' hm' sl4; (try replace sl0 := sl0.mono hm'); (try replace sl1 := sl1.mono hm'); (try replace sl5 := sl5.mono hm'); (try replace sl6 := sl6.mono hm'); (try replace sl7 := sl7.mono hm'); (try replace sl8 := sl8.mono hm')) | ((with_reducible apply At.apW (f := fN) (l := O)); exact rfl; exact rfl; exact (by repeat constructor); exact inferInstance; exact zrdl; (iterate 4 exact rfl); exact zom; exact rfl; intro p4 c4) | ((with_reducible apply At.box (d := 5)); exact rfl; exact rfl; exact rfl; intro b5) | (refine zsp ?_ ?_ <;> (intro hc; (try simp only [zhcs, reduceCtorEq] at hc); (try (exfalso; first | omega | contradiction | omega | exact absurd rfl hc | exact absurd (by decide) hc))))))
    all_goals simp only [List.nil_append]
    all_goals refine At.own_freeze (f := Lb.cells) (sz := 2) inferInstance (by repeat constructor) fun m5 hm5 sl5 => ?_
    all_goals refine At.own_freeze (f := cells) (sz := 4) inferInstance (by repeat constructor) fun m6 hm6 sl6 => ?_
    all_goals refine At.own_freeze (f := fN) (sz := 2) inferInstance (by repeat constructor) fun m7 hm7 sl7 => ?_
    all_goals have hmm7 : m.le m7 := zml
    all_goals have hDm := hD.mono hmm7
    all_goals have s5 := (sl5.mono hm6).mono hm7
    all_goals have s6 := sl6.mono hm7
    all_goals ((with_reducible apply At.retV (B := [])); exact rfl; (repeat' (first | exact RVs.nil | (with_reducible apply RVs.cons) | exact rv_tmp (by rfl) | exact rv_cellN (by rfl) (by repeat constructor) (by rfl) (by rfl) (by rfl) | exact rv_cell1 (by rfl) (by repeat constructor) (by rfl) (by rfl))); exact zml; exact zkp; exact ⟨rfl, _, _, O ++ [(⟨l, p3, c3, [e], some ⟨be, 0, none⟩, 1⟩ : On)], rfl, sl7, ⟨fun x hx => by
      rcases List.mem_append.1 hx with hx | hx
      · exact hDm.l x hx
      · rw [List.mem_singleton.1 hx]; exact s5, fun x hx => by
      rcases List.mem_append.1 hx with hx | hx
      · exact hDm.e x hx
      · rw [List.mem_singleton.1 hx]; exact s6⟩, by unfold abs; rw [List.map_append]; rfl⟩)
  | some i =>
    rw [hx] at hla hat
    dsimp only at hla hat ⊢
    have hi := (idx_lt hx).1
    have hlab := (idx_lt hx).2
    rw [abs_len] at hi
    have hin := Ls.mem! hi
    have hab := abs_at hi
    rw [hab] at hla hlab ⊢
    have hle := hz.es _ hin
    have hti : tl (ab O[i]!) = (ab O[i]!).e[(ab O[i]!).e.length - 1]! := rfl
    rw [hti]
    generalize (ab O[i]!).e[(ab O[i]!).e.length - 1]!.T = T at hla ⊢
    by_cases hT : T < e.T
    rotate_left
    · rw [if_neg hT]
      refine Ct.enterV (by rfl) Try.func8 rfl Try.ntmps8 rfl (fun w0 Rest => ?_)
      (repeat' (first | refine zss ?_ | refine zsM ?_ | ((with_reducible first | apply AtM1.cr | apply AtQ.cr | apply At.cr); exact rfl; exact rfl; exact fun _ hmm => hck _ hmm; exact ztk; kernel_rfl) | ((with_reducible first | apply AtM1.callp | apply AtQ.callp | apply At.callp); kernel_rfl; exact rfl; exact rfl; exact hce) | ((with_reducible first | apply AtM1.cr | apply AtQ.cr | apply At.cr); exact rfl; exact rfl; exact fun _ hmm => hla _ hmm; exact ztk; kernel_rfl) | ((with_reducible apply At.box (d := 5)); exact rfl; exact rfl; exact rfl; intro b5) | (refine zsp ?_ ?_ <;> (intro hc; (try simp only [zhcs, reduceCtorEq] at hc); (try (exfalso; first | omega | contradiction | omega | exact absurd rfl hc | exact absurd (by decide) hc))))))
      all_goals ((with_reducible apply At.retV (B := [])); exact rfl; (repeat' (first | exact RVs.nil | (with_reducible apply RVs.cons) | exact rv_tmp (by rfl) | exact rv_cellN (by rfl) (by repeat constructor) (by rfl) (by rfl) (by rfl) | exact rv_cell1 (by rfl) (by repeat constructor) (by rfl) (by rfl))); exact zml; exact zkp; exact ⟨rfl, p, c, O, rfl, sl0, hD, rfl⟩)
    rw [if_pos hT]
    refine Ct.enterV (by rfl) Try.func8 rfl Try.ntmps8 rfl (fun w0 Rest => ?_)
    (repeat' (first | (refine At.cutr (id := 8) (σ := CS) [1, 5] (fun s F0 => (9, .slice s.p O.length s.c) :: F0) (fun s => m) (fun s => oO s.p s.c O :: .blk b5 32 (cells e) :: Rest) (fun s => True) (by rfl) ?_ ?_) | refine zss ?_ | refine zsOM ?_ | ((with_reducible first | apply AtM1.cr | apply AtQ.cr | apply At.cr); exact rfl; exact rfl; exact fun _ hmm => hck _ hmm; exact ztk; kernel_rfl) | ((with_reducible first | apply AtM1.callp | apply AtQ.callp | apply At.callp); kernel_rfl; exact rfl; exact rfl; exact hce) | ((with_reducible first | apply AtM1.cr | apply AtQ.cr | apply At.cr); exact rfl; exact rfl; exact fun _ hmm => hla _ hmm; exact ztk; kernel_rfl) | ((with_reducible apply At.lit fN ([] : List On)); exact inferInstance; (iterate 7 exact rfl); intro _) | ((with_reducible apply At.apW (f := fN) (l := ([] : List On))); exact rfl; exact rfl; exact (by repeat constructor); exact inferInstance; exact zrdl; (iterate 4 exact rfl); exact zom; exact rfl; intro p2 c2) | ((with_reducible apply At.box (d := 5)); exact rfl; exact rfl; exact rfl; intro b5) | (refine zsp ?_ ?_ <;> (intro hc; (try simp only [zhcs, reduceCtorEq] at hc); (try (exfalso; first | omega | contradiction | omega | exact absurd rfl hc | exact absurd (by decide) hc))))))
    all_goals first
      | (simp only [List.nil_append]; ((with_reducible refine At.reachk ((⟨0, p2, c2⟩ : CS)) ?_ ?_ ?_ ?_); exact zsubs; exact zml; exact zente; exact trivial))
      | skip
    rintro ⟨_, p2, c2⟩ -
    dsimp only
    have hat := fun (m' : Mem) (hm' : m.le m') => hat m' hm' p2 c2
    have sl8 := hD.e _ hin
    (repeat' (first | ((with_reducible apply At.mixed (id := 6) 6 (.q 0 (.q 1 (.q 2 (.q 3 (.l 4 (.q 5 .done))))))); exact rfl; kernel_rfl; kernel_rfl; kernel_rfl) | ((with_reducible apply At.mixed (id := 11) 11 (.q 0 (.q 2 (.q 4 (.b 1 5 (.b 3 5 (.l 5 (.q 6 (.x 7 (.x 8 (.q 9 (.q 10 .done)))))) (.l 3 (.q 6 (.x 7 (.x 8 (.q 9 (.q 10 .done))))))) (.l 1 (.l 3 (.q 6 (.x 7 (.x 8 (.q 9 (.q 10 .done)))))))))))); exact rfl; kernel_rfl; kernel_rfl; kernel_rfl) | ((with_reducible apply At.mixed (id := 12) 15 (.q 0 (.q 1 (.q 3 (.q 4 (.q 5 (.q 6 (.q 7 (.q 9 (.b 2 10 (.b 8 10 (.l 10 (.x 11 (.q 12 (.q 13 (.x 14 .done))))) (.l 8 (.x 11 (.q 12 (.q 13 (.x 14 .done)))))) (.l 2 (.l 8 (.x 11 (.q 12 (.q 13 (.x 14 .done)))))))))))))))); exact rfl; kernel_rfl; kernel_rfl; kernel_rfl) | refine zsx ?_ | refine zss ?_ | ((with_reducible apply AtM.bo); exact rfl; exact rfl; exact rfl) | refine zsOM ?_ | refine zxOM ?_ | ((with_reducible first | apply AtM1.cr | apply AtQ.cr | apply At.cr); exact rfl; exact rfl; exact fun _ hmm => hat _ hmm; exact ztk; kernel_rfl) | ((with_reducible apply At.lit cells ([] : List Ev)); exact inferInstance; (iterate 7 exact rfl); intro _) | ((with_reducible apply At.litF cells [e]); exact inferInstance; (iterate 7 exact rfl); intro b' m' hm' sl4; (try replace sl0 := sl0.mono hm'); (try replace sl1 := sl1.mono hm'); (try replace sl5 := sl5.mono hm'); (try replace sl6 := sl6.mono hm'); (try replace sl7 := sl7.mono hm'); (try replace sl8 := sl8.mono hm')) | ((with_reducible apply At.apW (f := cells) (l := ([] : List Ev))); exact rfl; exact rfl; exact (by repeat constructor); exact inferInstance; exact zrdl; (iterate 4 exact rfl); exact zom; exact rfl; intro p3 c3) | ((with_reducible apply At.apW (f := cells) (l := [] ++ O[i]!.e)); exact rfl; exact rfl; exact (by repeat constructor); exact inferInstance; exact zrdl; (iterate 4 exact rfl); exact zom; exact rfl; intro p4 c4) | ((with_reducible apply At.storeWf (f := fN) (x' := (⟨O[i]!.l, O[i]!.lp, O[i]!.lc, [] ++ O[i]!.e ++ [e], p4, c4⟩ : On))); (case hx => exact rfl); (case hy => exact rfl); (case hv => exact rfl); (case hp => exact (by repeat constructor)); (case hr => exact rfl); (case hf => exact inferInstance); (case hk => exact zom); (case hs => exact rfl); (case hq => exact rfl); (case h1 => exact rfl)) | ((with_reducible apply At.box (d := 5)); exact rfl; exact rfl; exact rfl; intro b5) | (refine zsp ?_ ?_ <;> (intro hc; (try simp only [zhcs, reduceCtorEq] at hc); (try (exfalso; first | omega | contradiction | omega | exact absurd rfl hc | exact absurd (by decide) hc))))))
    all_goals simp only [List.nil_append]
    all_goals refine At.own_freeze (f := cells) (sz := 4) (l := O[i]!.e ++ [e]) inferInstance (by repeat constructor) fun m6 hm6 sl6 => ?_
    all_goals refine At.own_freeze (f := fN) (sz := 2) inferInstance (by repeat constructor) fun m7 hm7 sl7 => ?_
    all_goals have hmm7 : m.le m7 := zml
    all_goals have hDm := hD.mono hmm7
    all_goals have s6 := sl6.mono hm7
    all_goals have hl7 : O.length = (O.set i (⟨O[i]!.l, O[i]!.lp, O[i]!.lc, O[i]!.e ++ [e], p4, c4⟩ : On)).length := by rw [List.length_set]
    all_goals rw [hl7]
    all_goals ((with_reducible apply At.retV (B := [])); exact rfl; (repeat' (first | exact RVs.nil | (with_reducible apply RVs.cons) | exact rv_tmp (by rfl) | exact rv_cellN (by rfl) (by repeat constructor) (by rfl) (by rfl) (by rfl) | exact rv_cell1 (by rfl) (by repeat constructor) (by rfl) (by rfl))); exact zml; exact zkp; exact ⟨rfl, _, _, O.set i (⟨O[i]!.l, O[i]!.lp, O[i]!.lc, O[i]!.e ++ [e], p4, c4⟩ : On), rfl, sl7, ⟨fun x hx => by
      rcases List.mem_or_eq_of_mem_set hx with hx | hx
      · exact hDm.l x hx
      · rw [hx]; exact hDm.l O[i]! hin, fun x hx => by
      rcases List.mem_or_eq_of_mem_set hx with hx | hx
      · exact hDm.e x hx
      · rw [hx]; exact s6⟩, by rw [set_abs]; unfold ab at hlab ⊢; dsimp only at hlab ⊢; rw [hlab]⟩)
theorem rforget {m : Mem} (p : Option Addr) (c : Nat) (O : List On) (q : Option Addr) (d : Nat) (l : List Lab) (hz : Sz O l) (sl0 : Sl m fN 2 p c O) (hD : DI m O) (sl1 : Sl m Lb.cells 2 q d l) :
    Ct Try.prog 10 #[.slice p O.length c, .slice q l.length d] m [] (PostB (forS (abs O) l).1 (.bool (forS (abs O) l).2)) := by
  have hn := hz.n
  have hat := fun (m' : Mem) (hm' : m.le m') => rat (m := m') p c O q d l (by omega) hz.ls hz.q (sl0.mono hm') (hD.mono hm') (sl1.mono hm')
  unfold idxI at hat
  unfold forS
  cases hx : idx (abs O) l with
  | none =>
    rw [hx] at hat
    dsimp only at hat ⊢
    refine Ct.enterV (by rfl) Try.func10 rfl Try.ntmps10 rfl (fun w0 Rest => ?_)
    (repeat' (first | refine zss ?_ | refine zsM ?_ | ((with_reducible first | apply AtM1.cr | apply AtQ.cr | apply At.cr); exact rfl; exact rfl; exact fun _ hmm => hat _ hmm; exact ztk; kernel_rfl) | (refine zsp ?_ ?_ <;> (intro hc; (try simp only [zhcs, reduceCtorEq] at hc); (try (exfalso; first | omega | contradiction | omega | exact absurd rfl hc | exact absurd (by decide) hc))))))
    all_goals ((with_reducible apply At.retV (B := [])); exact rfl; (repeat' (first | exact RVs.nil | (with_reducible apply RVs.cons) | exact rv_tmp (by rfl) | exact rv_cellN (by rfl) (by repeat constructor) (by rfl) (by rfl) (by rfl) | exact rv_cell1 (by rfl) (by repeat constructor) (by rfl) (by rfl))); exact zml; exact zkp; exact ⟨rfl, p, c, O, rfl, sl0, hD, rfl⟩)
  | some i =>
    rw [hx] at hat
    dsimp only at hat ⊢
    have hi := (idx_lt hx).1
    rw [abs_len] at hi
    have he : O.eraseIdx i = O.take i ++ O.drop (i + 1) := List.eraseIdx_eq_take_drop_succ ..
    refine Ct.enterV (by rfl) Try.func10 rfl Try.ntmps10 rfl (fun w0 Rest => ?_)
    (repeat' (first | ((with_reducible apply At.mixed (id := 4) 12 (.q 1 (.q 2 (.q 3 (.q 5 (.q 6 (.q 7 (.q 8 (.l 0 (.l 4 (.x 9 (.q 10 (.q 11 .done))))))))))))); exact rfl; kernel_rfl; kernel_rfl; kernel_rfl) | refine zsx ?_ | refine zss ?_ | ((with_reducible apply AtM.bo); exact rfl; exact rfl; exact rfl) | refine zsOM ?_ | refine zxOM ?_ | ((with_reducible first | apply AtM1.cr | apply AtQ.cr | apply At.cr); exact rfl; exact rfl; exact fun _ hmm => hat _ hmm; exact ztk; kernel_rfl) | ((with_reducible apply At.lit fN ([] : List On)); exact inferInstance; (iterate 7 exact rfl); intro _) | ((with_reducible apply At.apW (f := fN) (l := ([] : List On)) (l2 := O.take i)); exact rfl; exact rfl; exact (by repeat constructor); exact inferInstance; exact zrdl; (iterate 4 exact rfl); exact zom; exact rfl; intro p2 c2) | ((with_reducible apply At.apW (f := fN) (l := [] ++ O.take i) (l2 := O.drop (i + 1))); exact rfl; exact rfl; exact (by repeat constructor); exact inferInstance; exact zrdl; (iterate 4 exact rfl); exact zom; exact rfl; intro p3 c3) | (refine zsp ?_ ?_ <;> (intro hc; (try simp only [zhcs, reduceCtorEq] at hc); (try (exfalso; first | omega | contradiction | omega | exact absurd rfl hc | exact absurd (by decide) hc))))))
    all_goals simp only [List.nil_append, List.take_length]
    all_goals rw [← he]
    all_goals refine At.own_freeze (f := fN) (sz := 2) inferInstance (by repeat constructor) fun m7 hm7 sl7 => ?_
    all_goals have hDm := hD.mono (show m.le m7 from zml)
    all_goals ((with_reducible apply At.retV (B := [])); exact rfl; (repeat' (first | exact RVs.nil | (with_reducible apply RVs.cons) | exact rv_tmp (by rfl) | exact rv_cellN (by rfl) (by repeat constructor) (by rfl) (by rfl) (by rfl) | exact rv_cell1 (by rfl) (by repeat constructor) (by rfl) (by rfl))); exact zml; exact zkp; exact ⟨rfl, _, _, O.eraseIdx i, rfl, sl7, ⟨fun x hx => hDm.l x (List.mem_of_mem_eraseIdx hx), fun x hx => hDm.e x (List.mem_of_mem_eraseIdx hx)⟩, by unfold abs; rw [map_erase]⟩)
end Fl
end Go.Proofs.Ytoplagjjojlceaa
/- What the laws of flat books need: what stays true of a book; its lives. -/
set_option linter.unusedSimpArgs false
set_option linter.unusedVariables false
set_option linter.unusedSectionVars false
set_option maxRecDepth 20000
set_option maxHeartbeats 4000000
namespace Go.Proofs.Ytoplagjjojlceaa
open Go Go.J
attribute [local irreducible] At AtQ AtM AtM1 PR Ct Pu Rd Res.blk Res.own Res.ex RVs RV Res.map
namespace Fl
attribute [local irreducible] sr srs bk
open Ev
/-- so many series, so many events in each -/
def Lm (S : List Ser) (k : Nat) : Prop := S.length ≤ k ∧ ∀ x ∈ S, x.e.length ≤ k
theorem inv_nil : Inv [] := ⟨fun _ h => (by cases h), fun _ h => (by cases h), fun _ h => (by cases h), .nil, Nat.zero_le _, fun _ h => (by cases h)⟩
theorem lm_nil : Lm [] 0 := ⟨Nat.le_refl _, fun _ h => (by cases h)⟩
theorem Lm.up {S : List Ser} {j k : Nat} (h : Lm S j) (hk : j ≤ k) : Lm S k := ⟨Nat.le_trans h.1 hk, fun x hx => Nat.le_trans (h.2 x hx) hk⟩
theorem idx_no {S : List Ser} {l : List Lab} (h : idx S l = none) : ∀ x ∈ S, x.l ≠ l := fun x hx => of_decide_eq_false (by
  have := List.findIdx?_eq_none_iff.1 h x hx
  simpa using this)
theorem inv_put {S : List Ser} {l : List Lab} {e : Ev} {k : Nat} (hI : Inv S) (hk : Lm S k) (hk1 : k < 1000) (hV : e.V < 18446744073709551616) : Inv (putS S l e).1 ∧ Lm (putS S l e).1 (k + 1) := by
  unfold putS
  by_cases hr : Lb.right l
  rotate_left
  · rw [if_pos hr]; exact ⟨hI, hk.up (Nat.le_succ k)⟩
  rw [if_neg (not_not_intro hr)]
  by_cases hok : e.ok
  rotate_left
  · rw [if_pos hok]; exact ⟨hI, hk.up (Nat.le_succ k)⟩
  rw [if_neg (not_not_intro hok)]
  cases hx : idx S l with
  | none =>
    dsimp only
    have hno := idx_no hx
    have hl : (S ++ [(⟨l, [e]⟩ : Ser)]).length = S.length + 1 := by simp
    have hs := hk.1
    refine ⟨⟨fun x hx => ?_, fun x hx => ?_, fun x hx => ?_, ?_, by omega, fun x hx => ?_⟩, by omega, fun x hx => ?_⟩
    · rcases List.mem_append.1 hx with hx | hx
      · exact hI.r x hx
      · rw [List.mem_singleton.1 hx]; exact hr
    · rcases List.mem_append.1 hx with hx | hx
      · exact hI.ne x hx
      · rw [List.mem_singleton.1 hx]; simp
    · rcases List.mem_append.1 hx with hx | hx
      · exact hI.ok x hx
      · rw [List.mem_singleton.1 hx]
        intro y hy
        rw [List.mem_singleton.1 hy]
        exact ⟨hok, hV⟩
    · refine List.pairwise_append.2 ⟨hI.nd, List.pairwise_singleton _ _, fun a ha b hb => ?_⟩
      rw [List.mem_singleton.1 hb]
      exact hno a ha
    · rcases List.mem_append.1 hx with hx | hx
      · exact hI.le x hx
      · rw [List.mem_singleton.1 hx]; show 1 ≤ 1000; omega
    · rcases List.mem_append.1 hx with hx | hx
      · exact Nat.le_succ_of_le (hk.2 x hx)
      · rw [List.mem_singleton.1 hx]; show 1 ≤ k + 1; omega
  | some i =>
    dsimp only
    obtain ⟨hi, hlab⟩ := idx_lt hx
    by_cases hT : (tl S[i]!).T < e.T
    rotate_left
    · rw [if_neg hT]; exact ⟨hI, hk.up (Nat.le_succ k)⟩
    rw [if_pos hT]
    dsimp only
    have hin := Ls.mem! hi
    have hs := hk.1
    have hle := hk.2 _ hin
    have hl : (S.set i (⟨l, S[i]!.e ++ [e]⟩ : Ser)).length = S.length := List.length_set ..
    have hel : (S[i]!.e ++ [e]).length = S[i]!.e.length + 1 := by simp
    refine ⟨⟨fun x hx => ?_, fun x hx => ?_, fun x hx => ?_, ?_, by omega, fun x hx => ?_⟩, by omega, fun x hx => ?_⟩
    · rcases List.mem_or_eq_of_mem_set hx with hx | hx
      · exact hI.r x hx
      · rw [hx]; exact hr
    · rcases List.mem_or_eq_of_mem_set hx with hx | hx
      · exact hI.ne x hx
      · rw [hx]; simp
    · rcases List.mem_or_eq_of_mem_set hx with hx | hx
      · exact hI.ok x hx
      · rw [hx]
        intro y hy
        rcases List.mem_append.1 hy with hy | hy
        · exact hI.ok _ hin y hy
        · rw [List.mem_singleton.1 hy]; exact ⟨hok, hV⟩
    · have hnd := hI.nd
      have e1 : (S.set i (⟨l, S[i]!.e ++ [e]⟩ : Ser)).map Ser.l = S.map Ser.l := by
        rw [List.map_set]
        show (S.map Ser.l).set i l = _
        rw [show l = (S.map Ser.l)[i]'(by rw [List.length_map]; exact hi) by rw [List.getElem_map, ← hlab, getElem!_pos S i hi]]
        exact List.set_getElem_self ..
      have h2 : (S.map Ser.l).Pairwise (fun a b => a ≠ b) := List.pairwise_map.2 hnd
      rw [← e1] at h2
      exact List.pairwise_map.1 h2
    · rcases List.mem_or_eq_of_mem_set hx with hx | hx
      · exact hI.le x hx
      · rw [hx]; show (S[i]!.e ++ [e]).length ≤ 1000; omega
    · rcases List.mem_or_eq_of_mem_set hx with hx | hx
      · exact Nat.le_succ_of_le (hk.2 x hx)
      · rw [hx]; show (S[i]!.e ++ [e]).length ≤ k + 1; omega
theorem inv_for {S : List Ser} {l : List Lab} {k : Nat} (hI : Inv S) (hk : Lm S k) : Inv (forS S l).1 ∧ Lm (forS S l).1 k := by
  unfold forS
  cases hx : idx S l with
  | none => exact ⟨hI, hk⟩
  | some i =>
    dsimp only
    have hs := List.eraseIdx_sublist S i
    exact ⟨⟨fun x hx => hI.r x (hs.subset hx), fun x hx => hI.ne x (hs.subset hx), fun x hx => hI.ok x (hs.subset hx), hI.nd.sublist hs, Nat.le_trans hs.length_le hI.len, fun x hx => hI.le x (hs.subset hx)⟩, Nat.le_trans hs.length_le hk.1, fun x hx => hk.2 x (hs.subset hx)⟩
theorem sz_of {S : List Ser} {O : List On} (hI : Inv S) (h : abs O = S) {l : List Lab} (hl : l.length ≤ 1000000) : Sz O l := by
  have hm : ∀ x ∈ O, ab x ∈ S := fun x hx => by rw [← h]; exact List.mem_map.2 ⟨x, hx, rfl⟩
  exact ⟨by have := hI.len; rw [← h, abs_len] at this; exact this, fun x hx => by have := (hI.r _ (hm x hx)).2.1; show x.l.length ≤ _; exact Nat.le_trans this (by decide), fun x hx => hI.le _ (hm x hx), hl⟩
theorem eventsZ {m : Mem} (b : Nat) (S : List Ser) (n : Nat) (hI : Inv S) (p : Option Addr) (c : Nat) (l : List Lab) (hm : Lb.Mid l) (hn : l.length = n) (sl0 : Sl m Lb.cells 2 p c l) :
    Ct Try.prog 18 #[pt b, .slice p n c] m [bk b S] (fun v m' B => B = [bk b S] ∧ ∃ p2 c2, v = .slice p2 (evs S l).length c2 ∧ Sl m' cells 4 p2 c2 (evs S l)) := by
  subst hn
  exact Ct.slice (R := fun v p c => v = .slice p (evs S l).length c) inferInstance ((events (m := m) b S hI p c l hm sl0).mono fun v m' B _ ⟨_, p2, c2, h1, h2⟩ => ⟨p2, c2, h1, h2⟩)
abbrev lA : List Lab := [⟨[97], []⟩]
abbrev lB : List Lab := [⟨[98], []⟩]
abbrev e1 : Ev := ⟨3, 1, 0, false⟩
abbrev e2 : Ev := ⟨2, 0, 0, false⟩
abbrev e3 : Ev := ⟨3, 0, 0, false⟩
abbrev e4 : Ev := ⟨5, 9, 0, false⟩
abbrev eZ : Ev := ⟨0, 0, 0, false⟩
abbrev S1 : List Ser := [⟨lA, [e1]⟩]
abbrev S2 : List Ser := [⟨lA, [e1]⟩, ⟨lB, [e2]⟩]
abbrev S3 : List Ser := [⟨lA, [e1, e4]⟩, ⟨lB, [e2]⟩]
abbrev S4 : List Ser := [⟨lA, [e1, e4]⟩]
deriving instance DecidableEq for Ser
theorem q1 : putS [] lA e1 = (S1, 0) := by decide
theorem q2 : putS S1 lB e2 = (S2, 0) := by decide
theorem q3 : putS S2 lA e3 = (S2, 9) := by decide
theorem q4 : putS S2 lA e4 = (S3, 0) := by decide
theorem q5 : cel S3 lA 0 6 = ⟨2, e1, e4, 8, 0, 0, 2⟩ := by decide
theorem q6 : forS S3 lB = (S4, true) := by decide
theorem q7 : forS S4 lB = (S4, false) := by decide
theorem q8 : lst S4 lA = 5 := by decide
theorem q9 : lst S4 lB = -1 := by decide
theorem q10 : evs S4 lA = [e1, e4] := by decide
theorem q11 : putS S4 [] eZ = (S4, 8) := by decide
theorem i1 : Inv S1 ∧ Lm S1 1 := by have := inv_put (l := lA) (e := e1) inv_nil lm_nil (by decide) (by decide); rw [q1] at this; exact this
theorem i2 : Inv S2 ∧ Lm S2 2 := by have := inv_put (l := lB) (e := e2) i1.1 i1.2 (by decide) (by decide); rw [q2] at this; exact this
theorem i3 : Inv S3 ∧ Lm S3 3 := by have := inv_put (l := lA) (e := e4) i2.1 i2.2 (by decide) (by decide); rw [q4] at this; exact this
theorem i4 : Inv S4 ∧ Lm S4 3 := by have := inv_for (l := lB) i3.1 i3.2; rw [q6] at this; exact this
theorem mA : Lb.Mid lA := by unfold Lb.Mid; decide
theorem mB : Lb.Mid lB := by unfold Lb.Mid; decide
theorem mN : Lb.Mid [] := fun i h => absurd h (Nat.not_lt_zero i)
theorem putC {m : Mem} (b : Nat) (S S' : List Ser) (w : Int) (p : Option Addr) (c n : Nat) (l : List Lab) (e : Ev) (hI : Inv S) (hm : Lb.Mid l) (hn : l.length = n) (hV : e.V < 18446744073709551616) (hw : putS S l e = (S', w)) (sl0 : Sl m Lb.cells 2 p c l) :
    Ct Try.prog 9 #[pt b, .slice p n c, e.v] m [bk b S] (fun v m' B => v = .int .i64 w ∧ B = [bk b S']) := by
  have := put (m := m) b S hI p c l hm e hV sl0
  rw [hw, hn] at this; exact this
theorem forC {m : Mem} (b : Nat) (S S' : List Ser) (w : Bool) (p : Option Addr) (c n : Nat) (l : List Lab) (hI : Inv S) (hm : Lb.Mid l) (hn : l.length = n) (hw : forS S l = (S', w)) (sl0 : Sl m Lb.cells 2 p c l) :
    Ct Try.prog 11 #[pt b, .slice p n c] m [bk b S] (fun v m' B => v = .bool w ∧ B = [bk b S']) := by
  have := forget (m := m) b S hI p c l hm sl0
  rw [hw, hn] at this; exact this
theorem celC {m : Mem} (b : Nat) (S : List Ser) (u v : Int) (C : Cell) (p : Option Addr) (c n : Nat) (l : List Lab) (hI : Inv S) (hm : Lb.Mid l) (hn : l.length = n) (hw : cel S l u v = C) (sl0 : Sl m Lb.cells 2 p c l) :
    Ct Try.prog 13 #[pt b, .slice p n c, .int .i64 u, .int .i64 v] m [bk b S] (fun v' m' B => v' = C.v ∧ B = [bk b S]) := by
  have := cell (m := m) b S hI p c l hm u v sl0
  rw [hw, hn] at this; exact this
theorem lstC {m : Mem} (b : Nat) (S : List Ser) (w : Int) (p : Option Addr) (c n : Nat) (l : List Lab) (hI : Inv S) (hm : Lb.Mid l) (hn : l.length = n) (hw : lst S l = w) (sl0 : Sl m Lb.cells 2 p c l) :
    Rd Try.prog 15 #[pt b, .slice p n c] m [bk b S] (.int .i64 w) := by
  have := last (m := m) b S hI p c l hm sl0
  rw [hw, hn] at this; exact this
theorem evsC {m : Mem} (b : Nat) (S : List Ser) (L : List Ev) (k : Nat) (p : Option Addr) (c n : Nat) (l : List Lab) (hI : Inv S) (hm : Lb.Mid l) (hn : l.length = n) (hw : evs S l = L) (hk : L.length = k) (sl0 : Sl m Lb.cells 2 p c l) :
    Ct Try.prog 18 #[pt b, .slice p n c] m [bk b S] (fun v m' B => B = [bk b S] ∧ ∃ p2 c2, v = .slice p2 k c2 ∧ Sl m' cells 4 p2 c2 L) := by
  have := eventsZ (m := m) b S n hI p c l hm hn sl0
  rw [hw, hk] at this; exact this
theorem allC {m : Mem} (b : Nat) (S : List Ser) (k : Nat) (hI : Inv S) (hk : S.length = k) :
    Ct Try.prog 12 #[pt b] m [bk b S] (fun v m' B => B = [bk b S] ∧ ∃ p c, ∃ L : List (Ls.SX Lab), v = .slice p k c ∧ L.map (·.l) = S.map Ser.l ∧ Sl m' Ls.fX 1 p c L ∧ ∀ x ∈ L, Sl m' Lb.cells 2 x.p x.c x.l) := by
  have := all (m := m) b S hI
  rw [hk] at this; exact this
set_option maxHeartbeats 4000000 in
theorem lives : Pu Try.prog 5 #[] (.bool true) := Pu.of_le fun m => by
  refine Ct.enterV (by rfl) Try.func5 rfl Try.ntmps5 rfl (fun w0 Rest => ?_)
  (repeat' (first | refine zss ?_ | refine zsOM ?_ | ((with_reducible first | apply At.c1 | apply At.c0); exact rfl; exact rfl; exact new_; exact ztk; kernel_rfl; rintro v' m' B' hm' ⟨rfl, bB, rfl, rfl⟩; (try replace sl1 := sl1.mono hm'); (try replace sl2 := sl2.mono hm'); (try replace sl5 := sl5.mono hm'); (try replace sl6 := sl6.mono hm'); (try (have hq0 : hm' = Mem.le_refl _ := rfl; clear hq0 hm'))) | ((with_reducible apply At.litF Lb.cells lA); exact inferInstance; (iterate 7 exact rfl); intro b' m' hm' sl1; (try replace sl2 := sl2.mono hm'); (try replace sl5 := sl5.mono hm'); (try replace sl6 := sl6.mono hm')) | ((with_reducible apply At.litF Lb.cells lB); exact inferInstance; (iterate 7 exact rfl); intro b' m' hm' sl2; (try replace sl1 := sl1.mono hm'); (try replace sl5 := sl5.mono hm'); (try replace sl6 := sl6.mono hm')) | ((with_reducible first | apply At.c1 | apply At.c0); exact rfl; exact rfl; exact putC bB [] S1 0 _ _ 1 lA e1 inv_nil mA rfl (by decide) q1 sl1; exact ztk; kernel_rfl; rintro v' m' B' hm' ⟨rfl, rfl⟩; (try replace sl1 := sl1.mono hm'); (try replace sl2 := sl2.mono hm'); (try replace sl5 := sl5.mono hm'); (try replace sl6 := sl6.mono hm'); (try (have hq0 : hm' = Mem.le_refl _ := rfl; clear hq0 hm'))) | ((with_reducible first | apply At.c1 | apply At.c0); exact rfl; exact rfl; exact putC bB S1 S2 0 _ _ 1 lB e2 i1.1 mB rfl (by decide) q2 sl2; exact ztk; kernel_rfl; rintro v' m' B' hm' ⟨rfl, rfl⟩; (try replace sl1 := sl1.mono hm'); (try replace sl2 := sl2.mono hm'); (try replace sl5 := sl5.mono hm'); (try replace sl6 := sl6.mono hm'); (try (have hq0 : hm' = Mem.le_refl _ := rfl; clear hq0 hm'))) | ((with_reducible first | apply At.c1 | apply At.c0); exact rfl; exact rfl; exact putC bB S2 S2 9 _ _ 1 lA e3 i2.1 mA rfl (by decide) q3 sl1; exact ztk; kernel_rfl; rintro v' m' B' hm' ⟨rfl, rfl⟩; (try replace sl1 := sl1.mono hm'); (try replace sl2 := sl2.mono hm'); (try replace sl5 := sl5.mono hm'); (try replace sl6 := sl6.mono hm'); (try (have hq0 : hm' = Mem.le_refl _ := rfl; clear hq0 hm'))) | ((with_reducible first | apply At.c1 | apply At.c0); exact rfl; exact rfl; exact putC bB S2 S3 0 _ _ 1 lA e4 i2.1 mA rfl (by decide) q4 sl1; exact ztk; kernel_rfl; rintro v' m' B' hm' ⟨rfl, rfl⟩; (try replace sl1 := sl1.mono hm'); (try replace sl2 := sl2.mono hm'); (try replace sl5 := sl5.mono hm'); (try replace sl6 := sl6.mono hm'); (try (have hq0 : hm' = Mem.le_refl _ := rfl; clear hq0 hm'))) | ((with_reducible first | apply At.c1 | apply At.c0); exact rfl; exact rfl; exact celC bB S3 0 6 ⟨2, e1, e4, 8, 0, 0, 2⟩ _ _ 1 lA i3.1 mA rfl q5 sl1; exact ztk; kernel_rfl; rintro v' m' B' hm' ⟨rfl, rfl⟩; (try replace sl1 := sl1.mono hm'); (try replace sl2 := sl2.mono hm'); (try replace sl5 := sl5.mono hm'); (try replace sl6 := sl6.mono hm'); (try (have hq0 : hm' = Mem.le_refl _ := rfl; clear hq0 hm'))) | ((with_reducible first | apply At.c1 | apply At.c0); exact rfl; exact rfl; exact allC bB S3 2 i3.1 rfl; exact ztk; kernel_rfl; rintro v' m' B' hm' ⟨rfl, p5, c5, L5, rfl, hL5, sl5, hX5⟩; (try replace sl1 := sl1.mono hm'); (try replace sl2 := sl2.mono hm'); (try replace sl5 := sl5.mono hm'); (try replace sl6 := sl6.mono hm'); (try (have hq0 : hm' = Mem.le_refl _ := rfl; clear hq0 hm'))) | ((with_reducible first | apply At.c1 | apply At.c0); exact rfl; exact rfl; exact forC bB S3 S4 true _ _ 1 lB i3.1 mB rfl q6 sl2; exact ztk; kernel_rfl; rintro v' m' B' hm' ⟨rfl, rfl⟩; (try replace sl1 := sl1.mono hm'); (try replace sl2 := sl2.mono hm'); (try replace sl5 := sl5.mono hm'); (try replace sl6 := sl6.mono hm'); (try (have hq0 : hm' = Mem.le_refl _ := rfl; clear hq0 hm'))) | ((with_reducible first | apply At.c1 | apply At.c0); exact rfl; exact rfl; exact forC bB S4 S4 false _ _ 1 lB i4.1 mB rfl q7 sl2; exact ztk; kernel_rfl; rintro v' m' B' hm' ⟨rfl, rfl⟩; (try replace sl1 := sl1.mono hm'); (try replace sl2 := sl2.mono hm'); (try replace sl5 := sl5.mono hm'); (try replace sl6 := sl6.mono hm'); (try (have hq0 : hm' = Mem.le_refl _ := rfl; clear hq0 hm'))) | ((with_reducible first | apply AtM1.cr | apply AtQ.cr | apply At.cr); exact rfl; exact rfl; exact fun _ hmm => lstC bB S4 5 _ _ 1 lA i4.1 mA rfl q8 (sl1.mono hmm); exact ztk; kernel_rfl) | ((with_reducible first | apply AtM1.cr | apply AtQ.cr | apply At.cr); exact rfl; exact rfl; exact fun _ hmm => lstC bB S4 (-1) _ _ 1 lB i4.1 mB rfl q9 (sl2.mono hmm); exact ztk; kernel_rfl) | ((with_reducible first | apply At.c1 | apply At.c0); exact rfl; exact rfl; exact evsC bB S4 [e1, e4] 2 _ _ 1 lA i4.1 mA rfl q10 rfl sl1; exact ztk; kernel_rfl; rintro v' m' B' hm' ⟨rfl, p6, c6, rfl, sl6⟩; (try replace sl1 := sl1.mono hm'); (try replace sl2 := sl2.mono hm'); (try replace sl5 := sl5.mono hm'); (try replace sl6 := sl6.mono hm'); (try (have hq0 : hm' = Mem.le_refl _ := rfl; clear hq0 hm'))) | ((with_reducible first | apply At.c1 | apply At.c0); exact rfl; exact rfl; exact putC bB S4 S4 8 none 0 0 [] eZ i4.1 mN rfl (by decide) q11 (Sl.empty _ inferInstance); exact ztk; kernel_rfl; rintro v' m' B' hm' ⟨rfl, rfl⟩; (try replace sl1 := sl1.mono hm'); (try replace sl2 := sl2.mono hm'); (try replace sl5 := sl5.mono hm'); (try replace sl6 := sl6.mono hm'); (try (have hq0 : hm' = Mem.le_refl _ := rfl; clear hq0 hm'))) | ((with_reducible apply At.alloc (d := 8)); exact rfl; exact rfl; intro b8) | (refine zsp ?_ ?_ <;> (intro hc; (try simp only [zhcs, reduceCtorEq] at hc); (try (exfalso; first | contradiction | omega | exact absurd rfl hc | exact absurd (by decide) hc))))))
  all_goals ((with_reducible apply At.retB1 (B := [])); exact rfl; exact rfl; exact zml; exact zkp; exact ⟨rfl, zml, rfl⟩)
end Fl
end Go.Proofs.Ytoplagjjojlceaa
/- FlatPlays: the law's walk. -/
set_option linter.unusedSimpArgs false
set_option linter.unusedVariables false
set_option linter.unusedSectionVars false
set_option maxRecDepth 20000
set_option maxHeartbeats 4000000
namespace Go.Proofs.Ytoplagjjojlceaa
open Go Go.J
attribute [local irreducible] At AtQ AtM AtM1 PR Ct Pu Rd Res.blk Res.own Res.ex RVs RV Res.map
namespace Fl
attribute [local irreducible] sr srs bk
open Ev
/-- an act, and where its labels lie -/
structure Act where
  (k : Int) (l : List Lab) (lp : Option Addr) (lc : Nat) (e : Ev)
instance : Inhabited Act := ⟨⟨0, [], none, 0, ⟨0, 0, 0, false⟩⟩⟩
abbrev fA : Act → List Value := fun x => [.int .i64 x.k, .slice x.lp x.l.length x.lc, .int .i64 x.e.T, .int .u64 x.e.V, .int .i64 x.e.C, .bool x.e.S]
instance : Fl fA 6 := ⟨fun _ => rfl, fun _ v h => by simp at h; rcases h with rfl | rfl | rfl | rfl | rfl | rfl <;> rfl, by decide⟩
theorem pr_cneF {n : Nat} {F : Fr} {C : World → Prop} {x y : Operand} {u : TypeId} {a : Cell} (hx : ev F x = some a.v) (hy : ev F y = some a.v) : PR Try.prog n F C (.binOp .neq 47 x y u) (.bool false) := by
  have := Cell.pr_cne (n := n) (C := C) (u := u) hx hy
  rwa [decide_eq_true rfl] at this
theorem sameT {m : Mem} (p : Option Addr) (c : Nat) (q : Option Addr) (d : Nat) (l : List Ev) (hl : l.length ≤ 1000000) (s0 : Sl m cells 4 p c l) (s1 : Sl m cells 4 q d l) :
    Rd Try.prog 17 #[.slice p l.length c, .slice q l.length d] m [] (.bool true) := by
  have := Mrg.same p c l q d l hl hl s0 s1
  rwa [decide_eq_true rfl] at this
theorem lab_at {L : List (Ls.SX Lab)} {O : List On} (h : L.map (·.l) = (abs O).map Ser.l) {j : Nat} (hj : j < O.length) : j < L.length ∧ L[j]!.l = O[j]!.l := by
  have hl := congrArg List.length h
  simp only [List.length_map, abs_len] at hl
  have hj' : j < L.length := by omega
  refine ⟨hj', ?_⟩
  have h2 : (L.map (·.l))[j]? = ((abs O).map Ser.l)[j]? := by rw [h]
  unfold abs at h2
  rw [List.getElem?_map, List.getElem?_map, List.getElem?_map, List.getElem?_eq_getElem hj', List.getElem?_eq_getElem hj] at h2
  rw [getElem!_pos L j hj', getElem!_pos O j hj]
  simpa [ab] using h2
theorem allL {m : Mem} (b : Nat) (S : List Ser) (hI : Inv S) :
    Ct Try.prog 12 #[pt b] m [bk b S] (fun v m' B => B = [bk b S] ∧ ∃ p c, ∃ L : List (Ls.SX Lab), v = .slice p L.length c ∧ (L.length = S.length ∧ L.map (·.l) = S.map Ser.l) ∧ Sl m' Ls.fX 1 p c L ∧ ∀ x ∈ L, Sl m' Lb.cells 2 x.p x.c x.l) :=
  (all (m := m) b S hI).mono fun v m' B _ ⟨h1, p, c, L, h2, h3, h4, h5⟩ => by
    have hl := congrArg List.length h3
    simp only [List.length_map] at hl
    exact ⟨h1, p, c, L, by rw [hl]; exact h2, ⟨hl, h3⟩, h4, h5⟩
structure PS where
  (i : Nat) (O : List On) (p : Option Addr) (c : Nat) (M : Mem)
structure PO where
  (O : List On) (p : Option Addr) (c : Nat) (M : Mem)
set_option maxHeartbeats 4000000 in
theorem playsT {m : Mem} (pA : Option Addr) (cA : Nat) (A : List Act) (pq : Option Addr) (cq : Nat) (q : List Lab) (u v : Int) (sl0 : Sl m fA 6 pA cA A) (hA : ∀ x ∈ A, Sl m Lb.cells 2 x.lp x.lc x.l) (hV : ∀ x ∈ A, x.e.V < 18446744073709551616) (sl1 : Sl m Lb.cells 2 pq cq q) :
    Ct Try.prog 3 #[.slice pA A.length cA, .slice pq q.length cq, .int .i64 u, .int .i64 v] m [] (fun v m' B => v = .bool true ∧ B = []) := by
  have hsm := fun (m' : Mem) (hm' : m.le m') => Lb.small (m := m') pq cq q (sl1.mono hm')
  have hlv := lives
  by_cases h60 : A.length ≤ 60
  rotate_left
  · refine Ct.enterV (by rfl) Try.func3 rfl Try.ntmps3 rfl (fun w0 Rest => ?_)
    (repeat' (first | refine zss ?_ | refine zsM ?_ | ((with_reducible first | apply AtM1.cr | apply AtQ.cr | apply At.cr); exact rfl; exact rfl; exact fun _ hmm => hsm _ hmm; exact ztk; kernel_rfl) | ((with_reducible first | apply AtM1.callp | apply AtQ.callp | apply At.callp); kernel_rfl; exact rfl; exact rfl; exact hlv) | ((with_reducible apply At.alloc (d := 12)); exact rfl; exact rfl; intro b12) | (refine zsp ?_ ?_ <;> (intro hc; (try simp only [zhcs, reduceCtorEq] at hc); (try (exfalso; first | omega | contradiction | omega | exact absurd rfl hc | exact absurd (by decide) hc))))))
    all_goals ((with_reducible apply At.retB1 (B := [])); exact rfl; exact rfl; exact zml; exact zkp; exact ⟨rfl, rfl⟩)
  by_cases hf : Lb.few q
  rotate_left
  · rw [if_neg hf] at hsm
    refine Ct.enterV (by rfl) Try.func3 rfl Try.ntmps3 rfl (fun w0 Rest => ?_)
    (repeat' (first | refine zss ?_ | refine zsM ?_ | ((with_reducible first | apply AtM1.cr | apply AtQ.cr | apply At.cr); exact rfl; exact rfl; exact fun _ hmm => hsm _ hmm; exact ztk; kernel_rfl) | ((with_reducible first | apply AtM1.callp | apply AtQ.callp | apply At.callp); kernel_rfl; exact rfl; exact rfl; exact hlv) | ((with_reducible apply At.alloc (d := 12)); exact rfl; exact rfl; intro b12) | (refine zsp ?_ ?_ <;> (intro hc; (try simp only [zhcs, reduceCtorEq] at hc); (try (exfalso; first | omega | contradiction | omega | exact absurd rfl hc | exact absurd (by decide) hc))))))
    all_goals ((with_reducible apply At.retB1 (B := [])); exact rfl; exact rfl; exact zml; exact zkp; exact ⟨rfl, rfl⟩)
  rw [if_pos hf] at hsm
  have hqm := hf.mid
  have hq40 : q.length ≤ 40 := hf.1
  refine Ct.enterV (by rfl) Try.func3 rfl Try.ntmps3 rfl (fun w0 Rest => ?_)
  (repeat' (first | refine zss ?_ | refine zsM ?_ | ((with_reducible first | apply AtM1.cr | apply AtQ.cr | apply At.cr); exact rfl; exact rfl; exact fun _ hmm => hsm _ hmm; exact ztk; kernel_rfl) | ((with_reducible first | apply AtM1.callp | apply AtQ.callp | apply At.callp); kernel_rfl; exact rfl; exact rfl; exact hlv) | ((with_reducible first | apply At.c1 | apply At.c0); exact rfl; exact rfl; exact new_; exact ztk; kernel_rfl; rintro v' m' B' hm' ⟨rfl, bB, rfl, rfl⟩; (try replace sl0 := sl0.mono hm'); (try replace sl1 := sl1.mono hm'); (try replace sl2 := sl2.mono hm'); (try replace sl3 := sl3.mono hm'); (try replace sl4 := sl4.mono hm'); (try replace sl5 := sl5.mono hm'); (try replace sl6 := sl6.mono hm'); (try replace sl7 := sl7.mono hm'); (try (have hq0 : hm' = Mem.le_refl _ := rfl; clear hq0 hm'))) | ((with_reducible apply At.alloc (d := 12)); exact rfl; exact rfl; intro b12) | (refine zsp ?_ ?_ <;> (intro hc; (try simp only [zhcs, reduceCtorEq] at hc); (try (exfalso; first | omega | contradiction | omega | exact absurd rfl hc | exact absurd (by decide) hc))))))
  clear hsm hlv
  (refine At.loopk (σ := PS) [1, 2, 3, 9, 33, 34] (fun s F0 => (35, .int .i64 (s.i : Int)) :: (10, .slice s.p s.O.length s.c) :: F0) (fun s => s.M) (fun s => bk bB (abs s.O) :: Rest) (fun s => m.le s.M ∧ s.i ≤ A.length ∧ Inv (abs s.O) ∧ Lm (abs s.O) s.i ∧ Sl s.M fN 2 s.p s.c s.O ∧ DI s.M s.O) (fun s => A.length - s.i) ⟨0, [], none, 0, m⟩ (by rfl) ?_ zsubs zml zente ?_)
  · exact ⟨Mem.le_refl _, Nat.zero_le _, inv_nil, lm_nil, Sl.empty _ inferInstance, ⟨fun _ h => (by cases h), fun _ h => (by cases h)⟩⟩
  rintro ⟨i, O, p, c, M⟩ ⟨h0, h1, hI, hL, sl2, hD⟩
  dsimp only at h0 h1 hI hL sl2 hD ⊢
  replace sl0 := sl0.mono h0
  replace sl1 := sl1.mono h0
  by_cases h : i < A.length
  · have hin := Ls.mem! h
    have hAi := (hA _ hin).mono h0
    have hVi := hV _ hin
    have hls := fun (m' : Mem) (hm' : M.le m') => Lb.small (m := m') A[i]!.lp A[i]!.lc A[i]!.l (hAi.mono hm')
    by_cases hfi : Lb.few A[i]!.l
    · rw [if_pos hfi] at hls
      have hmi := hfi.mid
      have h40 : A[i]!.l.length ≤ 40 := hfi.1
      have hz := sz_of hI rfl (l := A[i]!.l) (by omega)
      have hip := inv_put (l := A[i]!.l) (e := A[i]!.e) hI hL (by omega) hVi
      have hif := inv_for (l := A[i]!.l) hI hL
      have hLu := hL.up (Nat.le_succ i)
      have k1 := fun (m' : Mem) (hm' : M.le m') (s0 : Sl m' fN 2 p c O) (hD' : DI m' O) => rput (m := m') p c O A[i]!.lp A[i]!.lc A[i]!.l hmi hz hI A[i]!.e hVi s0 hD' (hAi.mono hm')
      have k2 := fun (m' : Mem) (hm' : M.le m') => put (m := m') bB (abs O) hI A[i]!.lp A[i]!.lc A[i]!.l hmi A[i]!.e hVi (hAi.mono hm')
      have k3 := fun (m' : Mem) (hm' : M.le m') (s0 : Sl m' fN 2 p c O) (hD' : DI m' O) => rforget (m := m') p c O A[i]!.lp A[i]!.lc A[i]!.l hz s0 hD' (hAi.mono hm')
      have k4 := fun (m' : Mem) (hm' : M.le m') => forget (m := m') bB (abs O) hI A[i]!.lp A[i]!.lc A[i]!.l hmi (hAi.mono hm')
      (repeat' (first | ((refine At.cutb (id := 2) (σ := PO) [1, 2, 3, 9, 33, 34, 35] (fun s F0 => (10, .slice s.p s.O.length s.c) :: F0) (fun s => s.M) (fun s => bk bB (abs s.O) :: Rest) (fun s => M.le s.M ∧ Inv (abs s.O) ∧ Lm (abs s.O) (i + 1) ∧ Sl s.M fN 2 s.p s.c s.O ∧ DI s.M s.O) (by rfl) ?_ ?_)) | refine zss ?_ | refine zsM ?_ | ((with_reducible first | apply AtM1.cr | apply AtQ.cr | apply At.cr); exact rfl; exact rfl; exact fun _ hmm => hls _ hmm; exact ztk; kernel_rfl) | ((with_reducible first | apply At.c1 | apply At.c0); exact rfl; exact rfl; exact k1 _ zml sl2 (hD.mono zml); exact ztk; kernel_rfl; rintro v' m' B' hm' ⟨rfl, p2, c2, O2, rfl, sl3, hD2, hO2⟩; (try replace sl0 := sl0.mono hm'); (try replace sl1 := sl1.mono hm'); (try replace sl2 := sl2.mono hm'); (try replace sl3 := sl3.mono hm'); (try replace sl4 := sl4.mono hm'); (try replace sl5 := sl5.mono hm'); (try replace sl6 := sl6.mono hm'); (try replace sl7 := sl7.mono hm'); (try (have hq0 : hm' = Mem.le_refl _ := rfl; clear hq0 hm'))) | ((with_reducible first | apply At.c1 | apply At.c0); exact rfl; exact rfl; exact k2 _ zml; exact ztk; kernel_rfl; rintro v' m' B' hm' ⟨rfl, rfl⟩; (try replace sl0 := sl0.mono hm'); (try replace sl1 := sl1.mono hm'); (try replace sl2 := sl2.mono hm'); (try replace sl3 := sl3.mono hm'); (try replace sl4 := sl4.mono hm'); (try replace sl5 := sl5.mono hm'); (try replace sl6 := sl6.mono hm'); (try replace sl7 := sl7.mono hm'); (try (have hq0 : hm' = Mem.le_refl _ := rfl; clear hq0 hm'))) | ((with_reducible first | apply At.c1 | apply At.c0); exact rfl; exact rfl; exact k3 _ zml sl2 (hD.mono zml); exact ztk; kernel_rfl; rintro v' m' B' hm' ⟨rfl, p3, c3, O3, rfl, sl4, hD3, hO3⟩; (try replace sl0 := sl0.mono hm'); (try replace sl1 := sl1.mono hm'); (try replace sl2 := sl2.mono hm'); (try replace sl3 := sl3.mono hm'); (try replace sl4 := sl4.mono hm'); (try replace sl5 := sl5.mono hm'); (try replace sl6 := sl6.mono hm'); (try replace sl7 := sl7.mono hm'); (try (have hq0 : hm' = Mem.le_refl _ := rfl; clear hq0 hm'))) | ((with_reducible first | apply At.c1 | apply At.c0); exact rfl; exact rfl; exact k4 _ zml; exact ztk; kernel_rfl; rintro v' m' B' hm' ⟨rfl, rfl⟩; (try replace sl0 := sl0.mono hm'); (try replace sl1 := sl1.mono hm'); (try replace sl2 := sl2.mono hm'); (try replace sl3 := sl3.mono hm'); (try replace sl4 := sl4.mono hm'); (try replace sl5 := sl5.mono hm'); (try replace sl6 := sl6.mono hm'); (try replace sl7 := sl7.mono hm'); (try (have hq0 : hm' = Mem.le_refl _ := rfl; clear hq0 hm'))) | ((with_reducible apply At.alloc (d := 12)); exact rfl; exact rfl; intro b12) | (refine zsp ?_ ?_ <;> (intro hc; (try simp only [zhcs, reduceCtorEq] at hc); (try (exfalso; first | omega | contradiction | omega | exact absurd rfl hc | exact absurd (by decide) hc))))))
      all_goals first
        | (rw [← hO2]; ((with_reducible refine At.reachk ((⟨O2, p2, c2, m'⟩ : PO)) ?_ ?_ ?_ ?_); exact zsubs; exact zml; exact zente; exact ⟨zml, by rw [hO2]; exact hip.1, by rw [hO2]; exact hip.2, sl3, hD2.mono zml⟩))
        | (rw [← hO3]; ((with_reducible refine At.reachk ((⟨O3, p3, c3, m'⟩ : PO)) ?_ ?_ ?_ ?_); exact zsubs; exact zml; exact zente; exact ⟨zml, by rw [hO3]; exact hif.1, by rw [hO3]; exact hif.2.up (Nat.le_succ i), sl4, hD3.mono zml⟩))
        | (((with_reducible refine At.reachk ((⟨O, p, c, M⟩ : PO)) ?_ ?_ ?_ ?_); exact zsubs; exact zml; exact zente; exact ⟨zml, hI, hLu, sl2, hD⟩))
        | skip
      clear k1 k2 k3 k4 hls hip hif hLu hz hL hI hAi
      rintro ⟨O, p, c, M1⟩ ⟨h0', hI, hL, sl2, hD⟩
      dsimp only at h0' hI hL sl2 hD ⊢
      replace sl0 := sl0.mono h0'
      replace sl1 := sl1.mono h0'
      have hlen := abs_len O
      have hO1 := hI.len
      rw [hlen] at hO1
      obtain ⟨hb1, hb2⟩ := evs_bd hI q
      have hz := sz_of hI rfl (l := q) (by omega)
      have kall := fun (m' : Mem) => allL (m := m') bB (abs O) hI
      have kc := fun (m' : Mem) (hm' : M1.le m') => cell (m := m') bB (abs O) hI pq cq q hqm u v (sl1.mono hm')
      have krc := fun (m' : Mem) (hm' : M1.le m') => rcell (m := m') p c O pq cq q u v hz ⟨hb1, fun e he => (hb2 e he).2⟩ (sl2.mono hm') (hD.mono hm') (sl1.mono hm')
      have kl := fun (m' : Mem) (hm' : M1.le m') => last (m := m') bB (abs O) hI pq cq q hqm (sl1.mono hm')
      have krl := fun (m' : Mem) (hm' : M1.le m') => rlast (m := m') p c O pq cq q hz hI.ne hb1 (sl2.mono hm') (hD.mono hm') (sl1.mono hm')
      have ke := fun (m' : Mem) (hm' : M1.le m') => eventsZ (m := m') bB (abs O) q.length hI pq cq q hqm rfl (sl1.mono hm')
      have kre := fun (m' : Mem) (hm' : M1.le m') => revents (m := m') p c O pq cq q hz (sl2.mono hm') (hD.mono hm') (sl1.mono hm')
      clear hb2 hO1
      (repeat' (first | refine zss ?_ | ((first | (with_reducible first | apply At.val | apply AtQ.val)); (exact pr_cneF (by rfl) (by rfl)); exact rfl) | refine zsM ?_ | ((with_reducible first | apply At.c1 | apply At.c0); exact rfl; exact rfl; exact kall _; exact ztk; kernel_rfl; rintro v' m' B' hm' ⟨rfl, p5, c5, L, rfl, ⟨hLn, hLm⟩, sl5, hLx⟩; (try replace sl0 := sl0.mono hm'); (try replace sl1 := sl1.mono hm'); (try replace sl2 := sl2.mono hm'); (try replace sl3 := sl3.mono hm'); (try replace sl4 := sl4.mono hm'); (try replace sl5 := sl5.mono hm'); (try replace sl6 := sl6.mono hm'); (try replace sl7 := sl7.mono hm'); (try (have hq0 : hm' = Mem.le_refl _ := rfl; clear hq0 hm'))) | ((with_reducible first | apply At.c1 | apply At.c0); exact rfl; exact rfl; exact kc _ zml; exact ztk; kernel_rfl; rintro v' m' B' hm' ⟨rfl, rfl⟩; (try replace sl0 := sl0.mono hm'); (try replace sl1 := sl1.mono hm'); (try replace sl2 := sl2.mono hm'); (try replace sl3 := sl3.mono hm'); (try replace sl4 := sl4.mono hm'); (try replace sl5 := sl5.mono hm'); (try replace sl6 := sl6.mono hm'); (try replace sl7 := sl7.mono hm'); (try (have hq0 : hm' = Mem.le_refl _ := rfl; clear hq0 hm'))) | ((with_reducible first | apply At.c1 | apply At.c0); exact rfl; exact rfl; exact krc _ zml; exact ztk; kernel_rfl; rintro v' m' B' hm' ⟨rfl, rfl⟩; (try replace sl0 := sl0.mono hm'); (try replace sl1 := sl1.mono hm'); (try replace sl2 := sl2.mono hm'); (try replace sl3 := sl3.mono hm'); (try replace sl4 := sl4.mono hm'); (try replace sl5 := sl5.mono hm'); (try replace sl6 := sl6.mono hm'); (try replace sl7 := sl7.mono hm'); (try (have hq0 : hm' = Mem.le_refl _ := rfl; clear hq0 hm'))) | ((with_reducible first | apply AtM1.cr | apply AtQ.cr | apply At.cr); exact rfl; exact rfl; exact fun _ hmm => kl _ (Mem.le_trans zml hmm); exact ztk; kernel_rfl) | ((with_reducible first | apply AtM1.cr | apply AtQ.cr | apply At.cr); exact rfl; exact rfl; exact fun _ hmm => krl _ (Mem.le_trans zml hmm); exact ztk; kernel_rfl) | ((with_reducible first | apply At.c1 | apply At.c0); exact rfl; exact rfl; exact ke _ zml; exact ztk; kernel_rfl; rintro v' m' B' hm' ⟨rfl, p6, c6, rfl, sl6⟩; (try replace sl0 := sl0.mono hm'); (try replace sl1 := sl1.mono hm'); (try replace sl2 := sl2.mono hm'); (try replace sl3 := sl3.mono hm'); (try replace sl4 := sl4.mono hm'); (try replace sl5 := sl5.mono hm'); (try replace sl6 := sl6.mono hm'); (try replace sl7 := sl7.mono hm'); (try (have hq0 : hm' = Mem.le_refl _ := rfl; clear hq0 hm'))) | ((with_reducible first | apply At.c1 | apply At.c0); exact rfl; exact rfl; exact kre _ zml; exact ztk; kernel_rfl; rintro v' m' B' hm' ⟨rfl, rfl, p7, c7, rfl, sl7⟩; (try replace sl0 := sl0.mono hm'); (try replace sl1 := sl1.mono hm'); (try replace sl2 := sl2.mono hm'); (try replace sl3 := sl3.mono hm'); (try replace sl4 := sl4.mono hm'); (try replace sl5 := sl5.mono hm'); (try replace sl6 := sl6.mono hm'); (try replace sl7 := sl7.mono hm'); (try (have hq0 : hm' = Mem.le_refl _ := rfl; clear hq0 hm'))) | ((with_reducible first | apply AtM1.cr | apply AtQ.cr | apply At.cr); exact rfl; exact rfl; exact fun _ hmm => sameT _ _ _ _ _ (Nat.le_trans hb1 (by decide)) (sl6.mono hmm) (sl7.mono hmm); exact ztk; kernel_rfl) | ((with_reducible apply At.alloc (d := 12)); exact rfl; exact rfl; intro b12) | (refine zsp ?_ ?_ <;> (intro hc; (try simp only [zhcs, reduceCtorEq] at hc); (try (exfalso; first | omega | contradiction | omega | exact absurd rfl hc | exact absurd (by decide) hc))))))
      clear kall kc krc kl krl ke kre sl6 sl7
      have hLx2 : ∀ x ∈ L, Sl m' Lb.cells 2 x.p x.c x.l := fun x hx => (hLx x hx).mono zml
      clear hLx
      have hMm : M1.le m' := zml
      have hLb : L.length ≤ 1000 := by rw [hLn]; exact hI.len
      have hDm : DI m' O := hD.mono hMm
      have hmm' : m.le m' := zml
      clear hD
      (refine At.loopk (σ := Nat) [1, 2, 3, 9, 10, 33, 34, 35, 120, 121] (fun s F0 => (122, .int .i64 (s : Int)) :: F0) (fun s => m') (fun s => bk bB (abs O) :: Rest) (fun s => s ≤ L.length) (fun s => L.length - s) 0 (by rfl) ?_ zsubs zml zente ?_)
      · exact Nat.zero_le _
      rintro j hj
      by_cases hjL : j < L.length
      · have hjl : j < O.length := by omega
        obtain ⟨hj1, hj2⟩ := lab_at hLm hjl
        have hLj := hLx2 _ (Ls.mem! hj1)
        have hDj := hDm.l _ (Ls.mem! hjl)
        have hlj := hz.ls _ (Ls.mem! hjl)
        have ks := fun (m1 : Mem) (hm1 : Mem.le m' m1) => Lb.rsame (m := m1) L[j]!.p L[j]!.c L[j]!.l O[j]!.lp O[j]!.lc O[j]!.l (by rw [hj2]; omega) (by omega) (hLj.mono hm1) (hDj.mono hm1)
        rw [decide_eq_true hj2] at ks
        (repeat' (first | refine zss ?_ | refine zsM ?_ | ((with_reducible first | apply AtM1.cr | apply AtQ.cr | apply At.cr); exact rfl; exact rfl; exact fun _ hmm => ks _ hmm; exact ztk; kernel_rfl) | ((with_reducible apply At.alloc (d := 12)); exact rfl; exact rfl; intro b12) | (refine zsp ?_ ?_ <;> (intro hc; (try simp only [zhcs, reduceCtorEq] at hc); (try (exfalso; first | omega | contradiction | omega | exact absurd rfl hc | exact absurd (by decide) hc))))))
        all_goals ((with_reducible refine At.reachk ((j + 1)) ?_ ?_ ?_ ?_); exact zsubs; exact zml; exact zente; exact ⟨hjL, by omega⟩)
      · (repeat' (first | refine zss ?_ | refine zsM ?_ | ((with_reducible apply At.alloc (d := 12)); exact rfl; exact rfl; intro b12) | (refine zsp ?_ ?_ <;> (intro hc; (try simp only [zhcs, reduceCtorEq] at hc); (try (exfalso; first | omega | contradiction | omega | exact absurd rfl hc | exact absurd (by decide) hc))))))
        all_goals ((with_reducible refine At.reachk ((⟨i + 1, O, p, c, m'⟩ : PS)) ?_ ?_ ?_ ?_); exact zsubs; exact zml; exact zente; exact ⟨⟨hmm', h, hI, hL, sl2, hDm⟩, by dsimp only; omega⟩)
    · rw [if_neg hfi] at hls
      (repeat' (first | refine zss ?_ | refine zsM ?_ | ((with_reducible first | apply AtM1.cr | apply AtQ.cr | apply At.cr); exact rfl; exact rfl; exact fun _ hmm => hls _ hmm; exact ztk; kernel_rfl) | ((with_reducible apply At.alloc (d := 12)); exact rfl; exact rfl; intro b12) | (refine zsp ?_ ?_ <;> (intro hc; (try simp only [zhcs, reduceCtorEq] at hc); (try (exfalso; first | omega | contradiction | omega | exact absurd rfl hc | exact absurd (by decide) hc))))))
      all_goals ((with_reducible apply At.retB1 (B := [])); exact rfl; exact rfl; exact zml; exact zkp; exact ⟨rfl, rfl⟩)
  · (repeat' (first | refine zss ?_ | refine zsM ?_ | ((with_reducible apply At.alloc (d := 12)); exact rfl; exact rfl; intro b12) | (refine zsp ?_ ?_ <;> (intro hc; (try simp only [zhcs, reduceCtorEq] at hc); (try (exfalso; first | omega | contradiction | omega | exact absurd rfl hc | exact absurd (by decide) hc))))))
    all_goals ((with_reducible apply At.retB1 (B := [])); exact rfl; exact rfl; exact zml; exact zkp; exact ⟨rfl, rfl⟩)
end Fl
end Go.Proofs.Ytoplagjjojlceaa
/- From a contract to a law's row: what a law's call leaves of memory. -/
set_option linter.unusedSimpArgs false
set_option linter.unusedVariables false
set_option linter.unusedSectionVars false
set_option maxRecDepth 20000
namespace Go.J
open Go Go.ChangeShapes Go.WideShapes Go.ChangeAt Go.RowKit

def memOf (W : World) : Mem := fun k => W.heap[k]?

theorem HW.init (W : World) : HW W (memOf W) [] W :=
  ⟨rfl, rfl, rfl, Nat.le_refl _, fun _ _ h => h, fun _ => False, fun _ h => h, fun _ h => h.elim⟩

theorem HW.below {W w' : World} {m' : Mem} {Rs : List Res} (h : HW W m' Rs w') (hm : (memOf W).le m') : Below W.heap.size W w' :=
  ⟨h.os, h.tape, h.output, h.size, fun k hk => by
    have hk' : W.heap[k]? = some W.heap[k] := Array.getElem?_eq_getElem hk
    rw [hk']
    exact h.mem k _ (hm k _ hk')⟩

theorem law_calls {P : Program} {f : FuncId} {args : Array Value} {W : World} (h : Ct P f args (memOf W) [] (fun v _ _ => v = .bool true)) :
    Calls P f args W fun e W' => e = .returned (.bool true) ∧ Below W.heap.size W W' :=
  (h W [] W (HW.init W)).mono fun _ _ ⟨_, _, _, he, hm, hv, hw⟩ => ⟨by rw [he, hv], hw.below hm⟩

theorem law_calls_pu {P : Program} {f : FuncId} {args : Array Value} {W : World} (h : Pu P f args (.bool true)) :
    Calls P f args W fun e W' => e = .returned (.bool true) ∧ Below W.heap.size W W' :=
  law_calls ((h (memOf W)).mono fun _ _ _ _ ⟨hv, _, _⟩ => hv)

/-- the arguments read as they did -/
theorem trodAll_below {H : Type} {enc : TypeId × Value → H} {P : Program} (hl : laidOutB P = true) {W W' : World} (hb : Below W.heap.size W W') :
    ∀ (ts : List TypeId) (vs : List Value) (ds : List (DataW H)) (ps : List MemPlace), (ts.all fun t => P.readableRec t && decide (t < P.types.size)) = true →
      DataW.TrodAll enc P W 0 (fun _ => true) true ts vs ds ps → (∀ x ∈ ps, x.block < W.heap.size) → DataW.TrodAll enc P W' 0 (fun b => decide (b < W.heap.size)) true ts vs ds ps
  | [], vs, ds, ps, _, h, _ => by
    obtain ⟨rfl, rfl, rfl⟩ := trodAll_nil h
    exact trodAll_mk0
  | t :: ts, vs, ds, ps, hr, h, hlt => by
    obtain ⟨v, vs', d, ds', p, q, rfl, rfl, rfl, h0, h1⟩ := trodAll_cons h
    simp only [List.all_cons, Bool.and_eq_true, decide_eq_true_eq] at hr
    exact trodAll_cons_mk (Below.trod hl hr.1.1 hr.1.2 h0 hb (fun x hx => hlt x (by simp [hx]))) (trodAll_below hl hb ts vs' ds' q hr.2 h1 (fun x hx => hlt x (by simp [hx])))

end Go.J
/- A law's slices: opened into lists. -/
set_option linter.unusedSimpArgs false
set_option linter.unusedVariables false
set_option linter.unusedSectionVars false
set_option maxRecDepth 20000
namespace Go.J
open Go Go.ChangeShapes Go.WideShapes Go.ChangeAt Go.RowKit

theorem cell_cells {w : World} {a : Addr} {v : Value} (h : w.cell? a = some v) : a.spot = none ∧ ∃ E cs fz, w.heap[a.block]? = some (.cells cs E fz) ∧ cs[a.off]? = some v := by
  unfold World.cell? at h
  cases hb : w.heap[a.block]? with
  | none => rw [hb] at h; cases h
  | some o =>
    rw [hb] at h
    cases o <;> simp at h
    rename_i cs E fz
    exact ⟨by
      cases hs : a.spot with
      | none => rfl
      | some x => rw [hs] at h; simp at h, E, cs, fz, rfl, h.2⟩

theorem open_sl {α : Type} [Inhabited α] {f : α → List Value} {sz : Nat} (hf : Fl f sz) (φ : α → Prop) {H : Type} {enc : TypeId × Value → H} {P : Program} {W : World} {t e : TypeId} {fuel : Nat} {cs : List Value} {x : DataW H × List MemPlace}
    (ht : P.underlying t = some (.slice e)) (hc : P.cellsOf e = sz)
    (hdec : ∀ n cs' y, cs'.length = sz → DataW.trod enc P W 0 (fun _ => true) true n e cs' = some y → ∃ a, cs' = f a ∧ φ a)
    (h : DataW.trod enc P W 0 (fun _ => true) true fuel t cs = some x) : ∃ p c l, cs = [.slice p l.length c] ∧ Sl (memOf W) f sz p c l ∧ ∀ a ∈ l, φ a := by
  rcases Go.Deep.open_slice ht h with ⟨rfl, _⟩ | ⟨a, len, cap, m, n, D, Pl, rfl, _, hl, hm, hmm, _, hx⟩
  · exact ⟨none, 0, [], rfl, Sl.empty _ hf, fun a ha => by cases ha⟩
  · simp only [if_true] at hmm
    subst hmm
    obtain ⟨A, hA⟩ := Go.Deep.choose_lt (α := α) (n := m) (p := fun i y => W.cells? 0 (a.add (i * sz)) sz = some (f y) ∧ φ y) (fun i hi => by
      obtain ⟨cs', h1, h2⟩ := hx i hi
      rw [hc] at h1
      obtain ⟨_, hlen, _⟩ := World.cells?_some h1
      obtain ⟨y, rfl, hy⟩ := hdec n cs' _ hlen h2
      exact ⟨y, h1, hy⟩)
    have hll : ((List.range len).map A).length = len := by simp
    refine ⟨some a, m, (List.range len).map A, by rw [hll], ⟨hf, by rw [hll]; exact hl, hm, (fun e => by cases e), fun a' ha' hpos => ?_⟩, fun y hy => ?_⟩
    · cases ha'
      have hsz := hf.pos
      have hcell : ∀ i j, i < m → j < sz → W.cell? ((a.add (i * sz)).add j) = (f (A i))[j]? := fun i j hi hj => (World.cells?_some (hA i hi).1).2.2 j hj
      have hlen : ∀ i j, j < sz → ∃ v, (f (A i))[j]? = some v := fun i j hj => ⟨(f (A i))[j]'(by rw [hf.len]; exact hj), List.getElem?_eq_getElem _⟩
      obtain ⟨v0, hv0⟩ := hlen 0 0 hsz
      have h00 := hcell 0 0 hpos hsz
      rw [hv0] at h00
      have e0 : (a.add (0 * sz)).add 0 = a := by simp [Addr.add]
      rw [e0] at h00
      obtain ⟨hspot, E, cs, fz, hb, _⟩ := cell_cells h00
      have ea : ∀ k, a.add k = ⟨a.block, a.off + k, none⟩ := fun k => by cases a; simp only at hspot; subst hspot; exact Addr.add_eq _ _ _
      have hcell' : ∀ i j, i < m → j < sz → cs[a.off + (i * sz + j)]? = (f (A i))[j]? := fun i j hi hj => by
        have := hcell i j hi hj
        rw [ea, Addr.add_eq, World.cell_of hb] at this
        rw [← this, Nat.add_assoc]
      refine ⟨hspot, E, cs, fz, hb, ?_, fun i j hi hj => ?_⟩
      · obtain ⟨v, hv⟩ := hlen (m - 1) (sz - 1) (by omega)
        have h1 := hcell' (m - 1) (sz - 1) (by omega) (by omega)
        rw [hv] at h1
        have h2 := (Array.getElem?_eq_some_iff.1 h1).1
        have h3 : (m - 1) * sz + sz = m * sz := by
          have := Nat.succ_mul (m - 1) sz
          rw [show (m - 1).succ = m by omega] at this; omega
        omega
      · rw [hll] at hi
        rw [hcell' i j (by omega) hj]
        congr 2
        rw [List.getElem!_eq_getElem?_getD]; simp [hi]
    · obtain ⟨i, hi, rfl⟩ := List.mem_map.1 hy
      exact (hA i (by have := List.mem_range.1 hi; omega)).2

/-- a law's argument that is a slice -/
theorem open_sl_arg {α : Type} [Inhabited α] {f : α → List Value} {sz : Nat} (hf : Fl f sz) (φ : α → Prop) {H : Type} {enc : TypeId × Value → H} {P : Program} {W : World} {t e : TypeId} {v : Value} {d : DataW H} {ps : List MemPlace}
    (ht : P.underlying t = some (.slice e)) (hc : P.cellsOf e = sz)
    (hdec : ∀ n cs' y, cs'.length = sz → DataW.trod enc P W 0 (fun _ => true) true n e cs' = some y → ∃ a, cs' = f a ∧ φ a)
    (hsl : ∃ p l c, v = .slice p l c) (h : DataW.Trod enc P W 0 (fun _ => true) true t v d ps) : ∃ p c l, v = .slice p l.length c ∧ Sl (memOf W) f sz p c l ∧ ∀ a ∈ l, φ a := by
  obtain ⟨fuel, hfl⟩ := h
  obtain ⟨p0, l0, c0, rfl⟩ := hsl
  obtain ⟨p, c, l, h1, h2⟩ := open_sl hf φ ht hc hdec hfl
  refine ⟨p, c, l, ?_, h2⟩
  simpa [Value.cells] using h1

theorem dec_int {H : Type} {enc : TypeId × Value → H} {P : Program} {W : World} {e : TypeId} {k : IntKind} (he : P.underlying e = some (.int k)) : ∀ n cs' y, cs'.length = 1 → DataW.trod enc P W 0 (fun _ => true) true n e cs' = some y → ∃ a : Int, cs' = [.int k a] ∧ (Lit.int k a).wf = true := fun n cs' y _ h => by
  obtain ⟨a, h1, _, h3⟩ := DataW.trod_int he h
  exact ⟨a, h1, h3⟩
end Go.J
/- A law's arguments of any plain make: structs of whole numbers, truth values, texts, and slices, opened into their cells. -/
set_option linter.unusedSimpArgs false
set_option linter.unusedVariables false
set_option linter.unusedSectionVars false
set_option maxRecDepth 20000
namespace Go.J
open Go Go.ChangeShapes Go.WideShapes Go.ChangeAt Go.RowKit

inductive LK
  | int (k : IntKind)
  | bool
  | str
  | sl (t : TypeId)

section
variable {H : Type} {enc : TypeId × Value → H} {P : Program} {W : World}

def Fit1 (enc : TypeId × Value → H) (P : Program) (W : World) : LK → Value → Prop
  | .int k, v => ∃ a, v = .int k a ∧ (Lit.int k a).wf = true
  | .bool, v => ∃ b, v = .bool b
  | .str, v => ∃ l, v = .string (str l) ∧ l.length ≤ maxLen
  | .sl t, v => ∃ n y, DataW.trod enc P W 0 (fun _ => true) true n t [v] = some y
def Fit (enc : TypeId × Value → H) (P : Program) (W : World) : List LK → List Value → Prop
  | [], [] => True
  | k :: ks, v :: vs => Fit1 enc P W k v ∧ Fit enc P W ks vs
  | _, _ => False
theorem Fit.append : ∀ {a b : List LK} {x y : List Value}, Fit enc P W a x → Fit enc P W b y → Fit enc P W (a ++ b) (x ++ y)
  | [], _, [], _, _, h => h
  | _ :: _, _, _ :: _, _, ⟨h1, h2⟩, h => ⟨h1, Fit.append h2 h⟩
  | [], _, _ :: _, _, h, _ => h.elim
  | _ :: _, _, [], _, h, _ => h.elim

theorem Fit.cons {k : LK} {ks : List LK} {cs : List Value} (h : Fit enc P W (k :: ks) cs) : ∃ v vs, cs = v :: vs ∧ Fit1 enc P W k v ∧ Fit enc P W ks vs := by
  cases cs with
  | nil => exact h.elim
  | cons v vs => exact ⟨v, vs, rfl, h.1, h.2⟩
theorem Fit.nil {cs : List Value} (h : Fit enc P W [] cs) : cs = [] := by
  cases cs with
  | nil => rfl
  | cons v vs => exact h.elim
theorem Fit1.int {k : IntKind} {v : Value} (h : Fit1 enc P W (.int k) v) : ∃ a, v = .int k a ∧ (Lit.int k a).wf = true := h
theorem Fit1.bool {v : Value} (h : Fit1 enc P W .bool v) : ∃ b, v = .bool b := h
theorem Fit1.str {v : Value} (h : Fit1 enc P W .str v) : ∃ l, v = .string (J.str l) ∧ l.length ≤ maxLen := h

def leavesF (P : Program) (rec : TypeId → Option (List LK)) (total : Nat) : Nat → List Field → Option (List LK)
  | off, [] => match Nat.beq off total with
    | true => some []
    | false => none
  | off, f :: fs => match Nat.beq f.offset off with
    | true => match rec f.type with
      | some a => match leavesF P rec total (off + P.cellsOf f.type) fs with
        | some b => some (a ++ b)
        | none => none
      | none => none
    | false => none
def leavesB (P : Program) : Nat → TypeId → Option (List LK)
  | 0, _ => none
  | d + 1, t => match P.underlying t with
    | some (.int k) => some [.int k]
    | some .bool => some [.bool]
    | some .string => some [.str]
    | some (.slice _) => some [.sl t]
    | some (.struct fs) => leavesF P (leavesB P d) (P.cellsOf t) 0 fs.toList
    | some (.array n e) => match leavesB P d e with
      | some a => match Nat.beq (P.cellsOf t) (n * P.cellsOf e) with
        | true => some (List.replicate n a).flatten
        | false => none
      | none => none
    | _ => none

theorem trod_bool' {t : TypeId} {n : Nat} {cs : List Value} {x : DataW H × List MemPlace} (ht : P.underlying t = some .bool) (h : DataW.trod enc P W 0 (fun _ => true) true n t cs = some x) : ∃ b, cs = [.bool b] := by
  cases n with
  | zero => simp [DataW.trod] at h
  | succ n =>
    unfold DataW.trod at h
    rw [ht] at h
    split at h <;> simp_all

theorem trod_fit : ∀ (d n : Nat) (t : TypeId) (cs : List Value) (x : DataW H × List MemPlace) (ks : List LK), leavesB P d t = some ks → DataW.trod enc P W 0 (fun _ => true) true n t cs = some x → Fit enc P W ks cs
  | 0, _, _, _, _, _, h, _ => by cases h
  | d + 1, n, t, cs, x, ks, h, hx => by
    have ih := trod_fit d
    unfold leavesB at h
    cases hu : P.underlying t with
    | none => rw [hu] at h; cases h
    | some u =>
      rw [hu] at h
      cases u <;> simp only at h <;> try (cases h; done)
      case int k =>
        cases h
        obtain ⟨a, rfl, _, h3⟩ := DataW.trod_int hu hx
        exact ⟨⟨a, rfl, h3⟩, trivial⟩
      case bool =>
        cases h
        obtain ⟨b, rfl⟩ := trod_bool' hu hx
        exact ⟨⟨b, rfl⟩, trivial⟩
      case string =>
        cases h
        obtain ⟨s, rfl, _, h3⟩ := DataW.trod_string hu hx
        obtain ⟨l, rfl⟩ := str_of s
        exact ⟨⟨l, rfl, by rw [str_size] at h3; exact h3⟩, trivial⟩
      case slice e =>
        cases h
        have : ∃ v, cs = [v] := by
          rcases DataW.trod_slice hu hx with ⟨rfl, _⟩ | ⟨a, len, cap, _, _, _, _, rfl, _⟩
          · exact ⟨_, rfl⟩
          · exact ⟨_, rfl⟩
        obtain ⟨v, rfl⟩ := this
        exact ⟨⟨n, x, hx⟩, trivial⟩
      case array k e =>
        cases h1 : leavesB P d e with
        | none => rw [h1] at h; cases h
        | some a =>
          rw [h1] at h
          simp only at h
          cases hb : Nat.beq (P.cellsOf t) (k * P.cellsOf e) with
          | false => rw [hb] at h; cases h
          | true =>
            rw [hb] at h
            cases h
            have hl0 := Nat.eq_of_beq_eq_true hb
            obtain ⟨xs, m, _, _, hlen, hxl, hf⟩ := DataW.trod_array hu hx
            have key : ∀ i, i ≤ k → Fit enc P W ((List.replicate i a).flatten) (cs.drop ((k - i) * P.cellsOf e)) := by
              intro i
              induction i with
              | zero =>
                intro _
                rw [List.drop_eq_nil_of_le (by rw [hlen, hl0, Nat.sub_zero]; exact Nat.le_refl _)]
                trivial
              | succ i ih2 =>
                intro hi
                have e1 := hf (k - (i + 1)) (by omega)
                have hj : k - (i + 1) < xs.length := by omega
                rw [List.getElem?_eq_getElem hj] at e1
                have g1 := ih m e _ _ a h1 e1
                have g2 := ih2 (by omega)
                have e2 : (k - (i + 1)) * P.cellsOf e + P.cellsOf e = (k - i) * P.cellsOf e := by rw [← Nat.succ_mul]; congr 1; omega
                rw [List.replicate_succ, List.flatten_cons, show cs.drop ((k - (i + 1)) * P.cellsOf e) = (cs.drop ((k - (i + 1)) * P.cellsOf e)).take (P.cellsOf e) ++ cs.drop ((k - i) * P.cellsOf e) by
                  rw [← e2, ← List.drop_drop, List.take_append_drop]]
                exact Fit.append g1 g2
            have := key k (Nat.le_refl _)
            simpa using this
      case struct fs =>
        obtain ⟨xs, n', _, _, hlen, hxs, hf⟩ := DataW.trod_struct hu hx
        have hf' : ∀ f ∈ fs.toList, ∃ y, DataW.trod enc P W 0 (fun _ => true) true n' f.type ((cs.drop f.offset).take (P.cellsOf f.type)) = some y := fun f hm => by
          obtain ⟨i, hi, he⟩ := List.mem_iff_getElem.1 hm
          have hi' : i < fs.size := by simpa using hi
          have h1 : fs[i]? = some f := by
            rw [Array.getElem?_eq_getElem hi']
            congr 1
          exact ⟨xs[i], by rw [hf i f h1, List.getElem?_eq_getElem]⟩
        have key : ∀ (l : List Field) (off : Nat) (ks : List LK), (∀ f ∈ l, ∃ y, DataW.trod enc P W 0 (fun _ => true) true n' f.type ((cs.drop f.offset).take (P.cellsOf f.type)) = some y) →
            leavesF P (leavesB P d) (P.cellsOf t) off l = some ks → Fit enc P W ks (cs.drop off) := by
          intro l
          induction l with
          | nil =>
            intro off ks _ h
            unfold leavesF at h
            cases hb : Nat.beq off (P.cellsOf t) with
            | false => rw [hb] at h; cases h
            | true =>
              rw [hb] at h
              cases h
              have := Nat.eq_of_beq_eq_true hb
              rw [List.drop_eq_nil_of_le (by omega)]
              trivial
          | cons f l ihl =>
            intro off ks hl h
            unfold leavesF at h
            cases hb : Nat.beq f.offset off with
            | false => rw [hb] at h; cases h
            | true =>
              rw [hb] at h
              simp only at h
              have hoff := Nat.eq_of_beq_eq_true hb
              cases h1 : leavesB P d f.type with
              | none => rw [h1] at h; cases h
              | some a =>
                rw [h1] at h
                simp only at h
                cases h2 : leavesF P (leavesB P d) (P.cellsOf t) (off + P.cellsOf f.type) l with
                | none => rw [h2] at h; cases h
                | some b =>
                  rw [h2] at h
                  cases h
                  obtain ⟨y, hy⟩ := hl f (List.mem_cons_self ..)
                  rw [hoff] at hy
                  have g1 := ih n' f.type _ y a h1 hy
                  have g2 := ihl (off + P.cellsOf f.type) b (fun g hg => hl g (List.mem_cons_of_mem _ hg)) h2
                  rw [show cs.drop off = (cs.drop off).take (P.cellsOf f.type) ++ cs.drop (off + P.cellsOf f.type) by
                    rw [← List.drop_drop, List.take_append_drop]]
                  exact Fit.append g1 g2
        have := key fs.toList 0 ks hf' h
        simpa using this

/-- an element of a slice, by its leaves -/
theorem dec_flat {α : Type} {f : α → List Value} {φ : α → Prop} {e : TypeId} (ks : List LK) (hk : leavesB P 6 e = some ks) (h : ∀ cs, Fit enc P W ks cs → ∃ a, cs = f a ∧ φ a) :
    ∀ n cs' y, cs'.length = P.cellsOf e → DataW.trod enc P W 0 (fun _ => true) true n e cs' = some y → ∃ a, cs' = f a ∧ φ a := fun n cs' y _ hy =>
  h cs' (trod_fit 6 n e cs' y ks hk hy)
theorem dec_flat' {α : Type} {f : α → List Value} {φ : α → Prop} {e : TypeId} {sz : Nat} (ks : List LK) (hk : leavesB P 6 e = some ks) (h : ∀ cs, Fit enc P W ks cs → ∃ a, cs = f a ∧ φ a) :
    ∀ n cs' y, cs'.length = sz → DataW.trod enc P W 0 (fun _ => true) true n e cs' = some y → ∃ a, cs' = f a ∧ φ a := fun n cs' y _ hy =>
  h cs' (trod_fit 6 n e cs' y ks hk hy)
/-- an argument that is a struct -/
theorem open_flat_arg {α : Type} {f : α → List Value} {φ : α → Prop} {t : TypeId} {fs : Array Field} {base : Nat} {v : Value} {d : DataW H} {ps : List MemPlace} (ks : List LK) (ht : P.underlying t = some (.struct fs)) (hk : leavesB P 6 t = some ks)
    (h : ∀ cs, Fit enc P W ks cs → ∃ a, cs = f a ∧ φ a) {r : Reach} (hv : Value.okWide P W r base t v) (hx : DataW.Trod enc P W 0 (fun _ => true) true t v d ps) : ∃ a, v = .agg (f a).toArray ∧ φ a := by
  obtain ⟨cs, rfl, _⟩ := okWide_struct ht hv
  obtain ⟨fuel, hfl⟩ := hx
  obtain ⟨a, h1, h2⟩ := h _ (trod_fit 6 fuel t _ _ ks hk hfl)
  refine ⟨a, ?_, h2⟩
  have : cs.toList = f a := by simpa [Value.cells] using h1
  rw [← this]
/-- a slice that is part of something -/
theorem Fit1.sl {α : Type} [Inhabited α] {f : α → List Value} {sz : Nat} (hf : Fl f sz) (φ : α → Prop) {t e : TypeId} {v : Value} (ht : P.underlying t = some (.slice e)) (hc : P.cellsOf e = sz)
    (hdec : ∀ n cs' y, cs'.length = sz → DataW.trod enc P W 0 (fun _ => true) true n e cs' = some y → ∃ a, cs' = f a ∧ φ a) (h : Fit1 enc P W (.sl t) v) : ∃ p c l, v = .slice p l.length c ∧ Sl (memOf W) f sz p c l ∧ ∀ a ∈ l, φ a := by
  obtain ⟨n, y, hy⟩ := h
  obtain ⟨p, c, l, h1, h2⟩ := open_sl hf φ ht hc hdec hy
  exact ⟨p, c, l, by simpa using h1, h2⟩
end
end Go.J
/- A law's arguments that are events. -/
set_option linter.unusedSimpArgs false
set_option linter.unusedVariables false
set_option linter.unusedSectionVars false
set_option maxRecDepth 20000
set_option maxHeartbeats 4000000
namespace Go.Proofs.Ytoplagjjojlceaa
open Go Go.J
attribute [local irreducible] At AtQ AtM AtM1 PR Ct Pu Rd Res.blk Res.own Res.ex RVs RV
namespace Ev
def In (e : Ev) : Prop := -9223372036854775808 ≤ e.T ∧ e.T ≤ 9223372036854775807 ∧ e.V < 18446744073709551616 ∧ -9223372036854775808 ≤ e.C ∧ e.C ≤ 9223372036854775807
theorem dec_ev {H : Type} {enc : TypeId × Value → H} {P : Program} {W : World} : ∀ cs, Fit enc P W [.int .i64, .int .u64, .int .i64, .bool] cs → ∃ a : Ev, cs = a.cells ∧ In a := by
  intro cs h
  obtain ⟨_, _, rfl, h1, h⟩ := h.cons
  obtain ⟨_, _, rfl, h2, h⟩ := h.cons
  obtain ⟨_, _, rfl, h3, h⟩ := h.cons
  obtain ⟨_, _, rfl, h4, h⟩ := h.cons
  obtain rfl := h.nil
  obtain ⟨a, rfl, wa⟩ := h1.int
  obtain ⟨b, rfl, wb⟩ := h2.int
  obtain ⟨c, rfl, wc⟩ := h3.int
  obtain ⟨t, rfl⟩ := h4.bool
  have hb := bounds_u64 wb
  have ha := bounds_i64 wa
  have hc := bounds_i64 wc
  refine ⟨⟨a, b.toNat, c, t⟩, ?_, ha.1, ha.2, by show b.toNat < _; omega, hc.1, hc.2⟩
  show _ = [_, Value.int .u64 (b.toNat : Int), _, _]
  rw [Int.toNat_of_nonneg (by omega)]
end Ev
end Go.Proofs.Ytoplagjjojlceaa
/- A law's arguments that are acts on a book. -/
set_option linter.unusedSimpArgs false
set_option linter.unusedVariables false
set_option linter.unusedSectionVars false
set_option maxRecDepth 20000
set_option maxHeartbeats 4000000
namespace Go.Proofs.Ytoplagjjojlceaa
open Go Go.J
namespace Fl
theorem dec_lab {H : Type} {enc : TypeId × Value → H} {P : Program} {W : World} : ∀ cs, Go.J.Fit enc P W [.str, .str] cs → ∃ a : Lab, cs = Lb.cells a ∧ True := by
  intro cs h
  obtain ⟨_, _, rfl, h1, h⟩ := h.cons
  obtain ⟨_, _, rfl, h2, h⟩ := h.cons
  obtain rfl := h.nil
  obtain ⟨a, rfl, _⟩ := h1.str
  obtain ⟨t, rfl, _⟩ := h2.str
  exact ⟨⟨a, t⟩, rfl, trivial⟩
/-- what is known of an act that is an argument -/
def Ka (W : World) (x : Act) : Prop := Sl (memOf W) Lb.cells 2 x.lp x.lc x.l ∧ x.e.V < 18446744073709551616
theorem dec_act {H : Type} {enc : TypeId × Value → H} {W : World} : ∀ cs, Go.J.Fit enc Try.prog W [.int .i64, .sl 23, .int .i64, .int .u64, .int .i64, .bool] cs → ∃ x : Act, cs = fA x ∧ Ka W x := by
  intro cs h
  obtain ⟨_, _, rfl, h0, h5⟩ := h.cons
  obtain ⟨_, _, rfl, h1, h6⟩ := h5.cons
  clear h h5
  obtain ⟨k, rfl, _⟩ := h0.int
  obtain ⟨p, c, l, rfl, h2, _⟩ := Fit1.sl (f := Lb.cells) inferInstance (fun _ => True) Try.underlying23 (by rfl) (dec_flat' [.str, .str] (by kernel_rfl) dec_lab) h1
  obtain ⟨e, rfl, he⟩ := Ev.dec_ev _ h6
  exact ⟨⟨k, l, p, c, e⟩, rfl, h2, he.2.2.1⟩
end Fl
end Go.Proofs.Ytoplagjjojlceaa
/- FlatEach (plain): a second book that is given one series alone. -/
set_option linter.unusedSimpArgs false
set_option linter.unusedVariables false
set_option linter.unusedSectionVars false
set_option maxRecDepth 20000
set_option maxHeartbeats 4000000
namespace Go.Proofs.Ytoplagjjojlceaa
open Go Go.J
namespace Fl
open Ev
theorem idx_lab (S : List Ser) (q : List Lab) : idx S q = (S.map Ser.l).findIdx? (fun x => decide (x = q)) := by
  unfold idx
  rw [List.findIdx?_map]; rfl
theorem lab_set {S : List Ser} {i : Nat} {l : List Lab} (hi : i < S.length) (hlab : S[i]!.l = l) (E : List Ev) : (S.set i (⟨l, E⟩ : Ser)).map Ser.l = S.map Ser.l := by
  rw [List.map_set]
  show (S.map Ser.l).set i l = _
  rw [show l = (S.map Ser.l)[i]'(by rw [List.length_map]; exact hi) by rw [List.getElem_map, ← hlab, getElem!_pos S i hi]]
  exact List.set_getElem_self ..
theorem idx_set {S : List Ser} {i : Nat} {l : List Lab} (hi : i < S.length) (hlab : S[i]!.l = l) (E : List Ev) (q : List Lab) : idx (S.set i (⟨l, E⟩ : Ser)) q = idx S q := by
  rw [idx_lab, lab_set hi hlab, ← idx_lab]
theorem idx_one {x : Ser} {q : List Lab} (h : x.l = q) : idx [x] q = some 0 := by
  unfold idx
  rw [List.findIdx?_cons]
  rw [if_pos (decide_eq_true h)]
theorem idx_one_no {x : Ser} {q : List Lab} (h : x.l ≠ q) : idx [x] q = none := by
  unfold idx
  rw [List.findIdx?_cons]
  rw [if_neg (by rw [decide_eq_false h]; exact Bool.false_ne_true)]
  rfl
theorem idx_snoc (S : List Ser) (x : Ser) (q : List Lab) : idx (S ++ [x]) q = (idx S q).or ((idx [x] q).map (· + S.length)) := by
  unfold idx
  rw [List.findIdx?_append]
/-- the second book holds what the first one holds under these labels -/
def Rl (q : List Lab) (S T : List Ser) : Prop := (idx S q = none ∧ T = []) ∨ ∃ j, idx S q = some j ∧ T = [S[j]!]
theorem rl_nil (q : List Lab) : Rl q [] [] := .inl ⟨rfl, rfl⟩
theorem rl_other {q l : List Lab} {S T : List Ser} {e : Ev} (h : Rl q S T) (hl : l ≠ q) : Rl q (putS S l e).1 T := by
  unfold putS
  by_cases hr : Lb.right l
  rotate_left
  · rw [if_pos hr]; exact h
  rw [if_neg (not_not_intro hr)]
  by_cases hok : e.ok
  rotate_left
  · rw [if_pos hok]; exact h
  rw [if_neg (not_not_intro hok)]
  cases hx : idx S l with
  | none =>
    dsimp only
    rcases h with ⟨h1, h2⟩ | ⟨j, h1, h2⟩
    · exact .inl ⟨by rw [idx_snoc, h1, idx_one_no hl]; rfl, h2⟩
    · have hj := (idx_lt h1).1
      refine .inr ⟨j, by rw [idx_snoc, h1]; rfl, ?_⟩
      rw [h2, getElem!_pos S j hj, getElem!_pos _ j (by simp; omega), List.getElem_append_left hj]
  | some i =>
    dsimp only
    obtain ⟨hi, hlab⟩ := idx_lt hx
    by_cases hT : (tl S[i]!).T < e.T
    rotate_left
    · rw [if_neg hT]; exact h
    rw [if_pos hT]
    dsimp only
    rcases h with ⟨h1, h2⟩ | ⟨j, h1, h2⟩
    · exact .inl ⟨by rw [idx_set hi hlab]; exact h1, h2⟩
    · obtain ⟨hj, hq⟩ := idx_lt h1
      refine .inr ⟨j, by rw [idx_set hi hlab]; exact h1, ?_⟩
      have hne : i ≠ j := fun k => by subst k; exact hl (hlab.symm.trans hq)
      rw [h2, getElem!_pos S j hj, getElem!_pos _ j (by rw [List.length_set]; exact hj), List.getElem_set_ne hne]
theorem rl_same {q : List Lab} {S T : List Ser} {e : Ev} (h : Rl q S T) : Rl q (putS S q e).1 (putS T q e).1 ∧ (putS T q e).2 = (putS S q e).2 := by
  unfold putS
  by_cases hr : Lb.right q
  rotate_left
  · rw [if_pos hr, if_pos hr]; exact ⟨h, rfl⟩
  rw [if_neg (not_not_intro hr), if_neg (not_not_intro hr)]
  by_cases hok : e.ok
  rotate_left
  · rw [if_pos hok, if_pos hok]; exact ⟨h, rfl⟩
  rw [if_neg (not_not_intro hok), if_neg (not_not_intro hok)]
  rcases h with ⟨h1, rfl⟩ | ⟨j, h1, rfl⟩
  · rw [h1, show idx [] q = none from rfl]
    dsimp only
    refine ⟨.inr ⟨S.length, by rw [idx_snoc, h1, idx_one rfl]; simp, ?_⟩, rfl⟩
    rw [getElem!_pos _ S.length (by simp)]
    simp
  · obtain ⟨hj, hq⟩ := idx_lt h1
    rw [h1, idx_one hq]
    dsimp only
    rw [show ([S[j]!] : List Ser)[0]! = S[j]! from rfl]
    by_cases hT : (tl S[j]!).T < e.T
    rotate_left
    · rw [if_neg hT, if_neg hT]; exact ⟨.inr ⟨j, h1, rfl⟩, rfl⟩
    rw [if_pos hT, if_pos hT]
    dsimp only
    refine ⟨.inr ⟨j, by rw [idx_set hj hq]; exact h1, ?_⟩, rfl⟩
    rw [show (S.set j (⟨q, S[j]!.e ++ [e]⟩ : Ser))[j]! = ⟨q, S[j]!.e ++ [e]⟩ by
      rw [getElem!_pos (S.set j (⟨q, S[j]!.e ++ [e]⟩ : Ser)) j (by rw [List.length_set]; exact hj), List.getElem_set_self]]
    rfl
theorem rl_end {q : List Lab} {S T : List Ser} (h : Rl q S T) : evs T q = evs S q ∧ lst T q = lst S q ∧ T.length ≤ 1 := by
  unfold evs lst
  rcases h with ⟨h1, rfl⟩ | ⟨j, h1, rfl⟩
  · rw [h1, show idx [] q = none from rfl]; exact ⟨rfl, rfl, Nat.zero_le _⟩
  · obtain ⟨hj, hq⟩ := idx_lt h1
    rw [h1, idx_one hq]
    dsimp only
    rw [show ([S[j]!] : List Ser)[0]! = S[j]! from rfl]
    exact ⟨rfl, rfl, Nat.le_refl _⟩
end Fl
end Go.Proofs.Ytoplagjjojlceaa
/- FlatEach: the law's walk. -/
set_option linter.unusedSimpArgs false
set_option linter.unusedVariables false
set_option linter.unusedSectionVars false
set_option maxRecDepth 20000
set_option maxHeartbeats 4000000
namespace Go.Proofs.Ytoplagjjojlceaa
open Go Go.J
attribute [local irreducible] At AtQ AtM AtM1 PR Ct Pu Rd Res.blk Res.own Res.ex RVs RV Res.map
namespace Fl
attribute [local irreducible] sr srs bk
open Ev
theorem pr_ceqT {n : Nat} {F : Fr} {C : World → Prop} {x y : Operand} {u : TypeId} {a : Cell} (hx : ev F x = some a.v) (hy : ev F y = some a.v) : PR Try.prog n F C (.binOp .eql 47 x y u) (.bool true) := by
  have := Cell.pr_ceq (n := n) (C := C) (u := u) hx hy
  rwa [decide_eq_true rfl] at this
structure ES where
  (i : Nat) (S T : List Ser) (M : Mem)
set_option maxHeartbeats 4000000 in
theorem eachT {m : Mem} (pA : Option Addr) (cA : Nat) (A : List Act) (pq : Option Addr) (cq : Nat) (q : List Lab) (sl0 : Sl m fA 6 pA cA A) (hA : ∀ x ∈ A, Sl m Lb.cells 2 x.lp x.lc x.l) (hV : ∀ x ∈ A, x.e.V < 18446744073709551616) (sl1 : Sl m Lb.cells 2 pq cq q) :
    Ct Try.prog 4 #[.slice pA A.length cA, .slice pq q.length cq] m [] (fun v m' B => v = .bool true ∧ B = []) := by
  have hsm := fun (m' : Mem) (hm' : m.le m') => Lb.small (m := m') pq cq q (sl1.mono hm')
  have hlv := lives
  by_cases h60 : A.length ≤ 60
  rotate_left
  · refine Ct.enterV (by rfl) Try.func4 rfl Try.ntmps4 rfl (fun w0 Rest => ?_)
    (repeat' (first | refine zss ?_ | refine zsM ?_ | ((with_reducible first | apply AtM1.cr | apply AtQ.cr | apply At.cr); exact rfl; exact rfl; exact fun _ hmm => hsm _ hmm; exact ztk; kernel_rfl) | ((with_reducible first | apply AtM1.callp | apply AtQ.callp | apply At.callp); kernel_rfl; exact rfl; exact rfl; exact hlv) | ((with_reducible apply At.alloc (d := 8)); exact rfl; exact rfl; intro b8) | (refine zsp ?_ ?_ <;> (intro hc; (try simp only [zhcs, reduceCtorEq] at hc); (try (exfalso; first | omega | contradiction | omega | exact absurd rfl hc | exact absurd (by decide) hc))))))
    all_goals ((with_reducible apply At.retB1 (B := [])); exact rfl; exact rfl; exact zml; exact zkp; exact ⟨rfl, rfl⟩)
  by_cases hf : Lb.few q
  rotate_left
  · rw [if_neg hf] at hsm
    refine Ct.enterV (by rfl) Try.func4 rfl Try.ntmps4 rfl (fun w0 Rest => ?_)
    (repeat' (first | refine zss ?_ | refine zsM ?_ | ((with_reducible first | apply AtM1.cr | apply AtQ.cr | apply At.cr); exact rfl; exact rfl; exact fun _ hmm => hsm _ hmm; exact ztk; kernel_rfl) | ((with_reducible first | apply AtM1.callp | apply AtQ.callp | apply At.callp); kernel_rfl; exact rfl; exact rfl; exact hlv) | ((with_reducible apply At.alloc (d := 8)); exact rfl; exact rfl; intro b8) | (refine zsp ?_ ?_ <;> (intro hc; (try simp only [zhcs, reduceCtorEq] at hc); (try (exfalso; first | omega | contradiction | omega | exact absurd rfl hc | exact absurd (by decide) hc))))))
    all_goals ((with_reducible apply At.retB1 (B := [])); exact rfl; exact rfl; exact zml; exact zkp; exact ⟨rfl, rfl⟩)
  rw [if_pos hf] at hsm
  have hqm := hf.mid
  have hq40 : q.length ≤ 40 := hf.1
  refine Ct.enterV (by rfl) Try.func4 rfl Try.ntmps4 rfl (fun w0 Rest => ?_)
  (repeat' (first | refine zss ?_ | refine zsM ?_ | ((with_reducible first | apply AtM1.cr | apply AtQ.cr | apply At.cr); exact rfl; exact rfl; exact fun _ hmm => hsm _ hmm; exact ztk; kernel_rfl) | ((with_reducible first | apply AtM1.callp | apply AtQ.callp | apply At.callp); kernel_rfl; exact rfl; exact rfl; exact hlv) | ((with_reducible apply At.alloc (d := 8)); exact rfl; exact rfl; intro b8) | (refine zsp ?_ ?_ <;> (intro hc; (try simp only [zhcs, reduceCtorEq] at hc); (try (exfalso; first | omega | contradiction | omega | exact absurd rfl hc | exact absurd (by decide) hc))))))
  ((with_reducible first | apply At.c1 | apply At.c0); exact rfl; exact rfl; exact new_; exact ztk; kernel_rfl; rintro v' m' B' hm' ⟨rfl, bA, rfl, rfl⟩; (try replace sl0 := sl0.mono hm'); (try replace sl1 := sl1.mono hm'); (try replace sl5 := sl5.mono hm'); (try replace sl6 := sl6.mono hm'); (try replace sl7 := sl7.mono hm'); (try (have hq0 : hm' = Mem.le_refl _ := rfl; clear hq0 hm')))
  (repeat' (first | refine zss ?_ | refine zsM ?_ | ((with_reducible apply At.alloc (d := 8)); exact rfl; exact rfl; intro b8) | (refine zsp ?_ ?_ <;> (intro hc; (try simp only [zhcs, reduceCtorEq] at hc); (try (exfalso; first | omega | contradiction | omega | exact absurd rfl hc | exact absurd (by decide) hc))))))
  ((with_reducible first | apply At.c1 | apply At.c0); exact rfl; exact rfl; exact new_; exact ztk; kernel_rfl; rintro v' m' B' hm' ⟨rfl, bB, rfl, rfl⟩; (try replace sl0 := sl0.mono hm'); (try replace sl1 := sl1.mono hm'); (try replace sl5 := sl5.mono hm'); (try replace sl6 := sl6.mono hm'); (try replace sl7 := sl7.mono hm'); (try (have hq0 : hm' = Mem.le_refl _ := rfl; clear hq0 hm')))
  (repeat' (first | refine zss ?_ | refine zsM ?_ | ((with_reducible apply At.alloc (d := 8)); exact rfl; exact rfl; intro b8) | (refine zsp ?_ ?_ <;> (intro hc; (try simp only [zhcs, reduceCtorEq] at hc); (try (exfalso; first | omega | contradiction | omega | exact absurd rfl hc | exact absurd (by decide) hc))))))
  clear hsm hlv
  (refine At.loopk (σ := ES) [1, 5, 6, 28, 29] (fun s F0 => (30, .int .i64 (s.i : Int)) :: F0) (fun s => s.M) (fun s => bk bA s.S :: bk bB s.T :: Rest) (fun s => m.le s.M ∧ s.i ≤ A.length ∧ Inv s.S ∧ Lm s.S s.i ∧ Inv s.T ∧ Lm s.T s.i ∧ Rl q s.S s.T) (fun s => A.length - s.i) ⟨0, [], [], m⟩ (by rfl) ?_ zsubs zml zente ?_)
  · exact ⟨Mem.le_refl _, Nat.zero_le _, inv_nil, lm_nil, inv_nil, lm_nil, rl_nil q⟩
  rintro ⟨i, S, T, M⟩ ⟨h0, h1, hI, hL, hJ, hK, hR⟩
  dsimp only at h0 h1 hI hL hJ hK hR ⊢
  replace sl0 := sl0.mono h0
  replace sl1 := sl1.mono h0
  by_cases h : i < A.length
  · have hin := Ls.mem! h
    have hAi := (hA _ hin).mono h0
    have hVi := hV _ hin
    have hls := fun (m' : Mem) (hm' : M.le m') => Lb.small (m := m') A[i]!.lp A[i]!.lc A[i]!.l (hAi.mono hm')
    by_cases hfi : Lb.few A[i]!.l
    · rw [if_pos hfi] at hls
      have hmi := hfi.mid
      have h40 : A[i]!.l.length ≤ 40 := hfi.1
      have hip := inv_put (l := A[i]!.l) (e := A[i]!.e) hI hL (by omega) hVi
      have ks := fun (m' : Mem) (hm' : M.le m') => Lb.rsame (m := m') A[i]!.lp A[i]!.lc A[i]!.l pq cq q (by omega) (by omega) (hAi.mono hm') (sl1.mono hm')
      obtain ⟨S', w, hS⟩ : ∃ S' w, putS S A[i]!.l A[i]!.e = (S', w) := ⟨_, _, rfl⟩
      have k1 := fun (m' : Mem) (hm' : M.le m') => putC (m := m') bA S S' w A[i]!.lp A[i]!.lc A[i]!.l.length A[i]!.l A[i]!.e hI hmi rfl hVi hS (hAi.mono hm')
      rw [hS] at hip
      by_cases hl : A[i]!.l = q
      · rw [decide_eq_true hl] at ks
        have hrs := rl_same (e := A[i]!.e) hR
        rw [hl] at hS
        rw [hS] at hrs
        have hiq := inv_put (l := q) (e := A[i]!.e) hJ hK (by omega) hVi
        obtain ⟨T', w', hT⟩ : ∃ T' w', putS T q A[i]!.e = (T', w') := ⟨_, _, rfl⟩
        rw [hT] at hrs hiq
        obtain ⟨hrs, hw⟩ := hrs
        dsimp only at hw
        subst hw
        have k2 := fun (m' : Mem) (hm' : M.le m') => putC (m := m') bB T T' w' pq cq q.length q A[i]!.e hJ hqm rfl hVi hT (sl1.mono hm')
        clear hf hfi hmi hqm
        (repeat' (first | refine zss ?_ | refine zsM ?_ | ((with_reducible first | apply AtM1.cr | apply AtQ.cr | apply At.cr); exact rfl; exact rfl; exact fun _ hmm => hls _ hmm; exact ztk; kernel_rfl) | ((with_reducible first | apply At.c1 | apply At.c0); exact rfl; exact rfl; exact k1 _ zml; exact ztk; kernel_rfl; rintro v' m' B' hm' ⟨rfl, rfl⟩; (try replace sl0 := sl0.mono hm'); (try replace sl1 := sl1.mono hm'); (try replace sl5 := sl5.mono hm'); (try replace sl6 := sl6.mono hm'); (try replace sl7 := sl7.mono hm'); (try (have hq0 : hm' = Mem.le_refl _ := rfl; clear hq0 hm'))) | ((with_reducible first | apply AtM1.cr | apply AtQ.cr | apply At.cr); exact rfl; exact rfl; exact fun _ hmm => ks _ (Mem.le_trans zml hmm); exact ztk; kernel_rfl) | ((with_reducible first | apply At.c1 | apply At.c0); exact rfl; exact rfl; exact k2 _ zml; exact ztk; kernel_rfl; rintro v' m' B' hm' ⟨rfl, rfl⟩; (try replace sl0 := sl0.mono hm'); (try replace sl1 := sl1.mono hm'); (try replace sl5 := sl5.mono hm'); (try replace sl6 := sl6.mono hm'); (try replace sl7 := sl7.mono hm'); (try (have hq0 : hm' = Mem.le_refl _ := rfl; clear hq0 hm'))) | ((with_reducible apply At.alloc (d := 8)); exact rfl; exact rfl; intro b8) | (refine zsp ?_ ?_ <;> (intro hc; (try simp only [zhcs, reduceCtorEq] at hc); (try (exfalso; first | omega | contradiction | omega | exact absurd rfl hc | exact absurd (by decide) hc))))))
        all_goals ((with_reducible refine At.reachk ((⟨i + 1, S', T', m'⟩ : ES)) ?_ ?_ ?_ ?_); exact zsubs; exact zml; exact zente; exact ⟨⟨zml, h, hip.1, hip.2, hiq.1, hiq.2, hrs⟩, by dsimp only; omega⟩)
      · rw [decide_eq_false hl] at ks
        have hro := rl_other (e := A[i]!.e) hR hl
        rw [hS] at hro
        clear hf hfi hmi hqm
        (repeat' (first | refine zss ?_ | refine zsM ?_ | ((with_reducible first | apply AtM1.cr | apply AtQ.cr | apply At.cr); exact rfl; exact rfl; exact fun _ hmm => hls _ hmm; exact ztk; kernel_rfl) | ((with_reducible first | apply At.c1 | apply At.c0); exact rfl; exact rfl; exact k1 _ zml; exact ztk; kernel_rfl; rintro v' m' B' hm' ⟨rfl, rfl⟩; (try replace sl0 := sl0.mono hm'); (try replace sl1 := sl1.mono hm'); (try replace sl5 := sl5.mono hm'); (try replace sl6 := sl6.mono hm'); (try replace sl7 := sl7.mono hm'); (try (have hq0 : hm' = Mem.le_refl _ := rfl; clear hq0 hm'))) | ((with_reducible first | apply AtM1.cr | apply AtQ.cr | apply At.cr); exact rfl; exact rfl; exact fun _ hmm => ks _ (Mem.le_trans zml hmm); exact ztk; kernel_rfl) | ((with_reducible apply At.alloc (d := 8)); exact rfl; exact rfl; intro b8) | (refine zsp ?_ ?_ <;> (intro hc; (try simp only [zhcs, reduceCtorEq] at hc); (try (exfalso; first | omega | contradiction | omega | exact absurd rfl hc | exact absurd (by decide) hc))))))
        all_goals ((with_reducible refine At.reachk ((⟨i + 1, S', T, m'⟩ : ES)) ?_ ?_ ?_ ?_); exact zsubs; exact zml; exact zente; exact ⟨⟨zml, h, hip.1, hip.2, hJ, hK.up (Nat.le_succ i), hro⟩, by dsimp only; omega⟩)
    · rw [if_neg hfi] at hls
      (repeat' (first | refine zss ?_ | refine zsM ?_ | ((with_reducible first | apply AtM1.cr | apply AtQ.cr | apply At.cr); exact rfl; exact rfl; exact fun _ hmm => hls _ hmm; exact ztk; kernel_rfl) | ((with_reducible apply At.alloc (d := 8)); exact rfl; exact rfl; intro b8) | (refine zsp ?_ ?_ <;> (intro hc; (try simp only [zhcs, reduceCtorEq] at hc); (try (exfalso; first | omega | contradiction | omega | exact absurd rfl hc | exact absurd (by decide) hc))))))
      all_goals ((with_reducible apply At.retB1 (B := [])); exact rfl; exact rfl; exact zml; exact zkp; exact ⟨rfl, rfl⟩)
  · obtain ⟨he, hla, hT1⟩ := rl_end hR
    have hb1 := (evs_bd hI q).1
    obtain ⟨C, hC⟩ : ∃ C, cel S q 0 35184372088832 = C := ⟨_, rfl⟩
    have hC2 : cel T q 0 35184372088832 = C := by unfold cel at hC ⊢; rw [he]; exact hC
    obtain ⟨E, hE⟩ : ∃ E, evs S q = E := ⟨_, rfl⟩
    rw [hE] at he hb1
    have ke := fun (m' : Mem) (hm' : M.le m') => evsC (m := m') bA S E E.length pq cq q.length q hI hqm rfl hE rfl (sl1.mono hm')
    have kf := fun (m' : Mem) (hm' : M.le m') => evsC (m := m') bB T E E.length pq cq q.length q hJ hqm rfl he rfl (sl1.mono hm')
    have kl := fun (m' : Mem) (hm' : M.le m') => lstC (m := m') bA S (lst S q) pq cq q.length q hI hqm rfl rfl (sl1.mono hm')
    have kn := fun (m' : Mem) (hm' : M.le m') => lstC (m := m') bB T (lst S q) pq cq q.length q hJ hqm rfl hla (sl1.mono hm')
    have kc := fun (m' : Mem) (hm' : M.le m') => celC (m := m') bA S 0 35184372088832 C pq cq q.length q hI hqm rfl hC (sl1.mono hm')
    have kd := fun (m' : Mem) (hm' : M.le m') => celC (m := m') bB T 0 35184372088832 C pq cq q.length q hJ hqm rfl hC2 (sl1.mono hm')
    have kall := fun (m' : Mem) => allL (m := m') bB T hJ
    generalize lst S q = W at kl kn
    clear hC hC2 he hla hE
    (repeat' (first | refine zss ?_ | ((first | (with_reducible first | apply At.val | apply AtQ.val)); (exact pr_ceqT (by rfl) (by rfl)); exact rfl) | refine zsM ?_ | ((with_reducible first | apply At.c1 | apply At.c0); exact rfl; exact rfl; exact ke _ zml; exact ztk; kernel_rfl; rintro v' m' B' hm' ⟨rfl, p6, c6, rfl, sl6⟩; (try replace sl0 := sl0.mono hm'); (try replace sl1 := sl1.mono hm'); (try replace sl5 := sl5.mono hm'); (try replace sl6 := sl6.mono hm'); (try replace sl7 := sl7.mono hm'); (try (have hq0 : hm' = Mem.le_refl _ := rfl; clear hq0 hm'))) | ((with_reducible first | apply At.c1 | apply At.c0); exact rfl; exact rfl; exact kf _ zml; exact ztk; kernel_rfl; rintro v' m' B' hm' ⟨rfl, p7, c7, rfl, sl7⟩; (try replace sl0 := sl0.mono hm'); (try replace sl1 := sl1.mono hm'); (try replace sl5 := sl5.mono hm'); (try replace sl6 := sl6.mono hm'); (try replace sl7 := sl7.mono hm'); (try (have hq0 : hm' = Mem.le_refl _ := rfl; clear hq0 hm'))) | ((with_reducible first | apply AtM1.cr | apply AtQ.cr | apply At.cr); exact rfl; exact rfl; exact fun _ hmm => sameT _ _ _ _ _ (Nat.le_trans hb1 (by decide)) (sl6.mono hmm) (sl7.mono hmm); exact ztk; kernel_rfl) | ((with_reducible first | apply AtM1.cr | apply AtQ.cr | apply At.cr); exact rfl; exact rfl; exact fun _ hmm => kl _ (Mem.le_trans zml hmm); exact ztk; kernel_rfl) | ((with_reducible first | apply AtM1.cr | apply AtQ.cr | apply At.cr); exact rfl; exact rfl; exact fun _ hmm => kn _ (Mem.le_trans zml hmm); exact ztk; kernel_rfl) | ((with_reducible first | apply At.c1 | apply At.c0); exact rfl; exact rfl; exact kc _ zml; exact ztk; kernel_rfl; rintro v' m' B' hm' ⟨rfl, rfl⟩; (try replace sl0 := sl0.mono hm'); (try replace sl1 := sl1.mono hm'); (try replace sl5 := sl5.mono hm'); (try replace sl6 := sl6.mono hm'); (try replace sl7 := sl7.mono hm'); (try (have hq0 : hm' = Mem.le_refl _ := rfl; clear hq0 hm'))) | ((with_reducible first | apply At.c1 | apply At.c0); exact rfl; exact rfl; exact kd _ zml; exact ztk; kernel_rfl; rintro v' m' B' hm' ⟨rfl, rfl⟩; (try replace sl0 := sl0.mono hm'); (try replace sl1 := sl1.mono hm'); (try replace sl5 := sl5.mono hm'); (try replace sl6 := sl6.mono hm'); (try replace sl7 := sl7.mono hm'); (try (have hq0 : hm' = Mem.le_refl _ := rfl; clear hq0 hm'))) | ((with_reducible first | apply At.c1 | apply At.c0); exact rfl; exact rfl; exact kall _; exact ztk; kernel_rfl; rintro v' m' B' hm' ⟨rfl, p5, c5, L, rfl, ⟨hLn, hLm⟩, sl5, hLx⟩; (try replace sl0 := sl0.mono hm'); (try replace sl1 := sl1.mono hm'); (try replace sl5 := sl5.mono hm'); (try replace sl6 := sl6.mono hm'); (try replace sl7 := sl7.mono hm'); (try (have hq0 : hm' = Mem.le_refl _ := rfl; clear hq0 hm'))) | ((with_reducible apply At.alloc (d := 8)); exact rfl; exact rfl; intro b8) | (refine zsp ?_ ?_ <;> (intro hc; (try simp only [zhcs, reduceCtorEq] at hc); (try (exfalso; first | omega | contradiction | omega | exact absurd rfl hc | exact absurd (by decide) hc))))))
    all_goals ((with_reducible apply At.retB1 (B := [])); exact rfl; exact rfl; exact zml; exact zkp; exact ⟨congrArg Value.bool (decide_eq_true (by omega)), rfl⟩)
end Fl
end Go.Proofs.Ytoplagjjojlceaa
/- FlatEach: whatever is read, the law's call returns true; no condition. -/
set_option linter.unusedSimpArgs false
set_option linter.unusedVariables false
set_option linter.unusedSectionVars false
set_option maxRecDepth 20000
set_option maxHeartbeats 4000000
namespace Go.Proofs.Ytoplagjjojlceaa
open Go Go.J
attribute [local irreducible] At AtQ AtM AtM1 PR Ct Pu Rd Res.blk Res.own Res.ex RVs RV
namespace FlatEachL
open Go.ChangeShapes Go.WideShapes Go.ChangeAt Go.RowKit
open Go.ChangeMaps (open_string shut_string)
theorem own : ownKnob Try.prog.godebug = none := by kernel_rfl
theorem laidOut : laidOutB Try.prog = true := by kernel_rfl
set_option maxRecDepth 100000 in
theorem lifted (os : Os) (started : os.Started) (H : Type) (enc : TypeId × Value → H) :
    ReturnsInHanded {} Try.checked os 4 .any (Rows.flatEachSpec.pre6 enc Try.prog Try.f4 Rows.flatEachRow.domain false) (Rows.flatEachSpec.post enc Try.prog Try.f4 false true false false) := by
  refine returnsInHanded_of_change (C := Try.checked) own started (by kernel_rfl) Try.func4
    (ChangeSpec.witness6 (enc := enc) (C := Try.checked) false ⟨#[], #[.slice none 0 0, .slice none 0 0], []⟩ 8 (by kernel_rfl) (by kernel_rfl) (by kernel_rfl) (by kernel_rfl)) ?_
  intro W base args ds gs before hval0 hW hcnd _
  have hval : ∀ (j : Nat) t v, Try.f4.params[j]? = some t → args[j]? = some v → Value.okWide Try.prog W .any base t v := hval0
  have hW' := hW
  obtain ⟨p, q, hA0, hV, rfl, hfz, hnd⟩ := hW
  have hA : DataW.TrodAll enc Try.prog W 0 (fun _ => true) true Try.f4.params.toList args.toList ds p := hA0
  rw [Try.params4] at hA hval
  obtain ⟨rfl, rfl⟩ := trodVars_none hV
  have hlt : ∀ x ∈ p, x.block < W.heap.size := fun x hx => hW'.lt x (by simpa using hx)
  have hback := fun (W' : World) (bel : Below W.heap.size W W') => trodAll_below laidOut bel _ _ _ _ (by kernel_rfl) hA hlt
  obtain ⟨v0, vs0, d0, ds0, p0, q0, hargs, rfl, rfl, h0, r0⟩ := trodAll_cons hA
  obtain ⟨v1, vs1, d1, ds1, p1, q1, rfl, rfl, rfl, h1, r1⟩ := trodAll_cons r0
  obtain ⟨rfl, rfl, rfl⟩ := trodAll_nil r1
  obtain rfl : args = #[v0, v1] := by cases args; simp_all
  obtain ⟨p0, c0, a0, rfl, s0, w0⟩ := open_sl_arg (f := Fl.fA) (sz := 6) inferInstance (Fl.Ka W) Try.underlying22 (by rfl) (dec_flat' [.int .i64, .sl 23, .int .i64, .int .u64, .int .i64, .bool] (by kernel_rfl) Fl.dec_act) (okWide_slice Try.underlying22 (hval 0 22 v0 rfl rfl)) h0
  obtain ⟨p1, c1, a1, rfl, s1, w1⟩ := open_sl_arg (f := Lb.cells) (sz := 2) inferInstance (fun _ => True) Try.underlying23 (by rfl) (dec_flat' [.str, .str] (by kernel_rfl) Fl.dec_lab) (okWide_slice Try.underlying23 (hval 1 23 v1 rfl rfl)) h1
  refine (law_calls (Ct.mono (Fl.eachT (m := memOf W) p0 c0 a0 p1 c1 a1 s0 (fun x hx => (w0 x hx).1) (fun x hx => (w0 x hx).2) s1) fun v m' B _ h => h.1)).mono fun e W' ⟨he, bel⟩ => ?_
  subst he
  exact ⟨_, rfl, _, _, _, [], _, [], hW', trodAll_mk1 (shut_bool Try.underlying4 _), hback W' bel, rfl, bel.frame _, fun h => by cases h⟩
theorem over : Rows.flatEachRow.holds Try.pinned (OpenSpec.ofChange Rows.flatEachSpec) :=
  OpenClaim.holds_of_wide 4 Try.f4 rfl rfl rfl rfl rfl rfl rfl ⟨rfl, rfl, rfl, rfl, rfl⟩ rfl rfl rfl rfl rfl (by kernel_rfl) Try.func4 (by kernel_rfl)
    (of_decide_eq_true (by kernel_rfl)) (by unfold Func.isWrapper; first | (rw [if_pos (by decide +kernel)]; kernel_rfl) | (rw [if_neg (by decide +kernel)]; exact ⟨rfl, rfl⟩))
    (fun os started H enc _ => lifted os started H enc)
theorem proved : Rows.FlatEachSaid := over
end FlatEachL
end Go.Proofs.Ytoplagjjojlceaa

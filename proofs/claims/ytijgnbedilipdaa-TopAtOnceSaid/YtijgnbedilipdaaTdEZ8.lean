/- Part 8 of what the law's proof needs: rules of the walk, contracts of functions, plain laws. No condition. -/
import Derived.Test.YtijgnbedilipdaaTdEZ7
set_option linter.unusedSimpArgs false
set_option linter.unusedVariables false
set_option linter.unusedSectionVars false
set_option maxRecDepth 20000
set_option maxHeartbeats 4000000
namespace Go.Proofs.Ytijgnbedilipdaa
open Go Go.J
attribute [local irreducible] At AtQ AtM AtM1 PR Ct Pu Rd Res.blk Res.own Res.ex Res.obj RVs RV CW LW YC BK bodyPostM Dk.R Cod.W
namespace Redo
open Dk Conf
open Cod hiding ptr wr
section
variable {r a b e x y w c g : Int}
abbrev bx (b7 q : Nat) : Res := .blk b7 67 [ptr q]
abbrev may (g : Int) (D : Dsk) (z : Chg) : Prop := hmv g ≤ z.s ∧ z.s < (D.safe.length : Int) ∧ z.t.length = 512
theorem c1 {m : Mem} (b7 q d0 : Nat) (D : Dsk) (z : Chg) (h : may g D z) : Ct Try.prog 33 #[cv z, ptr b7] m [bx b7 q, lg q d0 r a b e x y w c g, R d0 D] (fun v m' B => v = .bool false ∧ m = m' ∧ B = [bx b7 q, lg q d0 r a b e x y w c g, R d0 D]) := by
  have k1 := fun (m' : Mem) (_ : m.le m') => may_ (r := r) (a := a) (b := b) (e := e) (x := x) (y := y) (w := w) (c := c) (g := g) (m := m') q d0 D z
  rw [decide_eq_true h] at k1
  refine Ct.enterV (by rfl) Try.func33 rfl Try.ntmps33 rfl (fun w0 Rest => ?_)
  (repeat' (first | refine zss ?_ | refine zs0 ?_ | ((with_reducible first | apply AtM1.cr | apply AtQ.cr | apply At.cr); exact rfl; exact rfl; exact fun _ hmm => k1 _ hmm; exact ztk; kernel_rfl) | ((with_reducible apply At.box (d := 2)); exact rfl; exact rfl; exact rfl; intro b2) | (refine zsp ?_ ?_ <;> (intro hc; (try simp only [zhcs, reduceCtorEq] at hc); (try (exfalso; first | contradiction | omega | exact absurd rfl hc | exact absurd (by decide) hc))))))
  all_goals ((with_reducible apply At.retB1 (B := [bx b7 q, lg q d0 r a b e x y w c g, R d0 D])); exact rfl; exact rfl; exact zml; exact zkp; exact ⟨rfl, rfl, rfl⟩)
theorem idxC {m : Mem} (b7 q d0 : Nat) (D : Dsk) (p : Option Addr) (d : Nat) (l : List Chg) (sl0 : Sl m fC 2 p d l) (hl : l.length ≤ 1000000) (h : ∀ z ∈ l, may g D z) :
    Ct Try.prog 60 #[.slice p l.length d, .func (.func 33) #[] #[ptr b7]] m [bx b7 q, lg q d0 r a b e x y w c g, R d0 D] (fun v m' B => v = .int .i64 (-1) ∧ m = m' ∧ B = [bx b7 q, lg q d0 r a b e x y w c g, R d0 D]) := by
  refine Ct.enterV (by rfl) Try.func60 rfl Try.ntmps60 rfl (fun w0 Rest => ?_)
  (repeat' (first | refine zss ?_ | refine zsM ?_ | (refine zsp ?_ ?_ <;> (intro hc; (try simp only [zhcs, reduceCtorEq] at hc); (try (exfalso; first | contradiction | omega | exact absurd rfl hc | exact absurd (by decide) hc))))))
  (refine At.loopk (σ := Nat) [0, 1, 7] (fun s F0 => (8, .int .i64 (s : Int)) :: F0) (fun s => m) (fun s => bx b7 q :: lg q d0 r a b e x y w c g :: R d0 D :: Rest) (fun s => s ≤ l.length) (fun s => l.length - s) 0 (by rfl) ?_ zsubs zml zente ?_)
  · exact Nat.zero_le _
  rintro j hj
  by_cases h0 : j < l.length
  · have k1 := fun (m' : Mem) => c1 (r := r) (a := a) (b := b) (e := e) (x := x) (y := y) (w := w) (c := c) (m := m') b7 q d0 D l[j]! (h _ (Ls.mem! h0))
    (repeat' (first | refine zss ?_ | refine zsM ?_ | ((with_reducible apply At.callf); exact rfl; kernel_rfl; exact rfl; exact rfl; exact k1 _; exact ztk; rintro v' m' B' hm' ⟨rfl, rfl, rfl⟩; (try replace sl0 := sl0.mono hm')) | (refine zsp ?_ ?_ <;> (intro hc; (try simp only [zhcs, reduceCtorEq] at hc); (try (exfalso; first | (first | omega | exact absurd rfl hc) | contradiction | omega | exact absurd rfl hc | exact absurd (by decide) hc))))))
    all_goals ((with_reducible refine At.reachk (j + 1) ?_ ?_ ?_ ?_); exact zsubs; exact zml; exact zente; exact ⟨h0, by omega⟩)
  · obtain rfl : j = l.length := by omega
    (repeat' (first | refine zss ?_ | refine zs0 ?_ | (refine zsp ?_ ?_ <;> (intro hc; (try simp only [zhcs, reduceCtorEq] at hc); (try (exfalso; first | (first | omega | exact absurd rfl hc) | contradiction | omega | exact absurd rfl hc | exact absurd (by decide) hc))))))
    all_goals ((with_reducible apply At.retB1 (B := [bx b7 q, lg q d0 r a b e x y w c g, R d0 D])); exact rfl; exact rfl; exact zml; exact zkp; exact ⟨rfl, rfl, rfl⟩)
theorem conC {m : Mem} (b7 q d0 : Nat) (D : Dsk) (p : Option Addr) (d : Nat) (l : List Chg) (sl0 : Sl m fC 2 p d l) (hl : l.length ≤ 1000000) (h : ∀ z ∈ l, may g D z) :
    Ct Try.prog 32 #[.slice p l.length d, .func (.func 33) #[] #[ptr b7]] m [bx b7 q, lg q d0 r a b e x y w c g, R d0 D] (fun v m' B => v = .bool false ∧ m = m' ∧ B = [bx b7 q, lg q d0 r a b e x y w c g, R d0 D]) := by
  have k1 := fun (m' : Mem) (hmm : m.le m') => idxC (r := r) (a := a) (b := b) (e := e) (x := x) (y := y) (w := w) (c := c) (m := m') b7 q d0 D p d l (sl0.mono hmm) hl h
  refine Ct.enterV (by rfl) Try.func32 rfl Try.ntmps32 rfl (fun w0 Rest => ?_)
  (repeat' (first | refine zss ?_ | refine zs0 ?_ | ((with_reducible first | apply At.c1 | apply At.c0); exact rfl; exact rfl; exact k1 _ zml; exact ztk; kernel_rfl; rintro v' m' B' hm' ⟨rfl, rfl, rfl⟩; (try replace sl0 := sl0.mono hm'); (try (have hq0 : hm' = Mem.le_refl _ := rfl; clear hq0 hm'))) | (refine zsp ?_ ?_ <;> (intro hc; (try simp only [zhcs, reduceCtorEq] at hc); (try (exfalso; first | contradiction | omega | exact absurd rfl hc | exact absurd (by decide) hc))))))
  all_goals ((with_reducible apply At.retB1 (B := [bx b7 q, lg q d0 r a b e x y w c g, R d0 D])); exact rfl; exact rfl; exact zml; exact zkp; exact ⟨rfl, rfl, rfl⟩)
theorem f1 {m : Mem} (z : List UInt8) (h : z.length = 512) : Ct Try.prog 29 #[.string (str z)] m [] (fun v m' B => v = .bool false ∧ m = m' ∧ B = []) := by
  refine Ct.enterV (by rfl) Try.func29 rfl Try.ntmps29 rfl (fun w0 Rest => ?_)
  (repeat' (first | refine zss ?_ | refine zs0 ?_ | (refine zsp ?_ ?_ <;> (intro hc; (try simp only [zhcs, reduceCtorEq] at hc); (try (exfalso; first | contradiction | omega | exact absurd rfl hc | exact absurd (by decide) hc))))))
  all_goals ((with_reducible apply At.retB1 (B := [])); exact rfl; exact rfl; exact zml; exact zkp; exact ⟨congrArg Value.bool (by rw [h]; rfl), rfl, rfl⟩)
theorem idxS {m : Mem} (p : Option Addr) (d : Nat) (l : List (List UInt8)) (sl0 : Sl m Ls.fS 1 p d l) (hl : l.length ≤ 1000000) (h : ∀ z ∈ l, z.length = 512) :
    Rd Try.prog 54 #[.slice p l.length d, .func (.func 29) #[] #[]] m [] (.int .i64 (-1)) := by
  unfold Rd
  refine Ct.enterV (by rfl) Try.func54 rfl Try.ntmps54 rfl (fun w0 Rest => ?_)
  (repeat' (first | refine zss ?_ | refine zsM ?_ | (refine zsp ?_ ?_ <;> (intro hc; (try simp only [zhcs, reduceCtorEq] at hc); (try (exfalso; first | contradiction | omega | exact absurd rfl hc | exact absurd (by decide) hc))))))
  (refine At.loopk (σ := Nat) [0, 1, 7] (fun s F0 => (8, .int .i64 (s : Int)) :: F0) (fun s => m) (fun s => Rest) (fun s => s ≤ l.length) (fun s => l.length - s) 0 (by rfl) ?_ zsubs zml zente ?_)
  · exact Nat.zero_le _
  rintro j hj
  by_cases h0 : j < l.length
  · have k1 := fun (m' : Mem) => f1 (m := m') l[j]! (h _ (Ls.mem! h0))
    (repeat' (first | refine zss ?_ | refine zsM ?_ | ((with_reducible apply At.callf); exact rfl; kernel_rfl; exact rfl; exact rfl; exact k1 _; exact ztk; rintro v' m' B' hm' ⟨rfl, rfl, rfl⟩; (try replace sl0 := sl0.mono hm')) | (refine zsp ?_ ?_ <;> (intro hc; (try simp only [zhcs, reduceCtorEq] at hc); (try (exfalso; first | (first | omega | exact absurd rfl hc) | contradiction | omega | exact absurd rfl hc | exact absurd (by decide) hc))))))
    all_goals ((with_reducible refine At.reachk (j + 1) ?_ ?_ ?_ ?_); exact zsubs; exact zml; exact zente; exact ⟨h0, by omega⟩)
  · obtain rfl : j = l.length := by omega
    (repeat' (first | refine zss ?_ | refine zs0 ?_ | (refine zsp ?_ ?_ <;> (intro hc; (try simp only [zhcs, reduceCtorEq] at hc); (try (exfalso; first | (first | omega | exact absurd rfl hc) | contradiction | omega | exact absurd rfl hc | exact absurd (by decide) hc))))))
    all_goals ((with_reducible apply At.retB1 (B := [])); exact rfl; exact rfl; exact zml; exact zkp; exact ⟨rfl, rfl, rfl⟩)
theorem conS {m : Mem} (p : Option Addr) (d : Nat) (l : List (List UInt8)) (sl0 : Sl m Ls.fS 1 p d l) (hl : l.length ≤ 1000000) (h : ∀ z ∈ l, z.length = 512) :
    Rd Try.prog 28 #[.slice p l.length d, .func (.func 29) #[] #[]] m [] (.bool false) := by
  unfold Rd
  have k1 := fun (m' : Mem) (hmm : m.le m') => idxS (m := m') p d l (sl0.mono hmm) hl h
  refine Ct.enterV (by rfl) Try.func28 rfl Try.ntmps28 rfl (fun w0 Rest => ?_)
  (repeat' (first | refine zss ?_ | refine zs0 ?_ | ((with_reducible first | apply AtM1.cr | apply AtQ.cr | apply At.cr); exact rfl; exact rfl; exact fun _ hmm => k1 _ hmm; exact ztk; kernel_rfl) | (refine zsp ?_ ?_ <;> (intro hc; (try simp only [zhcs, reduceCtorEq] at hc); (try (exfalso; first | contradiction | omega | exact absurd rfl hc | exact absurd (by decide) hc))))))
  all_goals ((with_reducible apply At.retB1 (B := [])); exact rfl; exact rfl; exact zml; exact zkp; exact ⟨rfl, rfl, rfl⟩)
theorem clone {m : Mem} (p : Option Addr) (c : Nat) (l : List Chg) (hl : l.length ≤ 1000000) (sl0 : Sl m fC 2 p c l) :
    Ct Try.prog 61 #[.slice p l.length c] m [] (fun v m' B => m = m' ∧ ∃ p2 c2, v = .slice p2 l.length c2 ∧ B = [.own fC 2 60 p2 c2 l]) := by
  cases p with
  | none =>
    have h0 : l = [] := List.eq_nil_of_length_eq_zero (by have := sl0.nil rfl; have := sl0.le; omega)
    subst h0
    refine Ct.enterV (by rfl) Try.func61 rfl Try.ntmps61 rfl (fun w0 Rest => ?_)
    (repeat' (first | refine zss ?_ | ((first | (with_reducible first | apply At.val | apply AtQ.val)); (exact pr_sleql (by rfl) (by rfl) (by rfl)); exact rfl) | refine zsM ?_ | (refine zsp ?_ ?_ <;> (intro hc; (try simp only [zhcs, reduceCtorEq] at hc); (try (exfalso; first | contradiction | omega | exact absurd rfl hc | exact absurd (by decide) hc))))))
    all_goals refine At.own_nil fC 2 60 ?_
    all_goals ((with_reducible apply At.retB1 (B := [.own fC 2 _ _ _ _])); exact rfl; exact rfl; exact zml; exact zkp; exact ⟨rfl, _, _, rfl, rfl⟩)
  | some a =>
    refine Ct.enterV (by rfl) Try.func61 rfl Try.ntmps61 rfl (fun w0 Rest => ?_)
    (repeat' (first | refine zss ?_ | ((first | (with_reducible first | apply At.val | apply AtQ.val)); (exact pr_sleql (by rfl) (by rfl) (by rfl)); exact rfl) | refine zsM ?_ | ((with_reducible apply At.lit fC ([] : List Chg)); exact inferInstance; (iterate 7 exact rfl); intro _) | ((with_reducible apply At.apW (f := fC)); exact rfl; exact rfl; exact (by repeat constructor); exact inferInstance; exact zrdl; (iterate 4 exact rfl); exact zom; exact rfl; intro _ _) | (refine zsp ?_ ?_ <;> (intro hc; (try simp only [zhcs, reduceCtorEq] at hc); (try (exfalso; first | contradiction | omega | exact absurd rfl hc | exact absurd (by decide) hc))))))
    all_goals ((with_reducible apply At.retB1 (B := [.own fC 2 _ _ _ _])); exact rfl; exact rfl; exact zml; exact zkp; exact ⟨rfl, _, _, rfl, rfl⟩)
/-- the sectors of the log -/
def shf (t : Int) (l : List Chg) : List Chg := l.mapIdx fun i z => ⟨t + i, z.t⟩
theorem shf_len (t : Int) (l : List Chg) : (shf t l).length = l.length := by unfold shf; simp
theorem shf_get (t : Int) (l : List Chg) {i : Nat} (h : i < l.length) : (shf t l)[i]! = ⟨t + i, l[i]!.t⟩ := by
  rw [getElem!_pos _ i (by rw [shf_len]; exact h), getElem!_pos _ i h]
  unfold shf
  simp
structure TS where
  (j : Nat) (L : List Chg)
theorem texts {m : Mem} (q d0 : Nat) (p : Option Addr) (d : Nat) (l : List Chg) (hl : l.length ≤ 1000000) (hg : Ok r a b e x y w c g) (sl0 : Sl m fC 2 p d l) :
    Ct Try.prog 35 #[ptr q, .slice p l.length d] m [lg q d0 r a b e x y w c g] (fun v m' B => m = m' ∧ ∃ p2 c2, v = .slice p2 (shf (1 + ixv g) l).length c2 ∧ B = [lg q d0 r a b e x y w c g, .own fC 2 60 p2 c2 (shf (1 + ixv g) l)]) := by
  have k1 := fun (m' : Mem) (hmm : m.le m') => clone (m := m') p d l hl (sl0.mono hmm)
  have hb := hm_bd hg
  dsimp only [lg]
  generalize hmv g = H at hb ⊢
  generalize ixv g = I at hb ⊢
  refine Ct.enterV (by rfl) Try.func35 rfl Try.ntmps35 rfl (fun w0 Rest => ?_)
  (repeat' (first | refine zss ?_ | refine zs0 ?_ | ((with_reducible first | apply At.c1 | apply At.c0); exact rfl; exact rfl; exact k1 _ zml; exact ztk; kernel_rfl; rintro v' m' B' hm' ⟨rfl, p2, c2, rfl, rfl⟩; (try replace sl0 := sl0.mono hm'); (try (have hq0 : hm' = Mem.le_refl _ := rfl; clear hq0 hm'))) | (refine zsp ?_ ?_ <;> (intro hc; (try simp only [zhcs, reduceCtorEq] at hc); (try (exfalso; first | contradiction | omega | exact absurd rfl hc | exact absurd (by decide) hc))))))
  (refine At.loopk (σ := TS) [0, 5, 10] (fun s F0 => (11, .int .i64 (s.j : Int)) :: F0) (fun s => m) (fun s => .blk q 72 [ptr d0, gi r, gi a, gi b, gi e, gi x, gi y, gi w, gi c, gi g, gi H, gi (1 + I)] :: .own fC 2 60 p2 c2 s.L :: Rest) (fun s => s.j ≤ l.length ∧ s.L.length = l.length ∧ ∀ i, i < l.length → s.L[i]! = if i < s.j then ⟨1 + I + i, l[i]!.t⟩ else l[i]!) (fun s => l.length - s.j) ⟨0, l⟩ (by rfl) ?_ zsubs zml zente ?_)
  · exact ⟨Nat.zero_le _, rfl, fun i _ => by rw [if_neg (Nat.not_lt_zero _)]⟩
  rintro ⟨j, L⟩ ⟨hj, hL, hget⟩
  dsimp only at hj hL hget ⊢
  by_cases h : j < l.length
  · have hj2 := hget j h
    rw [if_neg (Nat.lt_irrefl _)] at hj2
    (repeat' (first | refine zss ?_ | refine zsO ?_ | ((with_reducible apply At.storeWf (f := fC) (x' := (⟨1 + I + j, L[j]!.t⟩ : Chg))); (case hx => exact rfl); (case hy => exact rfl); (case hv => exact rfl); (case hp => exact (by repeat constructor)); (case hr => exact rfl); (case hf => exact inferInstance); (case hk => exact zom); (case hs => exact rfl); (case hq => exact rfl); (case h1 => exact rfl)) | (refine zsp ?_ ?_ <;> (intro hc; (try simp only [zhcs, reduceCtorEq] at hc); (try (exfalso; first | (first | omega | exact absurd rfl hc) | contradiction | omega | exact absurd rfl hc | exact absurd (by decide) hc))))))
    all_goals ((with_reducible refine At.reachk ((⟨j + 1, L.set j ⟨1 + I + j, L[j]!.t⟩⟩ : TS)) ?_ ?_ ?_ ?_); exact zsubs; exact zml; exact zente; exact ⟨⟨h, by dsimp only; rw [List.length_set]; exact hL, fun i hi => by
      dsimp only
      rw [getElem!_pos _ i (by rw [List.length_set, hL]; exact hi), List.getElem_set]
      by_cases e : j = i
      · subst e; rw [if_pos rfl, if_pos (Nat.lt_succ_self _), hj2]
      · rw [if_neg e]
        have := hget i hi
        rw [getElem!_pos _ i (by rw [hL]; exact hi)] at this
        rw [this]
        by_cases e' : i < j
        · rw [if_pos e', if_pos (by omega)]
        · rw [if_neg e', if_neg (by omega)]⟩, by dsimp only; omega⟩)
  · obtain rfl : j = l.length := by omega
    have hfin : L = shf (1 + I) l := Ls.ext! (by rw [hL, shf_len]) fun i hi => by rw [hget i (by omega), if_pos (by omega), shf_get _ _ (by omega)]
    subst hfin
    (repeat' (first | refine zss ?_ | refine zsO ?_ | (refine zsp ?_ ?_ <;> (intro hc; (try simp only [zhcs, reduceCtorEq] at hc); (try (exfalso; first | (first | omega | exact absurd rfl hc) | contradiction | omega | exact absurd rfl hc | exact absurd (by decide) hc))))))
    all_goals ((with_reducible apply At.retB1 (B := [.blk q _ _, .own fC 2 60 p2 c2 (shf (1 + I) l)])); exact rfl; exact rfl; exact zml; exact zkp; exact ⟨rfl, p2, c2, by rw [shf_len], rfl⟩)
theorem stp_arm (D : Dsk) : (stp D).1.arm ≤ max D.arm 0 := by
  unfold stp
  split
  · dsimp only; omega
  split
  · dsimp only; omega
  split
  · dsimp only; omega
  · dsimp only; omega
theorem syn_fit {D : Dsk} (h : Fit D 0) : Fit (syn D).1 0 ∧ (syn D).1.safe.length = D.safe.length ∧ ((syn D).2 = 0 → (syn D).1.pend = []) := by
  obtain ⟨e1, e2⟩ := stp_safe D
  have ha := stp_arm D
  have := h.arm
  have := h.pend
  unfold syn
  split
  · refine ⟨⟨?_, ?_, ?_, ?_⟩, ?_, fun _ => rfl⟩
    · show (stp D).1.arm ≤ _; omega
    · exact Nat.zero_le _
    · show (kpS _ _ _ _).length ≤ _; rw [kpS_len, e1]; exact h.safe
    · intro x hx; cases hx
    · show (kpS _ _ _ _).length = _; rw [kpS_len, e1]
  · rename_i h0
    refine ⟨⟨by omega, by rw [e2]; omega, by rw [e1]; exact h.safe, fun x hx => ?_⟩, by rw [e1], fun h => absurd h h0⟩
    have := h.okD x (e2 ▸ hx)
    unfold has at this ⊢
    rw [e1]; exact this
theorem stepP_fit : ∀ (l : List Chg) (D : Dsk), Fit D l.length → Fit (stepP D l).1 0 ∧ (stepP D l).1.safe.length = D.safe.length ∧ ((stepP D l).2 = 0 → (stepP D l).1.pend = [])
  | [], D, h => syn_fit h
  | z :: l, D, h => by
    have h1 := h.wr z
    have h2 := (wr_arm D z).2.2
    unfold stepP
    split
    · have := stepP_fit l _ h1
      exact ⟨this.1, by rw [this.2.1, h2], this.2.2⟩
    · rename_i h0
      exact ⟨⟨h1.arm, by have := h1.pend; omega, h1.safe, h1.okD⟩, by rw [h2], fun h => absurd h h0⟩
structure Gp where
  (p : Option Addr) (c : Nat) (l : List Chg)
abbrev fG : Gp → List Value := fun x => [.slice x.p x.l.length x.c]
instance : Inhabited Gp := ⟨⟨none, 0, []⟩⟩
instance : Fl fG 1 := ⟨fun _ => rfl, fun _ v h => by simp at h; subst h; rfl, by decide⟩
theorem steps_ {m : Mem} (q d0 : Nat) (p : Option Addr) (d : Nat) (G : List Gp) (D : Dsk) (sl0 : Sl m fG 1 p d G) (hl : G.length ≤ 1000) (hG : ∀ x ∈ G, Sl m fC 2 x.p x.c x.l ∧ x.l.length ≤ 1000000) (hf : Fit D 0) (hp : D.pend = []) :
    Ct Try.prog 30 #[ptr q, .slice p G.length d] m [lg q d0 r a b e x y w c g, R d0 D] (fun v m' B => v = .int .i64 (stepsP D (G.map Gp.l)).2 ∧ B = [lg q d0 r a b e x y w c g, R d0 (stepsP D (G.map Gp.l)).1]) := by
  have k1 := fun (m' : Mem) (D : Dsk) (z : Gp) (hs : Sl m' fC 2 z.p z.c z.l) (hz : z.l.length ≤ 1000000) (hf : Fit D 0) (hp : D.pend = []) => step_ (r := r) (a := a) (b := b) (e := e) (x := x) (y := y) (w := w) (c := c) (g := g) (m := m') q d0 z.p z.c z.l D hs hz ⟨hf.arm, by rw [hp]; show 0 + _ ≤ _; omega, hf.safe, hf.okD⟩
  dsimp only [lg] at k1 ⊢
  generalize hmv g = H at k1 ⊢
  generalize 1 + ixv g = I at k1 ⊢
  refine Ct.enterV (by rfl) Try.func30 rfl Try.ntmps30 rfl (fun w0 Rest => ?_)
  (repeat' (first | refine zss ?_ | refine zsM ?_ | (refine zsp ?_ ?_ <;> (intro hc; (try simp only [zhcs, reduceCtorEq] at hc); (try (exfalso; first | contradiction | omega | exact absurd rfl hc | exact absurd (by decide) hc))))))
  (refine At.loopk (σ := DS2) [0, 8, 9] (fun s F0 => (10, .int .i64 (s.j : Int)) :: F0) (fun s => m) (fun s => .blk q 72 [ptr d0, gi r, gi a, gi b, gi e, gi x, gi y, gi w, gi c, gi g, gi H, gi I] :: R d0 s.D :: Rest) (fun s => s.j ≤ G.length ∧ Fit s.D 0 ∧ s.D.pend = [] ∧ stepsP s.D ((G.drop s.j).map Gp.l) = stepsP D (G.map Gp.l)) (fun s => G.length - s.j) ⟨0, D⟩ (by rfl) ?_ zsubs zml zente ?_)
  · exact ⟨Nat.zero_le _, hf, hp, rfl⟩
  rintro ⟨j, D'⟩ ⟨hj, hf', hp', hst⟩
  dsimp only at hj hf' hp' hst ⊢
  by_cases h : j < G.length
  · rw [Ls.drop_cons h, List.map_cons, stepsP] at hst
    have hx := hG _ (Ls.mem! h)
    have hk := fun (m' : Mem) (hmm : m.le m') => k1 m' D' G[j]! (hx.1.mono hmm) hx.2 hf' hp'
    have hf2 := stepP_fit G[j]!.l D' ⟨hf'.arm, by rw [hp']; show 0 + _ ≤ _; have := hx.2; omega, hf'.safe, hf'.okD⟩
    generalize stepP D' G[j]!.l = T at hst hf2 hk
    obtain ⟨D2, w2⟩ := T
    dsimp only at hst hf2 hk
    by_cases h0 : w2 = 0
    · rw [if_pos h0] at hst
      subst h0
      (repeat' (first | refine zss ?_ | refine zsM ?_ | ((with_reducible first | apply At.c1 | apply At.c0); exact rfl; exact rfl; exact hk _ zml; exact ztk; kernel_rfl; rintro v' m' B' hm' ⟨rfl, rfl⟩; (try replace sl0 := sl0.mono hm'); (try (have hq0 : hm' = Mem.le_refl _ := rfl; clear hq0 hm'))) | (refine zsp ?_ ?_ <;> (intro hc; (try simp only [zhcs, reduceCtorEq] at hc); (try (exfalso; first | (first | omega | exact absurd rfl hc) | contradiction | omega | exact absurd rfl hc | exact absurd (by decide) hc))))))
      all_goals ((with_reducible refine At.reachk ((⟨j + 1, D2⟩ : DS2)) ?_ ?_ ?_ ?_); exact zsubs; exact zml; exact zente; exact ⟨⟨h, hf2.1, hf2.2.2 rfl, hst⟩, by dsimp only; omega⟩)
    · rw [if_neg h0] at hst
      (repeat' (first | refine zss ?_ | refine zsM ?_ | ((with_reducible first | apply At.c1 | apply At.c0); exact rfl; exact rfl; exact hk _ zml; exact ztk; kernel_rfl; rintro v' m' B' hm' ⟨rfl, rfl⟩; (try replace sl0 := sl0.mono hm'); (try (have hq0 : hm' = Mem.le_refl _ := rfl; clear hq0 hm'))) | (refine zsp ?_ ?_ <;> (intro hc; (try simp only [zhcs, reduceCtorEq] at hc); (try (exfalso; first | (first | omega | exact absurd rfl hc | exact absurd hc h0) | contradiction | omega | exact absurd rfl hc | exact absurd (by decide) hc))))))
      all_goals ((with_reducible apply At.retB1 (B := [.blk q _ _, R d0 D2])); exact rfl; exact rfl; exact zml; exact zkp; exact ⟨by rw [← hst], by rw [← hst]⟩)
  · obtain rfl : j = G.length := by omega
    rw [List.drop_length, List.map_nil, stepsP] at hst
    (repeat' (first | refine zss ?_ | refine zsM ?_ | (refine zsp ?_ ?_ <;> (intro hc; (try simp only [zhcs, reduceCtorEq] at hc); (try (exfalso; first | (first | omega | exact absurd rfl hc) | contradiction | omega | exact absurd rfl hc | exact absurd (by decide) hc))))))
    all_goals ((with_reducible apply At.retB1 (B := [.blk q _ _, R d0 D'])); exact rfl; exact rfl; exact zml; exact zkp; exact ⟨by rw [← hst], by rw [← hst]⟩)
/-- what one owns stays as it is from the call on -/
theorem Ct.frz {α : Type} [Inhabited α] {f : α → List Value} {sz : Nat} {E : TypeId} {P : Program} {m : Mem} {fn : FuncId} {args : Array Value} {p : Option Addr} {c : Nat} {l : List α} {A : List Res} {Q : Value → Mem → List Res → Prop} (hf : Fl f sz)
    (h : ∀ m', m.le m' → Sl m' f sz p c l → Ct P fn args m' A Q) : Ct P fn args m (.own f sz E p c l :: A) Q := by
  unfold Ct
  intro w0 Rest w hw
  have hA : At 0 w0 [] m (.own f sz E p c l :: (A ++ Rest)) (fun _ w => Calls P fn args w fun e w' => ∃ v m' B, e = .returned v ∧ m.le m' ∧ Q v m' B ∧ HW w0 m' (B ++ Rest) w') := by
    refine At.own_freeze hf .here fun m' hm sl => ?_
    unfold At
    intro _ w _ hw
    have h1 := h m' hm sl
    unfold Ct at h1
    exact (h1 w0 Rest w hw).mono fun e w' ⟨v, m2, B, he, hm2, hR, hw'⟩ => ⟨v, m2, B, he, Mem.le_trans hm hm2, hR, hw'⟩
  unfold At at hA
  exact hA { tmps := #[], defers := [] } w ⟨rfl, rfl, fun _ _ h => by cases h⟩ hw
/-- the same, where what is written first is one's own -/
theorem stepsO {m : Mem} (q d0 : Nat) (p : Option Addr) (d : Nat) (x0 : Gp) (G : List Gp) (D : Dsk) (sl0 : Sl m fG 1 p d (x0 :: G)) (hl : G.length ≤ 900) (h0 : x0.l.length ≤ 1000000) (hG : ∀ x ∈ G, Sl m fC 2 x.p x.c x.l ∧ x.l.length ≤ 1000000) (hf : Fit D 0) (hp : D.pend = []) :
    Ct Try.prog 30 #[ptr q, .slice p (G.length + 1) d] m [.own fC 2 60 x0.p x0.c x0.l, lg q d0 r a b e x y w c g, R d0 D] (fun v m' B => v = .int .i64 (stepsP D (x0.l :: G.map Gp.l)).2 ∧ B = [lg q d0 r a b e x y w c g, R d0 (stepsP D (x0.l :: G.map Gp.l)).1]) :=
  Ct.frz inferInstance fun m' hm sl => steps_ q d0 p d (x0 :: G) D (sl0.mono hm) (by rw [List.length_cons]; omega) (fun z hz => by
    rcases List.mem_cons.1 hz with rfl | hz
    · exact ⟨sl, h0⟩
    · exact ⟨(hG z hz).1.mono hm, (hG z hz).2⟩) hf hp
end
end Redo
end Go.Proofs.Ytijgnbedilipdaa
namespace Go.Proofs.Ytijgnbedilipdaa
open Go Go.J
attribute [local irreducible] At AtQ AtM AtM1 PR Ct Pu Rd Res.blk Res.own Res.ex Res.obj RVs RV CW LW YC BK bodyPostM roundPost Dk.R Cod.W
namespace Redo
open Dk Conf
open Cod hiding ptr wr
abbrev tC : FuncId := 74
theorem chunk {m : Mem} (p : Option Addr) (n c : Nat) : Ct Try.prog 62 #[.slice p n c, .int .i64 120] m [] (fun v m' B => m = m' ∧ ∃ b1 b2, v = .func (.func tC) #[] #[ptr b1, ptr b2] ∧ B = [bS b1 p n c, .blk b2 3 [gi 120]]) := by
  refine Ct.enterV (by rfl) Try.func62 rfl Try.ntmps62 rfl (fun w0 Rest => ?_)
  (repeat' (first | refine zss ?_ | refine zs0 ?_ | ((with_reducible apply At.box (d := 2)); exact rfl; exact rfl; exact rfl; intro b2) | ((with_reducible apply At.box (d := 3)); exact rfl; exact rfl; exact rfl; intro b3) | (refine zsp ?_ ?_ <;> (intro hc; (try simp only [zhcs, reduceCtorEq] at hc); (try (exfalso; first | (first | omega | exact absurd rfl hc) | contradiction | omega | exact absurd rfl hc | exact absurd (by decide) hc))))))
  all_goals ((with_reducible apply At.retB1 (B := [bS b2 p n c, .blk b3 3 [gi 120]])); exact rfl; exact rfl; exact zml; exact zkp; exact ⟨rfl, b2, b3, rfl, rfl⟩)
theorem subp0 (p : Option Addr) (n sz : Nat) : subp p n 0 sz = p := by
  unfold subp
  split
  · rfl
  · rw [Nat.zero_mul]
    cases p with
    | none => rfl
    | some a => show some (a.add 0) = some a; unfold Addr.add; rfl
theorem pr_cut {P : Program} {F : Fr} {C : World → Prop} {N : Nat} {x y z u : Operand} {t E : TypeId} {p : Option Addr} {n c sz : Nat} {k k' k'' : IntKind} {q0 q1 q2 : Int} (hx : ev F x = some (.slice p n c)) (hy : ev F y = some (.int k q0)) (hz : ev F z = some (.int k' q1)) (hu : ev F u = some (.int k'' q2))
    (ht : P.underlying t = some (.slice E)) (hs : sizeB P E = some sz) (h0 : q0 = 0) (h1 : q1 = n) (h2 : q2 = n) (h : n ≤ c) : PR P N F C (.slice t x (some y) (some z) (some u)) (.slice p n n) := by
  subst h0 h1 h2
  have := pr_slice4 (P := P) (n := N) (C := C) (lo := 0) hx hy hz hu ht hs (Nat.zero_le _) (Nat.le_refl _) h
  rw [subp0] at this
  exact this
theorem chunk1 {m : Mem} (X Z : Res) (l b1 b2 b5 : Nat) (p : Option Addr) (n c : Nat) (ix : Chg) (h1 : 1 ≤ n) (h2 : n ≤ 120) (hnc : n ≤ c)
    (Y : YC Try.prog l [.slice p n n] m [X, .blk b5 42 [.slice none 0 0]] (fun v m' B => v = .bool true ∧ ∃ p2 c2, B = [X, .blk b5 42 [.slice p2 1 c2], .own fC 2 60 p2 c2 [ix]])) :
    Ct Try.prog tC #[.func (.yield l) #[] #[], ptr b1, ptr b2] m [X, Z, bS b1 p n c, .blk b2 3 [gi 120], .blk b5 42 [.slice none 0 0]]
      (fun v m' B => ∃ p2 c2, B = [X, Z, .blk b5 42 [.slice p2 1 c2], .own fC 2 60 p2 c2 [ix]]) := by
  refine Ct.enterVC (by rfl) Try.func74 rfl Try.ntmps74 rfl (fun w0 Rest => ?_)
  (repeat' (first | refine zss ?_ | refine zs0 ?_ | (with_reducible first | apply At.c_seq | apply At.c_skip | apply At.c_ret | apply At.c_exit | apply At.c_block) | ((with_reducible apply At.c_region); exact znl; exact rfl; kernel_rfl) | ((with_reducible apply At.c_cond); exact rfl; all_goals (intro hc; (try simp only [zhcs, reduceCtorEq] at hc); (try (exfalso; first | contradiction | omega | exact absurd rfl hc | exact absurd (by decide) hc)))) | (refine zsp ?_ ?_ <;> (intro hc; (try simp only [zhcs, reduceCtorEq] at hc); (try (exfalso; first | (first | omega | exact absurd rfl hc) | contradiction | omega | exact absurd rfl hc | exact absurd (by decide) hc))))))
  (refine At.c_loopk (σ := Option (Option Addr × Nat)) [0, 1, 2] (fun s F0 => (4, (match s with | none => gi 0 | some _ => gi 120)) :: F0) (fun s => m) (fun s => (match s with | none => X :: Z :: bS b1 p n c :: .blk b2 3 [gi 120] :: .blk b5 42 [.slice none 0 0] :: Rest | some u => X :: .blk b5 42 [.slice u.1 1 u.2] :: .own fC 2 60 u.1 u.2 [ix] :: Z :: bS b1 p n c :: .blk b2 3 [gi 120] :: Rest)) (fun s => True) (fun s => (match s with | none => 1 | some _ => 0)) none (by rfl) ?_ zsubs zml zente ?_)
  · trivial
  rintro (_ | ⟨p2, c2⟩) - <;> dsimp only
  · (repeat' (first | ((with_reducible apply At.c_mixed (id := 3) [ ] 7 (.q 0 (.q 1 (.q 2 (.q 3 (.q 4 (.q 5 (.q 6 .done)))))))); (repeat' (first | exact Take.nil | ((with_reducible apply Take.cons); (focus ((repeat constructor); done))))); exact rfl; kernel_rfl; kernel_rfl; kernel_rfl; kernel_rfl) | refine zsx ?_ | refine zss ?_ | ((with_reducible apply AtM.bo); exact rfl; exact rfl; exact rfl) | ((first | (with_reducible first | apply At.val | apply AtQ.val) | ((with_reducible first | apply AtM1.valz | apply AtM1.val); exact rfl) | ((with_reducible apply AtM1.val); exact rfl)); (first | exact pr_slice_l (lo := 0) (by rfl) (by rfl) (by rfl) (by rfl) (Nat.zero_le _) hnc | exact pr_cut (by rfl) (by rfl) (by rfl) (by rfl) (by rfl) (by rfl) (by omega) (by omega) (by omega) hnc); exact rfl) | refine zs0 ?_ | refine zx0 ?_ | ((with_reducible apply At.c_regionY (id := 4) 10); exact znl; exact rfl; exact rfl; exact rfl; kernel_rfl) | (with_reducible first | apply At.c_seq | apply At.c_skip | apply At.c_ret | apply At.c_exit | apply At.c_block) | ((with_reducible apply At.c_region); exact znl; exact rfl; kernel_rfl) | ((with_reducible apply At.c_cond); exact rfl; all_goals (intro hc; (try simp only [zhcs, reduceCtorEq] at hc); (try (exfalso; first | contradiction | omega | exact absurd rfl hc | exact absurd (by decide) hc)))) | ((with_reducible apply At.c_yield); exact rfl; exact rfl; exact rfl; exact Y; exact ztk; rintro v' m' B' hm' ⟨rfl, p2, c2, rfl⟩; refine At.c_on znl (by kernel_rfl) ?_) | (refine zsp ?_ ?_ <;> (intro hc; (try simp only [zhcs, reduceCtorEq] at hc); (try (exfalso; first | (first | omega | exact absurd rfl hc) | contradiction | omega | exact absurd rfl hc | exact absurd (by decide) hc))))))
    all_goals ((with_reducible refine At.reachk (some (p2, c2)) ?_ ?_ ?_ ?_); exact zsubs; exact zml; exact zente; exact ⟨trivial, Nat.zero_lt_one⟩)
  · (repeat' (first | refine zss ?_ | refine zs0 ?_ | (with_reducible first | apply At.c_seq | apply At.c_skip | apply At.c_ret | apply At.c_exit | apply At.c_block) | ((with_reducible apply At.c_region); exact znl; exact rfl; kernel_rfl) | ((with_reducible apply At.c_cond); exact rfl; all_goals (intro hc; (try simp only [zhcs, reduceCtorEq] at hc); (try (exfalso; first | contradiction | omega | exact absurd rfl hc | exact absurd (by decide) hc)))) | (refine zsp ?_ ?_ <;> (intro hc; (try simp only [zhcs, reduceCtorEq] at hc); (try (exfalso; first | (first | omega | exact absurd rfl hc) | contradiction | omega | exact absurd rfl hc | exact absurd (by decide) hc))))))
    all_goals ((first | (with_reducible apply At.retB0 (B := [X, Z, .blk b5 _ _, .own fC 2 _ _ _ _])) | (with_reducible apply At.retR0 (B := [X, Z, .blk b5 _ _, .own fC 2 _ _ _ _]))); exact rfl; exact zml; exact zkp; exact ⟨p2, c2, rfl⟩)
/-- the sectors' numbers -/
def ixt (l : List Chg) : List UInt8 := l.flatMap fun z => fixB 4 z.s.toNat
theorem ixt_len (l : List Chg) : (ixt l).length = 4 * l.length := by
  unfold ixt
  induction l with
  | nil => rfl
  | cons z l ih => rw [List.flatMap_cons, List.length_append, ih, List.length_cons]; show 4 + _ = _; omega
theorem index_ {m : Mem} (q : Nat) (p : Option Addr) (d : Nat) (l : List Chg) (h1 : 1 ≤ l.length) (h2 : l.length ≤ 120) (sl0 : Sl m fC 2 p d l) (hs : ∀ z ∈ l, 0 ≤ z.s ∧ z.s < 4294967296) :
    Ct Try.prog 36 #[ptr q, .slice p l.length d] m [] (fun v m' B => ∃ p2 c2, v = .slice p2 1 c2 ∧ B = [.own fC 2 60 p2 c2 [⟨1, pad (ixt l)⟩]]) := by
  have hle := sl0.le
  have k1 := fun (m' : Mem) => chunk (m := m') p l.length d
  have sl1 := Ls.clipSl sl0
  refine Ct.enterVM (by rfl) Try.func36 rfl Try.ntmps36 rfl (fun w0 Rest => ?_)
  (repeat' (first | refine zss ?_ | refine zs0 ?_ | ((with_reducible first | apply At.c1 | apply At.c0); exact rfl; exact rfl; exact k1 _; exact ztk; kernel_rfl; rintro v' m' B' hm' ⟨rfl, b1, b2, rfl, rfl⟩; (try replace sl0 := sl0.mono hm'); (try replace sl1 := sl1.mono hm'); (try replace sl9 := sl9.mono hm'); (try (have hq0 : hm' = Mem.le_refl _ := rfl; clear hq0 hm'))) | ((with_reducible apply At.alloc (d := 5)); exact rfl; exact rfl; intro b5) | ((with_reducible apply At.alloc (d := 7)); exact rfl; exact rfl; intro b7) | ((with_reducible apply At.alloc (d := 9)); exact rfl; exact rfl; intro b9) | (refine zsp ?_ ?_ <;> (intro hc; (try simp only [zhcs, reduceCtorEq] at hc); (try (exfalso; first | contradiction | omega | exact absurd rfl hc | exact absurd (by decide) hc))))))
  refine At.rangeFunc (A := [bS b1 p l.length d, .blk b2 3 [gi 120], .blk b5 42 [.slice none 0 0]]) (S := fun m' A' => ∃ p2 c2, A' = [.blk b5 42 [.slice p2 1 c2], .own fC 2 60 p2 c2 [⟨1, pad (ixt l)⟩]]) rfl (by kernel_rfl) ztk (fun L B f tm hf => ?_) ?_
  · refine (chunk1 (.obj L _) (.obj B _) L b1 b2 b5 p l.length d ⟨1, pad (ixt l)⟩ h1 h2 hle (YC.intro hf (by rfl) fun w1 Rest1 => ?_)).mono fun v m' X _ ⟨p2, c2, h⟩ => ⟨_, h, p2, c2, rfl⟩
    have k2 : ∀ (m' : Mem) (b7 : Nat) (z : Chg) (t : List UInt8), z ∈ l → t.length ≤ 1000 → Ct Try.prog 57 #[Cod.ptr b7, .int .i64 4, .int .u64 z.s] m' [Cod.W b7 t] (fun v m'' B => v = .tuple #[] ∧ m' = m'' ∧ B = [Cod.W b7 (t ++ fixB 4 z.s.toNat)]) := fun m' b7 z t hz ht => by
      have := fixed (m := m') b7 z.s.toNat 4 t (by have := hs z hz; omega) (by omega)
      rwa [Int.toNat_of_nonneg (hs z hz).1] at this
    have k3 := fun (m' : Mem) (b7 : Nat) => out (m := m') b7 (ixt l)
    have k4 := pad_ (ixt l) (by rw [ixt_len]; omega)
    (repeat' (first | refine zss ?_ | refine zsM ?_ | ((with_reducible apply At.begin); exact (by repeat constructor)) | (with_reducible first | apply At.c_seq | apply At.c_skip | apply At.c_ret | apply At.c_exit | apply At.c_block) | ((with_reducible apply At.c_region); exact znl; exact rfl; kernel_rfl) | ((with_reducible apply At.c_cond); exact rfl; all_goals (intro hc; (try simp only [zhcs, reduceCtorEq] at hc); (try (exfalso; first | contradiction | omega | exact absurd rfl hc | exact absurd (by decide) hc)))) | ((with_reducible apply At.ent); exact own0 b7 _) | ((with_reducible apply At.alloc (d := 5)); exact rfl; exact rfl; intro b5) | ((with_reducible apply At.alloc (d := 7)); exact rfl; exact rfl; intro b7) | ((with_reducible apply At.alloc (d := 9)); exact rfl; exact rfl; intro b9) | (refine zsp ?_ ?_ <;> (intro hc; (try simp only [zhcs, reduceCtorEq] at hc); (try (exfalso; first | omega | contradiction | omega | exact absurd rfl hc | exact absurd (by decide) hc))))))
    (refine At.c_loopk (σ := Nat) [5, 7, 13, 14] (fun s F0 => (15, .int .i64 (s : Int)) :: F0) (fun s => m) (fun s => Cod.W b7 (ixt (l.take s)) :: .obj L (lrec B f tm #[12] _ _ .busy none) :: .blk b5 42 [.slice none 0 0] :: Rest1) (fun s => s ≤ l.length) (fun s => l.length - s) 0 (by rfl) ?_ zsubs zml zente ?_)
    · exact Nat.zero_le _
    intro j hj
    by_cases h : j < l.length
    · have hz := hs _ (Ls.mem! h)
      have k2' := fun (m' : Mem) => k2 m' b7 l[j]! (ixt (l.take j)) (Ls.mem! h) (by rw [ixt_len, List.length_take]; omega)
      have e : ixt (l.take j) ++ fixB 4 l[j]!.s.toNat = ixt (l.take (j + 1)) := by
        unfold ixt
        rw [Ls.take_snoc h, List.flatMap_append]; rfl
      rw [e] at k2'
      (repeat' (first | refine zss ?_ | refine zsM ?_ | (with_reducible first | apply At.c_seq | apply At.c_skip | apply At.c_ret | apply At.c_exit | apply At.c_block) | ((with_reducible apply At.c_region); exact znl; exact rfl; kernel_rfl) | ((with_reducible apply At.c_cond); exact rfl; all_goals (intro hc; (try simp only [zhcs, reduceCtorEq] at hc); (try (exfalso; first | contradiction | omega | exact absurd rfl hc | exact absurd (by decide) hc)))) | ((with_reducible first | apply At.c1 | apply At.c0); exact rfl; exact rfl; exact k2' _; exact ztk; kernel_rfl; rintro v' m' B' hm' ⟨rfl, rfl, rfl⟩; (try replace sl0 := sl0.mono hm'); (try replace sl1 := sl1.mono hm'); (try replace sl9 := sl9.mono hm'); (try (have hq0 : hm' = Mem.le_refl _ := rfl; clear hq0 hm'))) | ((with_reducible apply At.alloc (d := 5)); exact rfl; exact rfl; intro b5) | ((with_reducible apply At.alloc (d := 7)); exact rfl; exact rfl; intro b7) | ((with_reducible apply At.alloc (d := 9)); exact rfl; exact rfl; intro b9) | (refine zsp ?_ ?_ <;> (intro hc; (try simp only [zhcs, reduceCtorEq] at hc); (try (exfalso; first | (first | omega | exact absurd rfl hc) | contradiction | omega | exact absurd rfl hc | exact absurd (by decide) hc))))))
      all_goals ((with_reducible refine At.reachk (j + 1) ?_ ?_ ?_ ?_); exact zsubs; exact zml; exact zente; exact ⟨h, by omega⟩)
    · obtain rfl : j = l.length := by omega
      rw [List.take_length]
      refine At.own_nil fC 2 60 ?_
      (repeat' (first | ((with_reducible apply At.c_mixed (id := 10) [ ] 10 (.q 0 (.q 1 (.q 2 (.q 3 (.q 4 (.q 5 (.q 6 (.l 7 (.x 8 (.x 9 .done))))))))))); (repeat' (first | exact Take.nil | ((with_reducible apply Take.cons); (focus ((repeat constructor); done))))); exact rfl; kernel_rfl; kernel_rfl; kernel_rfl; kernel_rfl) | refine zsx ?_ | refine zss ?_ | ((with_reducible apply AtM.bo); exact rfl; exact rfl; exact rfl) | refine zsO ?_ | refine zxO ?_ | (with_reducible first | apply At.c_seq | apply At.c_skip | apply At.c_ret | apply At.c_exit | apply At.c_block) | ((with_reducible apply At.c_region); exact znl; exact rfl; kernel_rfl) | ((with_reducible apply At.c_cond); exact rfl; all_goals (intro hc; (try simp only [zhcs, reduceCtorEq] at hc); (try (exfalso; first | contradiction | omega | exact absurd rfl hc | exact absurd (by decide) hc)))) | ((with_reducible first | apply AtM1.cr | apply AtQ.cr | apply At.cr); exact rfl; exact rfl; exact fun _ hmm => k3 _ b7; exact ztk; kernel_rfl) | ((with_reducible first | apply AtM1.callp | apply AtQ.callp | apply At.callp); kernel_rfl; exact rfl; exact rfl; exact k4) | ((with_reducible apply At.litF fC [⟨1, pad (ixt l)⟩]); exact inferInstance; (iterate 7 exact rfl); intro b' m' hm' sl9; (try replace sl0 := sl0.mono hm'); (try replace sl1 := sl1.mono hm')) | ((with_reducible apply At.apW (f := fC) (l := ([] : List Chg))); exact rfl; exact rfl; exact (by repeat constructor); exact inferInstance; exact zrdl; (iterate 4 exact rfl); exact zom; exact rfl; intro p2 c2) | ((with_reducible apply At.alloc (d := 5)); exact rfl; exact rfl; intro b5) | ((with_reducible apply At.alloc (d := 7)); exact rfl; exact rfl; intro b7) | ((with_reducible apply At.alloc (d := 9)); exact rfl; exact rfl; intro b9) | (refine zsp ?_ ?_ <;> (intro hc; (try simp only [zhcs, reduceCtorEq] at hc); (try (exfalso; first | (first | omega | exact absurd rfl hc) | contradiction | omega | exact absurd rfl hc | exact absurd (by decide) hc))))))
      all_goals exact At.endr (X := [.obj L _, .blk b5 _ _, .own fC 2 _ _ _ _]) (by repeat constructor) zml (Keep.ent zkp) ⟨rfl, p2, c2, rfl⟩
  rintro B m' A' hm ⟨p2, c2, rfl⟩
  refine At.tail ?_
  (repeat' (first | refine zss ?_ | refine zsO ?_ | (with_reducible first | apply At.c_seq | apply At.c_skip | apply At.c_ret | apply At.c_exit | apply At.c_block) | ((with_reducible apply At.c_region); exact znl; exact rfl; kernel_rfl) | ((with_reducible apply At.c_cond); exact rfl; all_goals (intro hc; (try simp only [zhcs, reduceCtorEq] at hc); (try (exfalso; first | contradiction | omega | exact absurd rfl hc | exact absurd (by decide) hc)))) | ((with_reducible apply At.alloc (d := 5)); exact rfl; exact rfl; intro b5) | ((with_reducible apply At.alloc (d := 7)); exact rfl; exact rfl; intro b7) | ((with_reducible apply At.alloc (d := 9)); exact rfl; exact rfl; intro b9) | (refine zsp ?_ ?_ <;> (intro hc; (try simp only [zhcs, reduceCtorEq] at hc); (try (exfalso; first | omega | contradiction | omega | exact absurd rfl hc | exact absurd (by decide) hc))))))
  all_goals ((with_reducible apply At.retM (X := [.own fC 2 _ _ _ _])); exact (by repeat constructor); exact rfl; (repeat' (first | exact RVs.nil | (with_reducible apply RVs.cons) | exact rv_tmp (by rfl) | exact rv_cellN (by rfl) (by repeat constructor) (by rfl) (by rfl) (by rfl) | exact rv_cell1 (by rfl) (by repeat constructor) (by rfl) (by rfl))); exact zml; exact zkp; exact ⟨p2, c2, rfl, rfl⟩)
end Redo
end Go.Proofs.Ytijgnbedilipdaa
namespace Go.Proofs.Ytijgnbedilipdaa
open Go Go.J
attribute [local irreducible] At AtQ AtM AtM1 PR Ct Pu Rd Res.blk Res.own Res.ex Res.obj RVs RV CW LW YC BK bodyPostM roundPost Dk.R Cod.W
namespace Redo
open Dk Conf
open Cod hiding ptr wr
theorem ixt_at {l : List Chg} {i : Nat} (h : i < l.length) : ∃ u, (pad (ixt l)).drop (4 * i) = fixB 4 l[i]!.s.toNat ++ u := by
  have e : ixt l = ixt (l.take i) ++ (fixB 4 l[i]!.s.toNat ++ ixt (l.drop (i + 1))) := by
    have h1 : l = l.take i ++ l[i]! :: l.drop (i + 1) := by rw [← Ls.drop_cons h, List.take_append_drop]
    calc ixt l = ixt (l.take i ++ l[i]! :: l.drop (i + 1)) := by rw [← h1]
      _ = _ := by unfold ixt; rw [List.flatMap_append, List.flatMap_cons]
  have hl : (ixt (l.take i)).length = 4 * i := by rw [ixt_len, List.length_take]; omega
  refine ⟨ixt (l.drop (i + 1)) ++ List.replicate (512 - (ixt l).length) 0, ?_⟩
  unfold pad
  generalize hu : List.replicate (512 - (ixt l).length) (0 : UInt8) = u
  rw [e, List.append_assoc, List.append_assoc, ← hl, List.drop_left]
section
variable {r a b e x y w c g : Int}
theorem one_ {m : Mem} (q d0 : Nat) (D : Dsk) (l : List Chg) (i : Nat) (hg : Ok r a b e x y w c g) (hi : i < l.length) (h2 : l.length ≤ 120) (hm : may g D l[i]!) (hd : D.down = false) (hp : D.pend = []) (hl : D.safe.length ≤ 1000000)
    (hx : D.safe[1]! = pad (ixt l)) (ht : D.safe[(1 + ixv g).toNat + i]! = l[i]!.t) (hlen : (1 + ixv g).toNat + l.length ≤ D.safe.length) :
    Ct Try.prog 43 #[ptr q, .int .i64 (i : Int)] m [lg q d0 r a b e x y w c g, R d0 D] (fun v m' B => v = .tuple #[cv l[i]!, .int .i64 0] ∧ B = [lg q d0 r a b e x y w c g, R d0 D]) := by
  have hb := hm_bd hg
  have hm1 := hm.1
  have hg1 := hg.hg
  have hm2 := hm.2.1
  obtain ⟨u, hu⟩ := ixt_at hi
  have hlx : (pad (ixt l)).length = 512 := pad_len (by rw [ixt_len]; omega)
  have k1 : ∀ m', Ct Try.prog 37 #[ptr d0, .int .i64 (1 + (i : Int) / 120)] m' [R d0 D] (fun v m'' B => v = .tuple #[.string (str (pad (ixt l))), .int .i64 0] ∧ m' = m'' ∧ B = [R d0 D]) := fun m' => by
    have := read (m := m') d0 D 1 (by omega) hd hp (by omega)
    rw [hx] at this
    rwa [show ((1 : Nat) : Int) = 1 + (i : Int) / 120 by omega] at this
  have k2 : ∀ m', Ct Try.prog 37 #[ptr d0, .int .i64 (1 + ixv g + (i : Int))] m' [R d0 D] (fun v m'' B => v = .tuple #[.string (str l[i]!.t), .int .i64 0] ∧ m' = m'' ∧ B = [R d0 D]) := fun m' => by
    have := read (m := m') d0 D ((1 + ixv g).toNat + i) (by omega) hd hp (by omega)
    rw [ht] at this
    rwa [show (((1 + ixv g).toNat + i : Nat) : Int) = 1 + ixv g + (i : Int) by omega] at this
  have k3 := fun (m' : Mem) => Cod.open_ (m := m') ((pad (ixt l)).drop (4 * i))
  have k4 := fun (m' : Mem) (b4 : Nat) => fixedR (m := m') b4 ((pad (ixt l)).drop (4 * i), false) 4 (by dsimp only; rw [List.length_drop]; omega)
  rw [show rF 4 ((pad (ixt l)).drop (4 * i), false) = (l[i]!.s.toNat, (u, false)) by rw [hu]; exact rF4 (by omega) u] at k4
  dsimp only at k4
  rw [Int.toNat_of_nonneg (by omega)] at k4
  have k5 := fun (m' : Mem) (_ : m.le m') => may_ (r := r) (a := a) (b := b) (e := e) (x := x) (y := y) (w := w) (c := c) (g := g) (m := m') q d0 D l[i]!
  rw [decide_eq_true hm] at k5
  have e4 : 4 * i = (4 * ((i : Int) % 120)).toNat := by omega
  rw [e4] at k3 k4
  clear hu hx ht
  dsimp only [lg] at k5 ⊢
  generalize hmv g = H at hm1 hb k5 ⊢
  generalize ixv g = I at k2 hb k5 ⊢
  refine Ct.enterV (by rfl) Try.func43 rfl Try.ntmps43 rfl (fun w0 Rest => ?_)
  (repeat' (first | ((with_reducible apply At.mixed (id := 2) 16 (.q 0 (.q 1 (.q 2 (.q 3 (.q 4 (.q 5 (.q 6 (.q 7 (.q 8 (.q 9 (.x 10 (.q 11 (.q 12 (.q 13 (.q 14 (.q 15 .done))))))))))))))))); exact rfl; kernel_rfl; kernel_rfl; kernel_rfl) | refine zsx ?_ | refine zss ?_ | ((with_reducible apply AtM.bo); exact rfl; exact rfl; exact rfl) | refine zs0 ?_ | refine zx0 ?_ | ((with_reducible first | apply At.c1 | apply At.c0); exact rfl; exact rfl; exact k1 _; exact ztk; kernel_rfl; rintro v' m' B' hm' ⟨rfl, rfl, rfl⟩; skip; (try (have hq0 : hm' = Mem.le_refl _ := rfl; clear hq0 hm'))) | ((with_reducible first | apply At.c1 | apply At.c0); exact rfl; exact rfl; exact k2 _; exact ztk; kernel_rfl; rintro v' m' B' hm' ⟨rfl, rfl, rfl⟩; skip; (try (have hq0 : hm' = Mem.le_refl _ := rfl; clear hq0 hm'))) | ((with_reducible first | apply At.c1 | apply At.c0); exact rfl; exact rfl; exact k3 _; exact ztk; kernel_rfl; rintro v' m' B' hm' ⟨rfl, b4, rfl, rfl⟩; skip; (try (have hq0 : hm' = Mem.le_refl _ := rfl; clear hq0 hm'))) | ((with_reducible first | apply At.c1 | apply At.c0); exact rfl; exact rfl; exact k4 _ b4; exact ztk; kernel_rfl; rintro v' m' B' hm' ⟨rfl, hq4, rfl⟩; skip; (try (have hq0 : hm' = Mem.le_refl _ := rfl; clear hq0 hm'))) | ((with_reducible first | apply AtM1.cr | apply AtQ.cr | apply At.cr); exact rfl; exact rfl; exact fun _ hmm => k5 _ zml; exact ztk; kernel_rfl) | ((with_reducible apply At.alloc (d := 4)); exact rfl; exact rfl; intro b4) | ((with_reducible apply At.alloc (d := 11)); exact rfl; exact rfl; intro b11) | (refine zsp ?_ ?_ <;> (intro hc; (try simp only [zhcs, reduceCtorEq] at hc); (try (exfalso; first | (first | omega | exact absurd rfl hc) | contradiction | omega | exact absurd rfl hc | exact absurd (by decide) hc))))))
  all_goals ((with_reducible apply At.retV (B := [.blk q _ _, R d0 D])); exact rfl; (repeat' (first | exact RVs.nil | (with_reducible apply RVs.cons) | exact rv_tmp (by rfl) | exact rv_cellN (by rfl) (by repeat constructor) (by rfl) (by rfl) (by rfl) | exact rv_cell1 (by rfl) (by repeat constructor) (by rfl) (by rfl))); exact zml; exact zkp; exact ⟨rfl, rfl⟩)
end
end Redo
end Go.Proofs.Ytijgnbedilipdaa
namespace Go.Proofs.Ytijgnbedilipdaa
open Go Go.J
attribute [local irreducible] At AtQ AtM AtM1 PR Ct Pu Rd Res.blk Res.own Res.ex Res.obj RVs RV CW LW YC BK bodyPostM roundPost Dk.R Cod.W
namespace Redo
open Dk Conf
open Cod hiding ptr wr
section
variable {r a b e x y w c g : Int}
structure HS where
  (j : Nat) (p : Option Addr) (d : Nat)
theorem home_ {m : Mem} (d0 h : Nat) (D : Dsk) (hg : Ok r a b e x y w c g) (hs : szv r x y w c g = D.safe.length) (hl : D.safe.length ≤ 1000000) (hd : D.down = false) (hp : D.pend = []) (hh : hmv g = (h : Int)) (hle : h ≤ D.safe.length) :
    Ct Try.prog 13 #[ptr d0, kv r a b e x y w c g] m [R d0 D] (fun v m' B => ∃ p d, v = .tuple #[.slice p (D.safe.drop h).length d, .int .i64 0] ∧ Sl m' Ls.fS 1 p d (D.safe.drop h) ∧ B = [R d0 D]) := by
  have k1 := fun (m' : Mem) => openR (m := m') hg d0 D hs hl
  have k2 := fun (m' : Mem) (_ : m.le m') => len (m := m') d0 D
  have k3 := fun (m' : Mem) (i : Nat) (hi : i < D.safe.length) => read (m := m') d0 D i hi hd hp (by omega)
  have hdl : (D.safe.drop h).length = D.safe.length - h := List.length_drop ..
  dsimp only [lg] at k1
  rw [hh] at k1
  generalize 1 + ixv g = I at k1
  refine Ct.enterV (by rfl) Try.func13 rfl Try.ntmps13 rfl (fun w0 Rest => ?_)
  (repeat' (first | refine zss ?_ | ((first | (with_reducible first | apply At.val | apply AtQ.val)); (exact zprA); exact rfl) | refine zs0 ?_ | ((with_reducible first | apply At.c1 | apply At.c0); exact rfl; exact rfl; exact k1 _; exact ztk; kernel_rfl; rintro v' m' B' hm' ⟨rfl, q, rfl, rfl⟩; (try replace sl3 := sl3.mono hm'); (try replace sl9 := sl9.mono hm'); (try (have hq0 : hm' = Mem.le_refl _ := rfl; clear hq0 hm'))) | ((with_reducible apply At.box (d := 3)); exact rfl; exact rfl; exact rfl; intro b3) | (refine zsp ?_ ?_ <;> (intro hc; (try simp only [zhcs, reduceCtorEq] at hc); (try (exfalso; first | (first | omega | exact absurd rfl hc) | contradiction | omega | exact absurd rfl hc | exact absurd (by decide) hc))))))
  all_goals refine At.own_nil Ls.fS 1 9 ?_
  (refine At.loopk (σ := HS) [6] (fun s F0 => (8, .slice s.p ((D.safe.drop h).take s.j).length s.d) :: (9, .int .i64 ((h : Int) + s.j)) :: F0) (fun s => m) (fun s => .own Ls.fS 1 9 s.p s.d ((D.safe.drop h).take s.j) :: .blk q 72 [ptr d0, gi r, gi a, gi b, gi e, gi x, gi y, gi w, gi c, gi g, gi (h : Int), gi I] :: R d0 D :: Rest) (fun s => s.j ≤ (D.safe.drop h).length) (fun s => (D.safe.drop h).length - s.j) ⟨0, none, 0⟩ (by rfl) ?_ zsubs zml zente ?_)
  · exact Nat.zero_le _
  rintro ⟨j, p, d⟩ hj
  dsimp only at hj ⊢
  have htl : ((D.safe.drop h).take j).length = j := by rw [List.length_take]; omega
  by_cases h0 : j < (D.safe.drop h).length
  · have hget : D.safe[h + j]! = (D.safe.drop h)[j]! := by
      rw [getElem!_pos D.safe (h + j) (by omega), getElem!_pos (D.safe.drop h) j h0, List.getElem_drop]
    have k3' := fun (m' : Mem) => k3 m' (h + j) (by omega)
    rw [hget, Int.natCast_add] at k3'
    have hsn := Ls.take_snoc h0
    (repeat' (first | refine zss ?_ | ((first | (with_reducible first | apply At.val | apply AtQ.val)); (exact zprA); exact rfl) | refine zsO ?_ | ((with_reducible first | apply AtM1.cr | apply AtQ.cr | apply At.cr); exact rfl; exact rfl; exact fun _ hmm => k2 _ zml; exact ztk; kernel_rfl) | ((with_reducible first | apply At.c1 | apply At.c0); exact rfl; exact rfl; exact k3' _; exact ztk; kernel_rfl; rintro v' m' B' hm' ⟨rfl, rfl, rfl⟩; (try replace sl3 := sl3.mono hm'); (try replace sl9 := sl9.mono hm'); (try (have hq0 : hm' = Mem.le_refl _ := rfl; clear hq0 hm'))) | ((with_reducible apply At.litF Ls.fS [(D.safe.drop h)[j]!]); exact inferInstance; (iterate 7 exact rfl); intro b' m' hm' sl9; (try replace sl3 := sl3.mono hm')) | ((with_reducible apply At.apW (f := Ls.fS) (l := (D.safe.drop h).take j)); exact rfl; exact rfl; exact (by repeat constructor); exact inferInstance; exact zrdl; (iterate 4 exact rfl); exact zom; exact rfl; intro p2 d2) | ((with_reducible apply At.box (d := 3)); exact rfl; exact rfl; exact rfl; intro b3) | (refine zsp ?_ ?_ <;> (intro hc; (try simp only [zhcs, reduceCtorEq] at hc); (try (exfalso; first | (first | omega | exact absurd rfl hc) | contradiction | omega | exact absurd rfl hc | exact absurd (by decide) hc))))))
    all_goals rw [← hsn]
    all_goals ((with_reducible refine At.reachk ((⟨j + 1, p2, d2⟩ : HS)) ?_ ?_ ?_ ?_); exact zsubs; exact zml; exact zente; exact ⟨h0, by dsimp only; omega⟩)
  · obtain rfl : j = (D.safe.drop h).length := by omega
    rw [List.take_length]
    (refine At.own_freeze inferInstance (by repeat constructor) fun m' hm' sl3 => ?_; (try replace sl9 := sl9.mono hm'))
    (repeat' (first | refine zss ?_ | ((first | (with_reducible first | apply At.val | apply AtQ.val)); (exact zprA); exact rfl) | refine zs0 ?_ | ((with_reducible first | apply AtM1.cr | apply AtQ.cr | apply At.cr); exact rfl; exact rfl; exact fun _ hmm => k2 _ zml; exact ztk; kernel_rfl) | ((with_reducible apply At.box (d := 3)); exact rfl; exact rfl; exact rfl; intro b3) | (refine zsp ?_ ?_ <;> (intro hc; (try simp only [zhcs, reduceCtorEq] at hc); (try (exfalso; first | (first | omega | exact absurd rfl hc) | contradiction | omega | exact absurd rfl hc | exact absurd (by decide) hc))))))
    all_goals ((with_reducible apply At.retV (B := [R d0 D])); exact rfl; (repeat' (first | exact RVs.nil | (with_reducible apply RVs.cons) | exact rv_tmp (by rfl) | exact rv_cellN (by rfl) (by repeat constructor) (by rfl) (by rfl) (by rfl) | exact rv_cell1 (by rfl) (by repeat constructor) (by rfl) (by rfl) | exact rv_cellA (by rfl) (by repeat constructor) (by rfl) (by rfl) zlq)); exact zml; exact zkp; exact ⟨p, d, rfl, sl3, rfl⟩)
theorem g1 {m : Mem} {x : Gp} (h : Sl m fC 2 x.p x.c x.l ∧ x.l.length ≤ 1000000) : ∀ z ∈ [x], Sl m fC 2 z.p z.c z.l ∧ z.l.length ≤ 1000000 := fun z hz => by rw [List.mem_singleton.1 hz]; exact h
theorem gc {m : Mem} {x : Gp} {G : List Gp} (h : Sl m fC 2 x.p x.c x.l ∧ x.l.length ≤ 1000000) (hG : ∀ z ∈ G, Sl m fC 2 z.p z.c z.l ∧ z.l.length ≤ 1000000) : ∀ z ∈ x :: G, Sl m fC 2 z.p z.c z.l ∧ z.l.length ≤ 1000000 := fun z hz => by
  rcases List.mem_cons.1 hz with rfl | hz
  · exact h
  · exact hG z hz
/-- a commit's steps -/
def cmt (t : Int) (n : Nat) (l : List Chg) : List (List Chg) := [shf t l ++ [⟨1, pad (ixt l)⟩], [pch (n + 1) l.length], l, [pch (n + 1) 0]]
theorem commit0 {m : Mem} (d0 n : Nat) (D : Dsk) (p : Option Addr) (d : Nat) (hg : Ok r a b e x y w c g) (hs : szv r x y w c g = D.safe.length) (hl : D.safe.length ≤ 1000000) (hd : D.down = false) (hp : D.pend = []) (h0 : 0 < D.safe.length)
    (hn : n < 18446744073709551615) (hpt : D.safe[0]! = ptxt n 0) (sl0 : Sl m fC 2 p d []) :
    Ct Try.prog 12 #[ptr d0, kv r a b e x y w c g, .slice p 0 d] m [R d0 D] (fun v m' B => v = .int .i64 0 ∧ B = [R d0 D]) := by
  have k1 := fun (m' : Mem) => openR (m := m') hg d0 D hs hl
  have k2 := fun (m' : Mem) (b7 q : Nat) (hmm : m.le m') => conC (r := r) (a := a) (b := b) (e := e) (x := x) (y := y) (w := w) (c := c) (g := g) (m := m') b7 q d0 D p d [] (sl0.mono hmm) (by decide) (fun z hz => by cases hz)
  have k3 := fun (m' : Mem) => pointerR (m := m') d0 n 0 D (by omega) (by decide) h0 hpt hd hp (by omega)
  have hgb := hg.hg
  refine Ct.enterV (by rfl) Try.func12 rfl Try.ntmps12 rfl (fun w0 Rest => ?_)
  (repeat' (first | refine zss ?_ | ((first | (with_reducible first | apply At.val | apply AtQ.val)); (exact zprA); exact rfl) | refine zs0 ?_ | ((with_reducible first | apply At.c1 | apply At.c0); exact rfl; exact rfl; exact k1 _; exact ztk; kernel_rfl; rintro v' m' B' hm' ⟨rfl, q, rfl, rfl⟩; (try replace sl0 := sl0.mono hm'); (try (have hq0 : hm' = Mem.le_refl _ := rfl; clear hq0 hm'))) | ((with_reducible first | apply At.c1 | apply At.c0); exact rfl; exact rfl; exact k2 _ _ q zml; exact ztk; kernel_rfl; rintro v' m' B' hm' ⟨rfl, rfl, rfl⟩; (try replace sl0 := sl0.mono hm'); (try (have hq0 : hm' = Mem.le_refl _ := rfl; clear hq0 hm'))) | ((with_reducible first | apply At.c1 | apply At.c0); exact rfl; exact rfl; exact k3 _; exact ztk; kernel_rfl; rintro v' m' B' hm' ⟨rfl, rfl⟩; (try replace sl0 := sl0.mono hm'); (try (have hq0 : hm' = Mem.le_refl _ := rfl; clear hq0 hm'))) | ((with_reducible apply At.box (d := 4)); exact rfl; exact rfl; exact rfl; intro b4) | ((with_reducible apply At.alloc (d := 7)); exact rfl; exact rfl; intro b7) | (refine zsp ?_ ?_ <;> (intro hc; (try simp only [zhcs, reduceCtorEq] at hc); (try (exfalso; first | (first | omega | exact absurd rfl hc) | contradiction | omega | exact absurd rfl hc | exact absurd (by decide) hc))))))
  all_goals ((with_reducible apply At.retB1 (B := [R d0 D])); exact rfl; exact rfl; exact zml; exact zkp; exact ⟨rfl, rfl⟩)
theorem commit_ {m : Mem} (d0 n : Nat) (D : Dsk) (p : Option Addr) (d : Nat) (l : List Chg) (hg : Ok r a b e x y w c g) (hs : szv r x y w c g = D.safe.length) (hl : D.safe.length ≤ 1000000) (hd : D.down = false) (hp : D.pend = []) (h0 : 0 < D.safe.length)
    (hn : n < 18446744073709551615) (hpt : D.safe[0]! = ptxt n 0) (sl0 : Sl m fC 2 p d l) (h1 : 1 ≤ l.length) (h2 : l.length ≤ 120) (hlg : (l.length : Int) ≤ g) (hm : ∀ z ∈ l, may g D z) (hf : Fit D 0) :
    Ct Try.prog 12 #[ptr d0, kv r a b e x y w c g, .slice p l.length d] m [R d0 D] (fun v m' B => v = .int .i64 (stepsP D (cmt (1 + ixv g) n l)).2 ∧ B = [R d0 (stepsP D (cmt (1 + ixv g) n l)).1]) := by
  have k1 := fun (m' : Mem) => openR (m := m') hg d0 D hs hl
  have k2 := fun (m' : Mem) (b7 q : Nat) (hmm : m.le m') => conC (r := r) (a := a) (b := b) (e := e) (x := x) (y := y) (w := w) (c := c) (g := g) (m := m') b7 q d0 D p d l (sl0.mono hmm) (by omega) hm
  have k3 := fun (m' : Mem) => pointerR (m := m') d0 n 0 D (by omega) (by decide) h0 hpt hd hp (by omega)
  have k4 := fun (m' : Mem) (q : Nat) (hmm : m.le m') => texts (r := r) (a := a) (b := b) (e := e) (x := x) (y := y) (w := w) (c := c) (g := g) (m := m') q d0 p d l (by omega) hg (sl0.mono hmm)
  have hb := hm_bd hg
  have hgb := hg.hg
  have k5 := fun (m' : Mem) (q : Nat) (hmm : m.le m') => index_ (m := m') q p d l h1 h2 (sl0.mono hmm) (fun z hz => by have := (hm z hz).1; have := (hm z hz).2.1; omega)
  have k6 := pointer (n + 1) l.length (by omega) (by omega)
  have k7 := pointer (n + 1) 0 (by omega) (by decide)
  rw [Int.natCast_succ] at k6 k7
  have hsl := shf_len (1 + ixv g) l
  have k8 := fun (m' : Mem) (q : Nat) (P : Option Addr) (C : Nat) (p3 : Option Addr) (c3 : Nat) (pa : Option Addr) (ca : Nat) (pb : Option Addr) (cb : Nat) (hmm : m.le m') (slA : Sl m' fC 2 pa ca [pch (n + 1) l.length]) (slB : Sl m' fC 2 pb cb [pch (n + 1) 0]) (slG : Sl m' fG 1 P C [⟨p3, c3, shf (1 + ixv g) l ++ [⟨1, pad (ixt l)⟩]⟩, ⟨pa, ca, [pch (n + 1) l.length]⟩, ⟨p, d, l⟩, ⟨pb, cb, [pch (n + 1) 0]⟩]) =>
    stepsO (r := r) (a := a) (b := b) (e := e) (x := x) (y := y) (w := w) (c := c) (g := g) (m := m') q d0 P C ⟨p3, c3, shf (1 + ixv g) l ++ [⟨1, pad (ixt l)⟩]⟩ [⟨pa, ca, [pch (n + 1) l.length]⟩, ⟨p, d, l⟩, ⟨pb, cb, [pch (n + 1) 0]⟩] D slG (by show 3 ≤ 900; decide) (by dsimp only; rw [List.length_append, hsl, List.length_singleton]; omega) (gc ⟨slA, by show 1 ≤ 1000000; decide⟩ (gc ⟨sl0.mono hmm, by dsimp only; omega⟩ (g1 ⟨slB, by show 1 ≤ 1000000; decide⟩))) hf hp
  unfold cmt
  generalize hT : stepsP D [shf (1 + ixv g) l ++ [⟨1, pad (ixt l)⟩], [pch (n + 1) l.length], l, [pch (n + 1) 0]] = T
  simp only [List.map_cons, List.map_nil, hT] at k8
  refine Ct.enterV (by rfl) Try.func12 rfl Try.ntmps12 rfl (fun w0 Rest => ?_)
  (repeat' (first | ((with_reducible apply At.mixed (id := 14) 20 (.q 0 (.q 1 (.q 2 (.q 4 (.q 5 (.q 8 (.q 9 (.q 10 (.q 13 (.q 14 (.l 3 (.l 6 (.l 7 (.q 11 (.q 15 (.b 12 16 (.l 16 (.l 17 (.x 18 (.q 19 .done)))) (.l 12 (.l 17 (.x 18 (.q 19 .done))))))))))))))))))))); exact rfl; kernel_rfl; kernel_rfl; kernel_rfl) | refine zsx ?_ | refine zss ?_ | ((with_reducible apply AtM.bo); exact rfl; exact rfl; exact rfl) | ((first | (with_reducible first | apply At.val | apply AtQ.val) | ((with_reducible first | apply AtM1.valz | apply AtM1.val); exact rfl) | ((with_reducible apply AtM1.val); exact rfl)); (exact zprA); exact rfl) | refine zs0 ?_ | refine zx0 ?_ | ((with_reducible first | apply At.c1 | apply At.c0); exact rfl; exact rfl; exact k1 _; exact ztk; kernel_rfl; rintro v' m' B' hm' ⟨rfl, q, rfl, rfl⟩; (try replace sl0 := sl0.mono hm'); (try replace sl5 := sl5.mono hm'); (try replace sl6 := sl6.mono hm'); (try replace sl7 := sl7.mono hm'); (try (have hq0 : hm' = Mem.le_refl _ := rfl; clear hq0 hm'))) | ((with_reducible first | apply At.c1 | apply At.c0); exact rfl; exact rfl; exact k2 _ _ q zml; exact ztk; kernel_rfl; rintro v' m' B' hm' ⟨rfl, rfl, rfl⟩; (try replace sl0 := sl0.mono hm'); (try replace sl5 := sl5.mono hm'); (try replace sl6 := sl6.mono hm'); (try replace sl7 := sl7.mono hm'); (try (have hq0 : hm' = Mem.le_refl _ := rfl; clear hq0 hm'))) | ((with_reducible first | apply At.c1 | apply At.c0); exact rfl; exact rfl; exact k3 _; exact ztk; kernel_rfl; rintro v' m' B' hm' ⟨rfl, rfl⟩; (try replace sl0 := sl0.mono hm'); (try replace sl5 := sl5.mono hm'); (try replace sl6 := sl6.mono hm'); (try replace sl7 := sl7.mono hm'); (try (have hq0 : hm' = Mem.le_refl _ := rfl; clear hq0 hm'))) | ((with_reducible first | apply At.c1 | apply At.c0); exact rfl; exact rfl; exact k4 _ _ zml; exact ztk; kernel_rfl; rintro v' m' B' hm' ⟨rfl, p2, c2, rfl, rfl⟩; (try replace sl0 := sl0.mono hm'); (try replace sl5 := sl5.mono hm'); (try replace sl6 := sl6.mono hm'); (try replace sl7 := sl7.mono hm'); (try (have hq0 : hm' = Mem.le_refl _ := rfl; clear hq0 hm'))) | ((with_reducible first | apply At.c1 | apply At.c0); exact rfl; exact rfl; exact k5 _ _ zml; exact ztk; kernel_rfl; rintro v' m' B' hm' ⟨p4, c4, rfl, rfl⟩; (try replace sl0 := sl0.mono hm'); (try replace sl5 := sl5.mono hm'); (try replace sl6 := sl6.mono hm'); (try replace sl7 := sl7.mono hm'); (try (have hq0 : hm' = Mem.le_refl _ := rfl; clear hq0 hm'))) | ((with_reducible first | apply AtM1.callp | apply AtQ.callp | apply At.callp); kernel_rfl; exact rfl; exact rfl; exact k6) | ((with_reducible first | apply AtM1.callp | apply AtQ.callp | apply At.callp); kernel_rfl; exact rfl; exact rfl; exact k7) | ((with_reducible apply At.apW (f := fC) (l := shf (1 + ixv g) l)); exact rfl; exact rfl; exact (by repeat constructor); exact inferInstance; exact zrdl; (iterate 4 exact rfl); exact zom; exact rfl; intro p3 c3) | ((with_reducible apply At.litF fC [pch (n + 1) l.length]); exact inferInstance; (iterate 7 exact rfl); intro b' m' hm' sl5; (try replace sl0 := sl0.mono hm'); (try replace sl6 := sl6.mono hm'); (try replace sl7 := sl7.mono hm')) | ((with_reducible apply At.litF fC [pch (n + 1) 0]); exact inferInstance; (iterate 7 exact rfl); intro b' m' hm' sl6; (try replace sl0 := sl0.mono hm'); (try replace sl5 := sl5.mono hm'); (try replace sl7 := sl7.mono hm')) | ((with_reducible apply At.litF fG [⟨p3, c3, shf (1 + ixv g) l ++ [⟨1, pad (ixt l)⟩]⟩, ⟨_, _, [pch (n + 1) l.length]⟩, ⟨p, d, l⟩, ⟨_, _, [pch (n + 1) 0]⟩]); exact inferInstance; (iterate 7 exact rfl); intro b' m' hm' sl7; (try replace sl0 := sl0.mono hm'); (try replace sl5 := sl5.mono hm'); (try replace sl6 := sl6.mono hm')) | ((with_reducible first | apply At.c1 | apply At.c0); exact rfl; exact rfl; exact k8 _ _ _ _ _ _ _ _ _ _ zml sl5 sl6 sl7; exact ztk; kernel_rfl; rintro v' m' B' hm' ⟨rfl, rfl⟩; (try replace sl0 := sl0.mono hm'); (try replace sl5 := sl5.mono hm'); (try replace sl6 := sl6.mono hm'); (try replace sl7 := sl7.mono hm'); (try (have hq0 : hm' = Mem.le_refl _ := rfl; clear hq0 hm'))) | ((with_reducible apply At.box (d := 4)); exact rfl; exact rfl; exact rfl; intro b4) | ((with_reducible apply At.alloc (d := 7)); exact rfl; exact rfl; intro b7) | (refine zsp ?_ ?_ <;> (intro hc; (try simp only [zhcs, reduceCtorEq] at hc); (try (exfalso; first | (first | omega | exact absurd rfl hc) | contradiction | omega | exact absurd rfl hc | exact absurd (by decide) hc))))))
  all_goals trace_state
  all_goals ((with_reducible apply At.retB1 (B := [R d0 _])); exact rfl; exact rfl; exact zml; exact zkp; exact ⟨rfl, rfl⟩)
end
end Redo
end Go.Proofs.Ytijgnbedilipdaa
namespace Go.Proofs.Ytijgnbedilipdaa
open Go Go.J
attribute [local irreducible] At AtQ AtM AtM1 PR Ct Pu Rd Res.blk Res.own Res.ex Res.obj RVs RV CW LW YC BK bodyPostM roundPost Dk.R Cod.W
namespace Redo
open Dk Conf
open Cod hiding ptr wr
section
variable {r a b e x y w c g : Int}
theorem recover0 {m : Mem} (d0 n : Nat) (D : Dsk) (hg : Ok r a b e x y w c g) (hs : szv r x y w c g = D.safe.length) (hl : D.safe.length ≤ 1000000) (hd : D.down = false) (hp : D.pend = []) (h0 : 0 < D.safe.length)
    (hn : n < 18446744073709551616) (hpt : D.safe[0]! = ptxt n 0) :
    Ct Try.prog 18 #[ptr d0, kv r a b e x y w c g] m [R d0 D] (fun v m' B => v = .tuple #[.int .i64 0, .int .i64 0] ∧ B = [R d0 D]) := by
  have k1 := fun (m' : Mem) => openR (m := m') hg d0 D hs hl
  have k3 := fun (m' : Mem) => pointerR (m := m') d0 n 0 D hn (by decide) h0 hpt hd hp (by omega)
  refine Ct.enterV (by rfl) Try.func18 rfl Try.ntmps18 rfl (fun w0 Rest => ?_)
  (repeat' (first | refine zss ?_ | ((first | (with_reducible first | apply At.val | apply AtQ.val)); (exact zprA); exact rfl) | refine zs0 ?_ | ((with_reducible first | apply At.c1 | apply At.c0); exact rfl; exact rfl; exact k1 _; exact ztk; kernel_rfl; rintro v' m' B' hm' ⟨rfl, q, rfl, rfl⟩; skip; (try (have hq0 : hm' = Mem.le_refl _ := rfl; clear hq0 hm'))) | ((with_reducible first | apply At.c1 | apply At.c0); exact rfl; exact rfl; exact k3 _; exact ztk; kernel_rfl; rintro v' m' B' hm' ⟨rfl, rfl⟩; skip; (try (have hq0 : hm' = Mem.le_refl _ := rfl; clear hq0 hm'))) | ((with_reducible apply At.box (d := 3)); exact rfl; exact rfl; exact rfl; intro b3) | ((with_reducible apply At.alloc (d := 12)); exact rfl; exact rfl; intro b12) | (refine zsp ?_ ?_ <;> (intro hc; (try simp only [zhcs, reduceCtorEq] at hc); (try (exfalso; first | (first | omega | exact absurd rfl hc) | contradiction | omega | exact absurd rfl hc | exact absurd (by decide) hc))))))
  all_goals ((with_reducible apply At.retV (B := [R d0 D])); exact rfl; (repeat' (first | exact RVs.nil | (with_reducible apply RVs.cons) | exact rv_tmp (by rfl) | exact rv_cellN (by rfl) (by repeat constructor) (by rfl) (by rfl) (by rfl) | exact rv_cell1 (by rfl) (by repeat constructor) (by rfl) (by rfl) | exact rv_cellA (by rfl) (by repeat constructor) (by rfl) (by rfl) zlq)); exact zml; exact zkp; exact ⟨rfl, rfl⟩)
structure LS where
  (j : Nat) (p : Option Addr) (d : Nat)
theorem recoverF {m : Mem} (d0 n : Nat) (D : Dsk) (l : List Chg) (hg : Ok r a b e x y w c g) (hs : szv r x y w c g = D.safe.length) (hl : D.safe.length ≤ 1000000) (hd : D.down = false) (hp : D.pend = []) (h0 : 0 < D.safe.length)
    (hn : n < 18446744073709551616) (h1 : 1 ≤ l.length) (h2 : l.length ≤ 120) (hlg : (l.length : Int) ≤ g) (hm : ∀ z ∈ l, may g D z) (hpt : D.safe[0]! = ptxt n l.length) (hix : D.safe[1]! = pad (ixt l)) (hlog : ∀ i, i < l.length → D.safe[(1 + ixv g).toNat + i]! = l[i]!.t) (hlen : (1 + ixv g).toNat + l.length ≤ D.safe.length) (hf : Fit D 0) :
    Ct Try.prog 18 #[ptr d0, kv r a b e x y w c g] m [R d0 D] (fun v m' B => ∃ k : Int, v = .tuple #[.int .i64 k, .int .i64 (stepsP D [l, [pch n 0]]).2] ∧ B = [R d0 (stepsP D [l, [pch n 0]]).1]) := by
  have k1 := fun (m' : Mem) => openR (m := m') hg d0 D hs hl
  have k3 := fun (m' : Mem) => pointerR (m := m') d0 n l.length D hn (by omega) h0 hpt hd hp (by omega)
  have k4 := fun (m' : Mem) (q i : Nat) (hi : i < l.length) => one_ (r := r) (a := a) (b := b) (e := e) (x := x) (y := y) (w := w) (c := c) (g := g) (m := m') q d0 D l i hg hi h2 (hm _ (Ls.mem! hi)) hd hp hl hix (hlog i hi) hlen
  have k7 := pointer n 0 (by omega) (by decide)
  have hgb := hg.hg
  have k8 := fun (m' : Mem) (q : Nat) (P : Option Addr) (C : Nat) (p3 : Option Addr) (c3 : Nat) (pb : Option Addr) (cb : Nat) (slB : Sl m' fC 2 pb cb [pch n 0]) (slG : Sl m' fG 1 P C [⟨p3, c3, l⟩, ⟨pb, cb, [pch n 0]⟩]) =>
    stepsO (r := r) (a := a) (b := b) (e := e) (x := x) (y := y) (w := w) (c := c) (g := g) (m := m') q d0 P C ⟨p3, c3, l⟩ [⟨pb, cb, [pch n 0]⟩] D slG (by show 1 ≤ 900; decide) (by dsimp only; omega) (g1 ⟨slB, by show 1 ≤ 1000000; decide⟩) hf hp
  generalize hT : stepsP D [l, [pch n 0]] = T
  simp only [List.map_cons, List.map_nil, hT] at k8
  refine Ct.enterV (by rfl) Try.func18 rfl Try.ntmps18 rfl (fun w0 Rest => ?_)
  (repeat' (first | refine zss ?_ | ((first | (with_reducible first | apply At.val | apply AtQ.val)); (exact zprA); exact rfl) | refine zs0 ?_ | ((with_reducible first | apply At.c1 | apply At.c0); exact rfl; exact rfl; exact k1 _; exact ztk; kernel_rfl; rintro v' m' B' hm' ⟨rfl, q, rfl, rfl⟩; (try replace sl6 := sl6.mono hm'); (try replace sl7 := sl7.mono hm'); (try replace sl9 := sl9.mono hm'); (try (have hq0 : hm' = Mem.le_refl _ := rfl; clear hq0 hm'))) | ((with_reducible first | apply At.c1 | apply At.c0); exact rfl; exact rfl; exact k3 _; exact ztk; kernel_rfl; rintro v' m' B' hm' ⟨rfl, rfl⟩; (try replace sl6 := sl6.mono hm'); (try replace sl7 := sl7.mono hm'); (try replace sl9 := sl9.mono hm'); (try (have hq0 : hm' = Mem.le_refl _ := rfl; clear hq0 hm'))) | ((with_reducible apply At.box (d := 3)); exact rfl; exact rfl; exact rfl; intro b3) | ((with_reducible apply At.alloc (d := 12)); exact rfl; exact rfl; intro b12) | (refine zsp ?_ ?_ <;> (intro hc; (try simp only [zhcs, reduceCtorEq] at hc); (try (exfalso; first | (first | omega | exact absurd rfl hc) | contradiction | omega | exact absurd rfl hc | exact absurd (by decide) hc))))))
  all_goals refine At.own_nil fC 2 60 ?_
  (refine At.loopk (σ := LS) [6, 8, 9, 42] (fun s F0 => (10, .slice s.p (l.take s.j).length s.d) :: (43, .int .i64 (s.j : Int)) :: F0) (fun s => m) (fun s => .own fC 2 60 s.p s.d (l.take s.j) :: lg q d0 r a b e x y w c g :: R d0 D :: Rest) (fun s => s.j ≤ l.length) (fun s => l.length - s.j) ⟨0, none, 0⟩ (by rfl) ?_ zsubs zml zente ?_)
  · exact Nat.zero_le _
  rintro ⟨j, p, d⟩ hj
  dsimp only at hj ⊢
  by_cases h : j < l.length
  · have k4' := fun (m' : Mem) (q : Nat) => k4 m' q j h
    have htl : (l.take j).length = j := by rw [List.length_take]; omega
    have hsn := Ls.take_snoc h
    (repeat' (first | refine zss ?_ | ((first | (with_reducible first | apply At.val | apply AtQ.val)); (exact zprA); exact rfl) | refine zsO ?_ | ((with_reducible first | apply At.c1 | apply At.c0); exact rfl; exact rfl; exact k4' _ _; exact ztk; kernel_rfl; rintro v' m' B' hm' ⟨rfl, rfl⟩; (try replace sl6 := sl6.mono hm'); (try replace sl7 := sl7.mono hm'); (try replace sl9 := sl9.mono hm'); (try (have hq0 : hm' = Mem.le_refl _ := rfl; clear hq0 hm'))) | ((with_reducible apply At.litF fC [l[j]!]); exact inferInstance; (iterate 7 exact rfl); intro b' m' hm' sl9; (try replace sl6 := sl6.mono hm'); (try replace sl7 := sl7.mono hm')) | ((with_reducible apply At.apW (f := fC) (l := l.take j)); exact rfl; exact rfl; exact (by repeat constructor); exact inferInstance; exact zrdl; (iterate 4 exact rfl); exact zom; exact rfl; intro p2 d2) | ((with_reducible apply At.box (d := 3)); exact rfl; exact rfl; exact rfl; intro b3) | ((with_reducible apply At.alloc (d := 12)); exact rfl; exact rfl; intro b12) | (refine zsp ?_ ?_ <;> (intro hc; (try simp only [zhcs, reduceCtorEq] at hc); (try (exfalso; first | (first | omega | exact absurd rfl hc) | contradiction | omega | exact absurd rfl hc | exact absurd (by decide) hc))))))
    all_goals rw [← hsn]
    all_goals ((with_reducible refine At.reachk ((⟨j + 1, p2, d2⟩ : LS)) ?_ ?_ ?_ ?_); exact zsubs; exact zml; exact zente; exact ⟨h, by dsimp only; omega⟩)
  · obtain rfl : j = l.length := by omega
    rw [List.take_length]
    by_cases hw : T.2 = 0
    · rw [hw] at k8 ⊢
      (repeat' (first | refine zss ?_ | ((first | (with_reducible first | apply At.val | apply AtQ.val)); (exact zprA); exact rfl) | refine zs0 ?_ | ((with_reducible first | apply AtM1.callp | apply AtQ.callp | apply At.callp); kernel_rfl; exact rfl; exact rfl; exact k7) | ((with_reducible apply At.litF fC [pch n 0]); exact inferInstance; (iterate 7 exact rfl); intro b' m' hm' sl6; (try replace sl7 := sl7.mono hm'); (try replace sl9 := sl9.mono hm')) | ((with_reducible apply At.litF fG [⟨p, d, l⟩, ⟨_, _, [pch n 0]⟩]); exact inferInstance; (iterate 7 exact rfl); intro b' m' hm' sl7; (try replace sl6 := sl6.mono hm'); (try replace sl9 := sl9.mono hm')) | ((with_reducible first | apply At.c1 | apply At.c0); exact rfl; exact rfl; exact k8 _ _ _ _ _ _ _ _ sl6 sl7; exact ztk; kernel_rfl; rintro v' m' B' hm' ⟨rfl, rfl⟩; (try replace sl6 := sl6.mono hm'); (try replace sl7 := sl7.mono hm'); (try replace sl9 := sl9.mono hm'); (try (have hq0 : hm' = Mem.le_refl _ := rfl; clear hq0 hm'))) | ((with_reducible apply At.box (d := 3)); exact rfl; exact rfl; exact rfl; intro b3) | ((with_reducible apply At.alloc (d := 12)); exact rfl; exact rfl; intro b12) | (refine zsp ?_ ?_ <;> (intro hc; (try simp only [zhcs, reduceCtorEq] at hc); (try (exfalso; first | (first | omega | exact absurd rfl hc) | contradiction | omega | exact absurd rfl hc | exact absurd (by decide) hc))))))
      all_goals ((with_reducible apply At.retV (B := [R d0 _])); exact rfl; (repeat' (first | exact RVs.nil | (with_reducible apply RVs.cons) | exact rv_tmp (by rfl) | exact rv_cellN (by rfl) (by repeat constructor) (by rfl) (by rfl) (by rfl) | exact rv_cell1 (by rfl) (by repeat constructor) (by rfl) (by rfl) | exact rv_cellA (by rfl) (by repeat constructor) (by rfl) (by rfl) zlq)); exact zml; exact zkp; exact ⟨_, rfl, rfl⟩)
    · generalize hw2 : T.2 = w2 at hw k8 ⊢
      (repeat' (first | refine zss ?_ | ((first | (with_reducible first | apply At.val | apply AtQ.val)); (exact zprA); exact rfl) | refine zs0 ?_ | ((with_reducible first | apply AtM1.callp | apply AtQ.callp | apply At.callp); kernel_rfl; exact rfl; exact rfl; exact k7) | ((with_reducible apply At.litF fC [pch n 0]); exact inferInstance; (iterate 7 exact rfl); intro b' m' hm' sl6; (try replace sl7 := sl7.mono hm'); (try replace sl9 := sl9.mono hm')) | ((with_reducible apply At.litF fG [⟨p, d, l⟩, ⟨_, _, [pch n 0]⟩]); exact inferInstance; (iterate 7 exact rfl); intro b' m' hm' sl7; (try replace sl6 := sl6.mono hm'); (try replace sl9 := sl9.mono hm')) | ((with_reducible first | apply At.c1 | apply At.c0); exact rfl; exact rfl; exact k8 _ _ _ _ _ _ _ _ sl6 sl7; exact ztk; kernel_rfl; rintro v' m' B' hm' ⟨rfl, rfl⟩; (try replace sl6 := sl6.mono hm'); (try replace sl7 := sl7.mono hm'); (try replace sl9 := sl9.mono hm'); (try (have hq0 : hm' = Mem.le_refl _ := rfl; clear hq0 hm'))) | ((with_reducible apply At.box (d := 3)); exact rfl; exact rfl; exact rfl; intro b3) | ((with_reducible apply At.alloc (d := 12)); exact rfl; exact rfl; intro b12) | (refine zsp ?_ ?_ <;> (intro hc; (try simp only [zhcs, reduceCtorEq] at hc); (try (exfalso; first | (first | omega | exact absurd rfl hc | exact absurd hc hw) | contradiction | omega | exact absurd rfl hc | exact absurd (by decide) hc))))))
      all_goals ((with_reducible apply At.retV (B := [R d0 _])); exact rfl; (repeat' (first | exact RVs.nil | (with_reducible apply RVs.cons) | exact rv_tmp (by rfl) | exact rv_cellN (by rfl) (by repeat constructor) (by rfl) (by rfl) (by rfl) | exact rv_cell1 (by rfl) (by repeat constructor) (by rfl) (by rfl) | exact rv_cellA (by rfl) (by repeat constructor) (by rfl) (by rfl) zlq)); exact zml; exact zkp; exact ⟨_, rfl, rfl⟩)
/-- home's sectors as changes -/
def fch (h : Int) (H : List (List UInt8)) : List Chg := H.mapIdx fun i t => ⟨h + i, t⟩
theorem fch_len (h : Int) (H : List (List UInt8)) : (fch h H).length = H.length := by unfold fch; simp
theorem fch_get (h : Int) (H : List (List UInt8)) {i : Nat} (hi : i < H.length) : (fch h H)[i]! = ⟨h + i, H[i]!⟩ := by
  rw [getElem!_pos _ i (by rw [fch_len]; exact hi), getElem!_pos _ i hi]
  unfold fch
  simp
def fmt (h : Int) (H : List (List UInt8)) : List (List Chg) := [(fch h H).drop 1, [pch 1 0, (fch h H)[0]!]]
theorem format_ {m : Mem} (d0 : Nat) (D : Dsk) (p : Option Addr) (d : Nat) (H : List (List UInt8)) (hg : Ok r a b e x y w c g) (hs : szv r x y w c g = D.safe.length) (hl : D.safe.length ≤ 1000000) (hp : D.pend = []) (hf : Fit D 0)
    (hH : (H.length : Int) = D.safe.length - hmv g) (h1 : 1 ≤ H.length) (h5 : ∀ t ∈ H, t.length = 512) (sl0 : Sl m Ls.fS 1 p d H) :
    Ct Try.prog 10 #[ptr d0, kv r a b e x y w c g, .slice p H.length d] m [R d0 D] (fun v m' B => v = .int .i64 (stepsP D (fmt (hmv g) H)).2 ∧ B = [R d0 (stepsP D (fmt (hmv g) H)).1]) := by
  have k1 := fun (m' : Mem) => openR (m := m') hg d0 D hs hl
  have k2 := fun (m' : Mem) (_ : m.le m') => len (m := m') d0 D
  have hb := hm_bd hg
  have hgb := hg.hg
  have k3 := fun (m' : Mem) (hmm : m.le m') => conS (m := m') p d H (sl0.mono hmm) (by omega) h5
  have k7 := pointer 1 0 (by decide) (by decide)
  have hcl := fch_len (hmv g) H
  have k8 := fun (m' : Mem) (q : Nat) (P : Option Addr) (C : Nat) (pa : Option Addr) (ca : Nat) (pb : Option Addr) (cb : Nat) (slA : Sl m' fC 2 pa ca ((fch (hmv g) H).drop 1)) (slB : Sl m' fC 2 pb cb [pch 1 0, (fch (hmv g) H)[0]!]) (slG : Sl m' fG 1 P C [⟨pa, ca, (fch (hmv g) H).drop 1⟩, ⟨pb, cb, [pch 1 0, (fch (hmv g) H)[0]!]⟩]) =>
    steps_ (r := r) (a := a) (b := b) (e := e) (x := x) (y := y) (w := w) (c := c) (g := g) (m := m') q d0 P C [⟨pa, ca, (fch (hmv g) H).drop 1⟩, ⟨pb, cb, [pch 1 0, (fch (hmv g) H)[0]!]⟩] D slG (by show 2 ≤ 1000; decide) (gc ⟨slA, by dsimp only; rw [List.length_drop]; omega⟩ (g1 ⟨slB, by show 2 ≤ 1000000; decide⟩)) hf hp
  unfold fmt
  generalize hT : stepsP D [(fch (hmv g) H).drop 1, [pch 1 0, (fch (hmv g) H)[0]!]] = T
  simp only [List.map_cons, List.map_nil, hT] at k8
  dsimp only [lg] at k1 k8
  have hget := fun i (hi : i < H.length) => fch_get (hmv g) H hi
  generalize hmv g = h at hb hcl hH k1 k8 hget ⊢
  generalize 1 + ixv g = I at k1 k8
  generalize hF : fch h H = L at hcl k8 hget
  clear hT hF
  refine Ct.enterV (by rfl) Try.func10 rfl Try.ntmps10 rfl (fun w0 Rest => ?_)
  (repeat' (first | ((with_reducible apply At.mixed (id := 12) 11 (.q 0 (.q 1 (.q 2 (.q 3 (.q 4 (.q 5 (.q 6 (.l 7 (.x 8 (.x 9 (.q 10 .done)))))))))))); exact rfl; kernel_rfl; kernel_rfl; kernel_rfl) | refine zsx ?_ | refine zss ?_ | ((with_reducible apply AtM.bo); exact rfl; exact rfl; exact rfl) | ((first | (with_reducible first | apply At.val | apply AtQ.val) | ((with_reducible first | apply AtM1.valz | apply AtM1.val); exact rfl) | ((with_reducible apply AtM1.val); exact rfl)); (exact zprA); exact rfl) | refine zs0 ?_ | refine zx0 ?_ | ((with_reducible first | apply At.c1 | apply At.c0); exact rfl; exact rfl; exact k1 _; exact ztk; kernel_rfl; rintro v' m' B' hm' ⟨rfl, q, rfl, rfl⟩; (try replace sl0 := sl0.mono hm'); (try replace sl3 := sl3.mono hm'); (try replace sl6 := sl6.mono hm'); (try replace sl7 := sl7.mono hm'); (try replace sl9 := sl9.mono hm'); (try (have hq0 : hm' = Mem.le_refl _ := rfl; clear hq0 hm'))) | ((with_reducible first | apply AtM1.cr | apply AtQ.cr | apply At.cr); exact rfl; exact rfl; exact fun _ hmm => k2 _ zml; exact ztk; kernel_rfl) | ((with_reducible first | apply AtM1.cr | apply AtQ.cr | apply At.cr); exact rfl; exact rfl; exact fun _ hmm => k3 _ zml; exact ztk; kernel_rfl) | ((with_reducible apply At.box (d := 4)); exact rfl; exact rfl; exact rfl; intro b4) | (refine zsp ?_ ?_ <;> (intro hc; (try simp only [zhcs, reduceCtorEq] at hc); (try (exfalso; first | (first | omega | exact absurd rfl hc) | contradiction | omega | exact absurd rfl hc | exact absurd (by decide) hc))))))
  all_goals refine At.own_nil fC 2 60 ?_
  (refine At.loopk (σ := LS) [7, 38, 39] (fun s F0 => (9, .slice s.p (L.take s.j).length s.d) :: (40, .int .i64 (s.j : Int)) :: F0) (fun s => m) (fun s => .own fC 2 60 s.p s.d (L.take s.j) :: .blk q 72 [ptr d0, gi r, gi a, gi b, gi e, gi x, gi y, gi w, gi c, gi g, gi h, gi I] :: R d0 D :: Rest) (fun s => s.j ≤ H.length) (fun s => H.length - s.j) ⟨0, none, 0⟩ (by rfl) ?_ zsubs zml zente ?_)
  · exact Nat.zero_le _
  rintro ⟨j, pj, dj⟩ hj
  dsimp only at hj ⊢
  by_cases h0 : j < H.length
  · have htl : (L.take j).length = j := by rw [List.length_take]; omega
    have hsn := Ls.take_snoc (l := L) (i := j) (by omega)
    have hgj := hget j h0
    clear hget
    (repeat' (first | refine zss ?_ | ((first | (with_reducible first | apply At.val | apply AtQ.val)); (exact zprA); exact rfl) | refine zsM ?_ | ((with_reducible apply At.box (d := 4)); exact rfl; exact rfl; exact rfl; intro b4) | (refine zsp ?_ ?_ <;> (intro hc; (try simp only [zhcs, reduceCtorEq] at hc); (try (exfalso; first | (first | omega | exact absurd rfl hc) | contradiction | omega | exact absurd rfl hc | exact absurd (by decide) hc))))))
    all_goals clear sl0
    (repeat' (first | refine zss ?_ | ((first | (with_reducible first | apply At.val | apply AtQ.val)); (exact zprA); exact rfl) | refine zs0 ?_ | ((with_reducible apply At.litF fC [(⟨h + j, H[j]!⟩ : Chg)]); exact inferInstance; (iterate 7 exact rfl); intro b' m' hm' sl9; (try replace sl0 := sl0.mono hm'); (try replace sl3 := sl3.mono hm'); (try replace sl6 := sl6.mono hm'); (try replace sl7 := sl7.mono hm')) | ((with_reducible apply At.apW (f := fC) (l := L.take j)); exact rfl; exact rfl; exact (by repeat constructor); exact inferInstance; exact zrdl; (iterate 4 exact rfl); exact zom; exact rfl; intro p2 d2) | ((with_reducible apply At.box (d := 4)); exact rfl; exact rfl; exact rfl; intro b4) | (refine zsp ?_ ?_ <;> (intro hc; (try simp only [zhcs, reduceCtorEq] at hc); (try (exfalso; first | (first | omega | exact absurd rfl hc) | contradiction | omega | exact absurd rfl hc | exact absurd (by decide) hc))))))
    all_goals rw [← hgj, ← hsn]
    all_goals ((with_reducible refine At.reachk ((⟨j + 1, p2, d2⟩ : LS)) ?_ ?_ ?_ ?_); exact zsubs; exact zml; exact zente; exact ⟨h0, by dsimp only; omega⟩)
  · obtain rfl : j = H.length := by omega
    rw [show L.take H.length = L by rw [← hcl, List.take_length]]
    clear sl0 hget
    (refine At.own_freeze inferInstance (by repeat constructor) fun m' hm' sl3 => ?_; (try replace sl0 := sl0.mono hm'); (try replace sl6 := sl6.mono hm'); (try replace sl7 := sl7.mono hm'); (try replace sl9 := sl9.mono hm'))
    have hle := sl3.le
    (repeat' (first | ((with_reducible apply At.mixed (id := 12) 11 (.q 0 (.q 1 (.q 2 (.q 3 (.q 4 (.q 5 (.q 6 (.l 7 (.x 8 (.x 9 (.q 10 .done)))))))))))); exact rfl; kernel_rfl; kernel_rfl; kernel_rfl) | refine zsx ?_ | refine zss ?_ | ((with_reducible apply AtM.bo); exact rfl; exact rfl; exact rfl) | ((first | (with_reducible first | apply At.val | apply AtQ.val) | ((with_reducible first | apply AtM1.valz | apply AtM1.val); exact rfl) | ((with_reducible apply AtM1.val); exact rfl)); (exact zprA); exact rfl) | refine zsM ?_ | refine zxM ?_ | ((with_reducible first | apply AtM1.callp | apply AtQ.callp | apply At.callp); kernel_rfl; exact rfl; exact rfl; exact k7) | ((with_reducible apply At.box (d := 4)); exact rfl; exact rfl; exact rfl; intro b4) | (refine zsp ?_ ?_ <;> (intro hc; (try simp only [zhcs, reduceCtorEq] at hc); (try (exfalso; first | (first | omega | exact absurd rfl hc) | contradiction | omega | exact absurd rfl hc | exact absurd (by decide) hc))))))
    all_goals rw [show L.length - 1 = (L.drop 1).length from (List.length_drop ..).symm]
    (repeat' (first | ((with_reducible apply At.mixed (id := 12) 11 (.q 0 (.q 1 (.q 2 (.q 3 (.q 4 (.q 5 (.q 6 (.l 7 (.x 8 (.x 9 (.q 10 .done)))))))))))); exact rfl; kernel_rfl; kernel_rfl; kernel_rfl) | refine zsx ?_ | refine zss ?_ | ((with_reducible apply AtM.bo); exact rfl; exact rfl; exact rfl) | ((first | (with_reducible first | apply At.val | apply AtQ.val) | ((with_reducible first | apply AtM1.valz | apply AtM1.val); exact rfl) | ((with_reducible apply AtM1.val); exact rfl)); (exact zprA); exact rfl) | refine zs0 ?_ | refine zx0 ?_ | ((with_reducible apply At.litF fC [pch 1 0, L[0]!]); exact inferInstance; (iterate 7 exact rfl); intro b' m' hm' sl6; (try replace sl0 := sl0.mono hm'); (try replace sl3 := sl3.mono hm'); (try replace sl7 := sl7.mono hm'); (try replace sl9 := sl9.mono hm')) | ((with_reducible apply At.litF fG [⟨_, _, L.drop 1⟩, ⟨_, _, [pch 1 0, L[0]!]⟩]); exact inferInstance; (iterate 7 exact rfl); intro b' m' hm' sl7; (try replace sl0 := sl0.mono hm'); (try replace sl3 := sl3.mono hm'); (try replace sl6 := sl6.mono hm'); (try replace sl9 := sl9.mono hm')) | ((with_reducible first | apply At.c1 | apply At.c0); exact rfl; exact rfl; exact k8 _ _ _ _ _ _ _ _ (sl3.subl 1 (by omega)) sl6 sl7; exact ztk; kernel_rfl; rintro v' m' B' hm' ⟨rfl, rfl⟩; (try replace sl0 := sl0.mono hm'); (try replace sl3 := sl3.mono hm'); (try replace sl6 := sl6.mono hm'); (try replace sl7 := sl7.mono hm'); (try replace sl9 := sl9.mono hm'); (try (have hq0 : hm' = Mem.le_refl _ := rfl; clear hq0 hm'))) | ((with_reducible apply At.box (d := 4)); exact rfl; exact rfl; exact rfl; intro b4) | (refine zsp ?_ ?_ <;> (intro hc; (try simp only [zhcs, reduceCtorEq] at hc); (try (exfalso; first | (first | omega | exact absurd rfl hc) | contradiction | omega | exact absurd rfl hc | exact absurd (by decide) hc))))))
    all_goals ((with_reducible apply At.retB1 (B := [R d0 _])); exact rfl; exact rfl; exact zml; exact zkp; exact ⟨rfl, rfl⟩)
end
end Redo
end Go.Proofs.Ytijgnbedilipdaa
namespace Go.Proofs.Ytijgnbedilipdaa
open Go Go.J
namespace Td
open Dk Redo
/-- sectors that are put one behind the other -/
def pa (S : List (List UInt8)) (l : List Chg) : List (List UInt8) := l.foldl Dk.put S
theorem pa_append (S : List (List UInt8)) (l k : List Chg) : pa S (l ++ k) = pa (pa S l) k := List.foldl_append ..
theorem pa_one (S : List (List UInt8)) (x : Chg) : pa S [x] = Dk.put S x := rfl
theorem pa_len : ∀ (l : List Chg) (S : List (List UInt8)), (pa S l).length = S.length
  | [], _ => rfl
  | z :: l, S => by show (pa (Dk.put S z) l).length = _; rw [pa_len l, Dk.put_len]
theorem kpS_all (S : List (List UInt8)) (l : List Chg) : ∀ n, n ≤ l.length → kpS S l (fun _ => true) n = pa S (l.take n)
  | 0, _ => by rw [List.take_zero]; rfl
  | n + 1, h => by
    unfold kpS
    rw [if_pos rfl, kpS_all S l n (by omega), Ls.take_snoc (by omega), pa_append, pa_one]
theorem put_get (S : List (List UInt8)) (x : Chg) (i : Nat) (hi : i < S.length) : (Dk.put S x)[i]! = if x.s.toNat = i then x.t else S[i]! := by
  unfold Dk.put
  rw [getElem!_pos _ i (by rw [List.length_set]; exact hi), List.getElem_set]
  split
  · rfl
  · rw [getElem!_pos _ i hi]
theorem pa_out : ∀ (l : List Chg) (S : List (List UInt8)) (i : Nat), i < S.length → (∀ z ∈ l, z.s.toNat ≠ i) → (pa S l)[i]! = S[i]!
  | [], _, _, _, _ => rfl
  | z :: l, S, i, hi, h => by
    show (pa (Dk.put S z) l)[i]! = _
    rw [pa_out l _ i (by rw [Dk.put_len]; exact hi) (fun y hy => h y (List.mem_cons_of_mem _ hy)), put_get _ _ _ hi, if_neg (h z List.mem_cons_self)]
theorem kpS_out (S : List (List UInt8)) (l : List Chg) (q : Nat → Bool) (i : Nat) (hi : i < S.length) : ∀ n, (∀ j, j < n → l[j]!.s.toNat ≠ i) → (kpS S l q n)[i]! = S[i]!
  | 0, _ => rfl
  | n + 1, h => by
    unfold kpS
    split
    · rw [put_get _ _ _ (by rw [kpS_len]; exact hi), if_neg (h n (Nat.lt_succ_self n)), kpS_out S l q i hi n (fun j hj => h j (by omega))]
    · exact kpS_out S l q i hi n (fun j hj => h j (by omega))
/-- what is put over two disks that differ only where it is put is one -/
theorem pa_same : ∀ (l : List Chg) (S S' : List (List UInt8)), S.length = S'.length → (∀ i, i < S.length → (∀ z ∈ l, z.s.toNat ≠ i) → S[i]! = S'[i]!) → pa S l = pa S' l
  | [], S, S', hl, h => Ls.ext! hl fun i hi => h i hi (fun z hz => by cases hz)
  | z :: l, S, S', hl, h => by
    show pa (Dk.put S z) l = pa (Dk.put S' z) l
    refine pa_same l _ _ (by rw [Dk.put_len, Dk.put_len, hl]) fun i hi hn => ?_
    rw [Dk.put_len] at hi
    rw [put_get _ _ _ hi, put_get _ _ _ (by omega)]
    split
    · rfl
    · rename_i h0
      exact h i hi fun y hy => by
        rcases List.mem_cons.1 hy with rfl | hy
        · exact h0
        · exact hn y hy
/-- some of the writes, in a group that is cut off -/
theorem sub_same (S : List (List UInt8)) (l : List Chg) (q : Nat → Bool) (k : Nat) (hk : k ≤ l.length) : pa (kpS S (l.take k) q (l.take k).length) l = pa S l := by
  refine pa_same l _ _ (kpS_len ..) fun i hi hn => ?_
  rw [kpS_len] at hi
  refine kpS_out S _ q i hi _ fun j hj => ?_
  have := Ls.mem! hj
  exact hn _ (List.mem_of_mem_take this)
theorem pa_at (S : List (List UInt8)) (l : List Chg) (j : Nat) (hj : j < l.length) (hi : l[j]!.s.toNat < S.length) (h : ∀ k, j < k → k < l.length → l[k]!.s.toNat ≠ l[j]!.s.toNat) : (pa S l)[l[j]!.s.toNat]! = l[j]!.t := by
  have e : l = l.take j ++ ([l[j]!] ++ l.drop (j + 1)) := by rw [List.singleton_append, ← Ls.drop_cons hj, List.take_append_drop]
  have hd : ∀ z ∈ l.drop (j + 1), z.s.toNat ≠ l[j]!.s.toNat := fun z hz => by
    obtain ⟨i, hi', rfl⟩ := List.mem_iff_getElem.1 hz
    rw [List.length_drop] at hi'
    rw [List.getElem_drop, ← getElem!_pos l (j + 1 + i) (by omega)]
    exact h _ (by omega) (by omega)
  have : pa S l = pa (Dk.put (pa S (l.take j)) l[j]!) (l.drop (j + 1)) := by
    conv => lhs; rw [e]
    rw [pa_append, pa_append, pa_one]
  rw [this, pa_out _ _ _ (by rw [Dk.put_len, pa_len]; exact hi) hd, put_get _ _ _ (by rw [pa_len]; exact hi), if_pos rfl]
/-! ### where steps stop -/
theorem stp_go {D : Dsk} (hd : D.down = false) (ha : 0 ≤ D.arm) : (∃ a', stp D = (⟨D.safe, D.pend, a', false⟩, 0) ∧ 0 ≤ a' ∧ a' ≤ D.arm) ∨ (0 < D.arm ∧ stp D = (⟨D.safe, D.pend, 0, true⟩, 14)) := by
  unfold stp
  rw [hd, if_neg (by decide)]
  by_cases h1 : D.arm = 1
  · rw [if_pos h1]; exact .inr ⟨by omega, rfl⟩
  rw [if_neg h1]
  by_cases h2 : 1 < D.arm
  · rw [if_pos h2]; exact .inl ⟨D.arm - 1, rfl, by omega, by omega⟩
  · rw [if_neg h2]; exact .inl ⟨D.arm, rfl, ha, Int.le_refl _⟩
theorem step_out : ∀ (l : List Chg) (D : Dsk), D.down = false → 0 ≤ D.arm → (∀ z ∈ l, has D z.s ∧ z.t.length = 512) →
    (∃ a', stepP D l = (⟨pa D.safe (D.pend ++ l), [], a', false⟩, 0) ∧ 0 ≤ a' ∧ a' ≤ D.arm) ∨ (0 < D.arm ∧ ∃ k, k ≤ l.length ∧ stepP D l = (⟨D.safe, D.pend ++ l.take k, 0, true⟩, 14))
  | [], D, hd, ha, _ => by
    unfold stepP syn
    rcases stp_go hd ha with ⟨a', e, h1, h2⟩ | ⟨h1, e⟩
    · rw [e, if_pos rfl]
      refine .inl ⟨a', ?_, h1, h2⟩
      unfold kp
      dsimp only
      rw [kpS_all _ _ _ (Nat.le_refl _), List.take_length, List.append_nil]
    · rw [e, if_neg (show ¬ (14 : Int) = 0 by decide)]
      exact .inr ⟨h1, 0, Nat.le_refl _, by rw [List.take_zero, List.append_nil]⟩
  | z :: l, D, hd, ha, hz => by
    have h0 := hz z List.mem_cons_self
    have hwr : wr D z = if (stp D).2 = 0 then (⟨(stp D).1.safe, (stp D).1.pend ++ [z], (stp D).1.arm, (stp D).1.down⟩, 0) else stp D := by
      unfold wr
      rw [if_neg (fun h : ¬ has D z.s ∨ z.t.length ≠ 512 => h.elim (fun h => h h0.1) (fun h => h h0.2))]
    unfold stepP
    rw [hwr]
    rcases stp_go hd ha with ⟨a', e, h1, h2⟩ | ⟨h1, e⟩
    · rw [e]
      rw [if_pos rfl, if_pos rfl]
      dsimp only
      rcases step_out l ⟨D.safe, D.pend ++ [z], a', false⟩ rfl h1 (fun y hy => hz y (List.mem_cons_of_mem _ hy)) with ⟨a2, e2, h3, h4⟩ | ⟨h3, k, hk, e2⟩
      · refine .inl ⟨a2, ?_, h3, Int.le_trans h4 h2⟩
        rw [e2]; dsimp only; rw [List.append_assoc, List.singleton_append]
      · refine .inr ⟨?_, k + 1, Nat.succ_le_succ hk, ?_⟩
        · dsimp only at h3
          omega
        · rw [e2]; dsimp only; rw [List.append_assoc, List.singleton_append, List.take_succ_cons]
    · rw [e]
      rw [if_neg (show ¬ (14 : Int) = 0 by decide)]
      rw [if_neg (show ¬ (14 : Int) = 0 by decide)]
      exact .inr ⟨h1, 0, Nat.zero_le _, by rw [List.take_zero, List.append_nil]⟩
/-- groups one behind the other -/
def pg (S : List (List UInt8)) (G : List (List Chg)) : List (List UInt8) := G.foldl pa S
theorem steps_out : ∀ (G : List (List Chg)) (D : Dsk), D.down = false → 0 ≤ D.arm → D.pend = [] → (∀ l ∈ G, ∀ z ∈ l, has D z.s ∧ z.t.length = 512) →
    (∃ a', stepsP D G = (⟨pg D.safe G, [], a', false⟩, 0) ∧ 0 ≤ a' ∧ a' ≤ D.arm) ∨ (0 < D.arm ∧ ∃ j k, j < G.length ∧ k ≤ G[j]!.length ∧ stepsP D G = (⟨pg D.safe (G.take j), G[j]!.take k, 0, true⟩, 14))
  | [], D, hd, ha, hp, _ => .inl ⟨D.arm, by
      obtain ⟨S, P, arm, down⟩ := D
      dsimp only at hd hp
      subst hd hp
      rfl, ha, Int.le_refl _⟩
  | l :: G, D, hd, ha, hp, hz => by
    unfold stepsP
    rcases step_out l D hd ha (hz l List.mem_cons_self) with ⟨a', e, h1, h2⟩ | ⟨h1, k, hk, e⟩
    · rw [e, if_pos rfl]
      dsimp only
      rw [hp, List.nil_append]
      have hz2 : ∀ k ∈ G, ∀ z ∈ k, has (⟨pa D.safe l, [], a', false⟩ : Dsk) z.s ∧ z.t.length = 512 := fun k hk z hzk => by
        have := hz k (List.mem_cons_of_mem _ hk) z hzk
        unfold has at this ⊢
        dsimp only
        rw [pa_len]
        exact this
      rcases steps_out G ⟨pa D.safe l, [], a', false⟩ rfl h1 rfl hz2 with ⟨a2, e2, h3, h4⟩ | ⟨h3, j, k, hj, hk, e2⟩
      · exact .inl ⟨a2, e2, h3, Int.le_trans h4 h2⟩
      · refine .inr ⟨?_, j + 1, k, Nat.succ_lt_succ hj, hk, e2⟩
        dsimp only at h3
        omega
    · rw [e, if_neg (show ¬ (14 : Int) = 0 by decide)]
      refine .inr ⟨h1, 0, k, Nat.zero_lt_succ _, hk, ?_⟩
      rw [hp]; rfl
end Td
end Go.Proofs.Ytijgnbedilipdaa
namespace Go.Proofs.Ytijgnbedilipdaa
open Go Go.J
attribute [local irreducible] At AtQ AtM AtM1 PR Ct Pu Rd Res.blk Res.own Res.ex Res.obj RVs RV CW LW YC BK bodyPostM roundPost Dk.R Cod.W
namespace Td
open Dk Conf Redo
/-- a sector of one byte -/
def t13 (v : Int) : List UInt8 := List.replicate 512 (UInt8.ofNat v.toNat)
theorem t13_len (v : Int) : (t13 v).length = 512 := List.length_replicate
structure BS where
  (j : Nat) (L : List Int)
theorem text13 (v : Int) (hv : 0 ≤ v ∧ v < 256) : Pu Try.prog 20 #[.int .u8 v] (.string (str (t13 v))) := Pu.of_le fun m => by
  refine Ct.enterV (by rfl) Try.func20 rfl Try.ntmps20 rfl (fun w0 Rest => ?_)
  (repeat' (first | refine zss ?_ | refine zs0 ?_ | ((with_reducible apply At.makeN (f := fb) ((0 : Int))); exact inferInstance; (iterate 5 exact rfl); exact zlq; exact rfl; exact zom; exact rfl; intro b5) | (refine zsp ?_ ?_ <;> (intro hc; (try simp only [zhcs, reduceCtorEq] at hc); (try (exfalso; first | contradiction | omega | exact absurd rfl hc | exact absurd (by decide) hc))))))
  (refine At.loopk (σ := BS) [0, 3, 7] (fun s F0 => (8, .int .i64 (s.j : Int)) :: F0) (fun s => m) (fun s => .own fb 1 5 (some ⟨b5, 0, none⟩) 512 s.L :: Rest) (fun s => s.j ≤ 512 ∧ s.L.length = 512 ∧ ∀ i, i < 512 → s.L[i]! = if i < s.j then v else 0) (fun s => 512 - s.j) ⟨0, List.replicate 512 0⟩ (by rfl) ?_ zsubs zml zente ?_)
  · exact ⟨Nat.zero_le _, List.length_replicate, fun i hi => by rw [if_neg (Nat.not_lt_zero _), getElem!_pos _ i (by rw [List.length_replicate]; exact hi), List.getElem_replicate]⟩
  rintro ⟨j, L⟩ ⟨hj, hL, hget⟩
  dsimp only at hj hL hget ⊢
  by_cases h : j < 512
  · (repeat' (first | refine zss ?_ | refine zsO ?_ | ((with_reducible apply At.storeW (f := fb) (x' := v)); (case hx => exact rfl); (case hy => exact rfl); (case hv => exact rfl); (case hp => exact (by repeat constructor)); (case hr => exact rfl); (case hf => exact inferInstance); (case hk => exact zom); (case hs => exact rfl); (case hq => exact rfl); (case h1 => exact rfl)) | (refine zsp ?_ ?_ <;> (intro hc; (try simp only [zhcs, reduceCtorEq] at hc); (try (exfalso; first | (first | omega | exact absurd rfl hc) | contradiction | omega | exact absurd rfl hc | exact absurd (by decide) hc))))))
    all_goals ((with_reducible refine At.reachk ((⟨j + 1, L.set j v⟩ : BS)) ?_ ?_ ?_ ?_); exact zsubs; exact zml; exact zente; exact ⟨⟨h, by dsimp only; rw [List.length_set]; exact hL, fun i hi => by
      dsimp only
      rw [getElem!_pos _ i (by rw [List.length_set, hL]; exact hi), List.getElem_set]
      by_cases e : j = i
      · rw [if_pos e, if_pos (by omega)]
      · rw [if_neg e]
        have := hget i hi
        rw [getElem!_pos _ i (by rw [hL]; exact hi)] at this
        rw [this]
        by_cases e' : i < j
        · rw [if_pos e', if_pos (by omega)]
        · rw [if_neg e', if_neg (by omega)]⟩, by dsimp only; omega⟩)
  · obtain rfl : j = 512 := by omega
    have hfin : L = List.replicate 512 v := Ls.ext! (by rw [hL, List.length_replicate]) fun i hi => by rw [hget i (by omega), if_pos (by omega), getElem!_pos _ i (by rw [List.length_replicate]; omega), List.getElem_replicate]
    have hl5 : (List.replicate 512 v).length = 512 := List.length_replicate
    clear hget hL
    subst hfin
    (repeat' (first | refine zss ?_ | refine zsO ?_ | (refine zsp ?_ ?_ <;> (intro hc; (try simp only [zhcs, reduceCtorEq] at hc); (try (exfalso; first | (first | omega | exact absurd rfl hc) | contradiction | omega | exact absurd rfl hc | exact absurd (by decide) hc))))))
    all_goals ((with_reducible apply At.retB1 (B := [])); exact rfl; exact rfl; exact zml; exact zkp; exact ⟨by rw [List.map_replicate]; rfl, zml, rfl⟩)
/-- the text of the i-th place -/
def tb (by_ : Int) (i : Nat) : List UInt8 := t13 ((by_ + i) % 256)
def hom (by_ : Int) (n : Nat) : List (List UInt8) := (List.range n).map (tb by_)
theorem hom_len (b : Int) (n : Nat) : (hom b n).length = n := by unfold hom; rw [List.length_map, List.length_range]
theorem hom_snoc (b : Int) (n : Nat) : hom b (n + 1) = hom b n ++ [tb b n] := by unfold hom; rw [List.range_succ, List.map_append]; rfl
/-- whether two lists are alike -/
theorem same_ {m : Mem} (p : Option Addr) (c : Nat) (a : List (List UInt8)) (q : Option Addr) (d : Nat) (b : List (List UInt8)) (ha : a.length ≤ 1000000) (hb : b.length ≤ 1000000) (sl0 : Sl m Ls.fS 1 p c a) (sl1 : Sl m Ls.fS 1 q d b) :
    Rd Try.prog 15 #[.slice p a.length c, .slice q b.length d] m [] (.bool (decide (a = b))) := by
  unfold Rd
  by_cases hl : a.length = b.length
  · refine Ct.enterV (by rfl) Try.func15 rfl Try.ntmps15 rfl (fun w0 Rest => ?_)
    (repeat' (first | refine zss ?_ | refine zsM ?_ | (refine zsp ?_ ?_ <;> (intro hc; (try simp only [zhcs, reduceCtorEq] at hc); (try (exfalso; first | (first | omega | exact absurd rfl hc) | contradiction | omega | exact absurd rfl hc | exact absurd (by decide) hc))))))
    (refine At.loopk (σ := Nat) [0, 1, 12] (fun s F0 => (13, .int .i64 (s : Int)) :: F0) (fun s => m) (fun s => Rest) (fun s => s ≤ a.length ∧ ∀ i, i < s → a[i]! = b[i]!) (fun s => a.length - s) 0 (by rfl) ?_ zsubs zml zente ?_)
    · exact ⟨Nat.zero_le _, fun i hi => absurd hi (Nat.not_lt_zero _)⟩
    rintro j ⟨hj, heq⟩
    by_cases h : j < a.length
    · by_cases he : a[j]! = b[j]!
      · (repeat' (first | refine zss ?_ | refine zsM ?_ | (refine zsp ?_ ?_ <;> (intro hc; (try simp only [zhcs, reduceCtorEq] at hc); (try (exfalso; first | (first | omega | exact absurd rfl hc | exact absurd he hc) | contradiction | omega | exact absurd rfl hc | exact absurd (by decide) hc))))))
        all_goals ((with_reducible refine At.reachk (j + 1) ?_ ?_ ?_ ?_); exact zsubs; exact zml; exact zente; exact ⟨⟨h, fun i hi => by rcases Nat.lt_or_ge i j with h' | h'; exact heq i h'; rw [show i = j by omega]; exact he⟩, by omega⟩)
      · have hne : ¬ a = b := fun e => he (by rw [e])
        rw [decide_eq_false hne]
        (repeat' (first | refine zss ?_ | refine zsM ?_ | (refine zsp ?_ ?_ <;> (intro hc; (try simp only [zhcs, reduceCtorEq] at hc); (try (exfalso; first | (first | omega | exact absurd rfl hc | exact absurd hc he) | contradiction | omega | exact absurd rfl hc | exact absurd (by decide) hc))))))
        all_goals ((with_reducible apply At.retB1 (B := [])); exact rfl; exact rfl; exact zml; exact zkp; exact ⟨rfl, rfl, rfl⟩)
    · have hab : a = b := Ls.ext! hl fun i hi => heq i (by omega)
      rw [decide_eq_true hab]
      (repeat' (first | refine zss ?_ | refine zsM ?_ | (refine zsp ?_ ?_ <;> (intro hc; (try simp only [zhcs, reduceCtorEq] at hc); (try (exfalso; first | (first | omega | exact absurd rfl hc) | contradiction | omega | exact absurd rfl hc | exact absurd (by decide) hc))))))
      all_goals ((with_reducible apply At.retB1 (B := [])); exact rfl; exact rfl; exact zml; exact zkp; exact ⟨rfl, rfl, rfl⟩)
  · have hne : ¬ a = b := fun e => hl (by rw [e])
    rw [decide_eq_false hne]
    refine Ct.enterV (by rfl) Try.func15 rfl Try.ntmps15 rfl (fun w0 Rest => ?_)
    (repeat' (first | refine zss ?_ | refine zsM ?_ | (refine zsp ?_ ?_ <;> (intro hc; (try simp only [zhcs, reduceCtorEq] at hc); (try (exfalso; first | (first | omega | exact absurd rfl hc) | contradiction | omega | exact absurd rfl hc | exact absurd (by decide) hc))))))
    all_goals ((with_reducible apply At.retB1 (B := [])); exact rfl; exact rfl; exact zml; exact zkp; exact ⟨rfl, rfl, rfl⟩)
end Td
end Go.Proofs.Ytijgnbedilipdaa

/- Part 14 of what the law's proof needs: rules of the walk, contracts of functions, plain laws. No condition. -/
import Derived.Test.YtkoijdmlehkhbaaGreatDoorTrLWZ13
import Derived.Shelf.SlSortCmp.NoneTotal
import Derived.Test.YtkoijdmlehkhbaaGreatDoorProg
import Derived.ProofKit
import Derived.OpenShut
import Derived.Below
import Derived.Carry
import Derived.Test.YtkoijdmlehkhbaaGreatDoorRows
import Derived.Lib.ItoaNum
import Derived.Lib.BitFns
import Derived.Laws.AppendOwn
import Derived.Shelf.Small.Bits
import Derived.Shelf.Spec.BitsCarry
set_option linter.unusedSimpArgs false
set_option linter.unusedVariables false
set_option linter.unusedSectionVars false
set_option maxRecDepth 20000
set_option maxHeartbeats 4000000
namespace Go.Proofs.YtkoijdmlehkhbaaGreatDoor
open Go Go.J
namespace Mrg
open Ev
theorem ix_iff {b : List Ev} {t : Int} : 0 ≤ ix b t ↔ ∃ e ∈ b, e.T = t := by
  rcases ix_spec b t with ⟨h1, h2⟩ | ⟨j, h1, h2, h3⟩
  · rw [h1]
    refine ⟨fun h => absurd h (by decide), fun ⟨e, he, ht⟩ => ?_⟩
    obtain ⟨i, hi, rfl⟩ := List.mem_iff_getElem.1 he
    exact absurd ht (by have := h2 i hi; rwa [getElem!_pos b i hi] at this)
  · rw [h1]
    exact ⟨fun _ => ⟨b[j]!, by rw [getElem!_pos b j h2]; exact List.getElem_mem h2, h3⟩, fun _ => by omega⟩
/-- no time has two events -/
def Fit (a b : List Ev) : Prop := ∀ x ∈ a, ∀ y ∈ b, x.T = y.T → x = y
theorem Fit.symm {a b : List Ev} (h : Fit a b) : Fit b a := fun x hx y hy e => (h y hy x hx e.symm).symm
theorem fits_iff {a b : List Ev} (hb : Asc b) : fits a b ↔ Fit a b := by
  constructor
  · intro h x hx y hy e
    obtain ⟨i, hi, rfl⟩ := List.mem_iff_getElem.1 hx
    have hf := h i hi
    rw [getElem!_pos a i hi] at hf
    rcases ix_spec b a[i].T with ⟨h1, h2⟩ | ⟨j, h1, h2, h3⟩
    · obtain ⟨k, hk, rfl⟩ := List.mem_iff_getElem.1 hy
      have := h2 k hk
      rw [getElem!_pos b k hk] at this
      exact absurd e.symm this
    · have hbj : b[j]! ∈ b := by rw [getElem!_pos b j h2]; exact List.getElem_mem h2
      have e2 := asc_inj hb hbj hy (by rw [h3, e])
      by_cases e3 : b[j]! = a[i]
      · rw [← e3, e2]
      · exact absurd ⟨j, h1, e3⟩ hf
  · rintro h i hi ⟨j, h1, h2⟩
    rcases ix_spec b (a[i]!).T with ⟨h3, h4⟩ | ⟨k, h3, h4, h5⟩
    · rw [h3] at h1; omega
    · obtain rfl : j = k := by omega
      exact h2 (h _ (by rw [getElem!_pos a i hi]; exact List.getElem_mem hi) _ (by rw [getElem!_pos b j h4]; exact List.getElem_mem h4) h5.symm).symm
theorem may_of {a b : List Ev} (h1 : chk a = 0) (h2 : chk b = 0) : (may a b = 0 ∧ Fit a b) ∨ (may a b = 16 ∧ ¬ Fit a b) := by
  unfold may
  rw [if_neg (fun h => h h1), if_neg (fun h => h h2)]
  have := fits_iff (a := a) (chk_zero.1 h2).2
  by_cases h : fits a b
  · rw [if_pos h]; exact .inl ⟨rfl, this.1 h⟩
  · rw [if_neg h]; exact .inr ⟨rfl, fun hh => h (this.2 hh)⟩
theorem may_zero {a b : List Ev} : may a b = 0 ↔ chk a = 0 ∧ chk b = 0 ∧ Fit a b := by
  by_cases h1 : chk a = 0
  · by_cases h2 : chk b = 0
    · rcases may_of h1 h2 with ⟨h3, h4⟩ | ⟨h3, h4⟩
      · exact ⟨fun _ => ⟨h1, h2, h4⟩, fun _ => h3⟩
      · exact ⟨fun h => by omega, fun h => absurd h.2.2 h4⟩
    · refine ⟨fun h => ?_, fun h => absurd h.2.1 h2⟩
      unfold may at h
      rw [if_neg (fun h => h h1), if_pos h2] at h
      exact absurd h h2
  · refine ⟨fun h => ?_, fun h => absurd h.1 h1⟩
    unfold may at h
    rw [if_pos h1] at h
    exact absurd h h1
/-- what is taken of the two -/
def took (ws : List Int) (r : List Ev × List Ev × List Ev) : List Ev := r.2.1.foldl (tk ws 1) (r.1.foldl (tk ws 0) r.2.2)
theorem foldl_tk (ws : List Int) (w : Int) : ∀ (A O : List Ev), A.foldl (tk ws w) O = O ++ (if w ∈ ws then A else [])
  | [], O => by by_cases h : w ∈ ws <;> simp [h]
  | x :: A, O => by
    rw [List.foldl_cons, foldl_tk ws w A]
    unfold tk
    by_cases h : w ∈ ws <;> simp [h]
def Wh (ws : List Int) (A B : List Ev) (e : Ev) : Prop := (e ∈ A ∧ e ∈ B ∧ 2 ∈ ws) ∨ (e ∈ A ∧ e ∉ B ∧ 0 ∈ ws) ∨ (e ∉ A ∧ e ∈ B ∧ 1 ∈ ws)
theorem Wh.or {ws : List Int} {A B : List Ev} {e : Ev} (h : Wh ws A B e) : e ∈ A ∨ e ∈ B := by
  rcases h with h | h | h
  · exact .inl h.1
  · exact .inl h.1
  · exact .inr h.2.1
theorem asc_ife {p : Prop} [Decidable p] {x : Ev} {M : List Ev} (h : ∀ e ∈ M, x.T < e.T) (hM : Asc M) : Asc ((if p then [x] else []) ++ M) := by
  split
  · exact List.pairwise_cons.2 ⟨h, hM⟩
  · exact hM
theorem tk_eq (ws : List Int) (w : Int) (O : List Ev) (x : Ev) : tk ws w O x = O ++ (if w ∈ ws then [x] else []) := by
  unfold tk; split <;> simp
theorem mem_ife {p : Prop} [Decidable p] {e x : Ev} {M : List Ev} : e ∈ (if p then [x] else []) ++ M ↔ (e = x ∧ p) ∨ e ∈ M := by
  by_cases h : p <;> simp [h]
theorem mg_spec (ws : List Int) : ∀ (A B O : List Ev), Asc A → Asc B → (mg ws A B O = none ∧ ¬ Fit A B) ∨ (∃ r M, mg ws A B O = some r ∧ Fit A B ∧ took ws r = O ++ M ∧ Asc M ∧ ∀ e, e ∈ M ↔ Wh ws A B e)
  | [], b, O, _, h2 => by
    refine .inr ⟨_, if (1 : Int) ∈ ws then b else [], by rw [mg], (fun x hx => by cases hx), by unfold took; rw [foldl_tk, List.foldl_nil], ?_, fun e => ?_⟩
    · split
      · exact h2
      · exact .nil
    · unfold Wh; by_cases h : (1 : Int) ∈ ws <;> simp [h]
  | x :: a, [], O, h1, _ => by
    refine .inr ⟨_, if (0 : Int) ∈ ws then x :: a else [], by rw [mg], (fun x hx y hy => by cases hy), by unfold took; rw [List.foldl_nil, foldl_tk], ?_, fun e => ?_⟩
    · split
      · exact h1
      · exact .nil
    · unfold Wh; by_cases h : (0 : Int) ∈ ws <;> simp [h]
  | x :: a, y :: b, O, h1, h2 => by
    obtain ⟨a1, a2⟩ := List.pairwise_cons.1 h1
    obtain ⟨b1, b2⟩ := List.pairwise_cons.1 h2
    rw [mg]
    by_cases e1 : x = y
    · rw [if_pos e1]
      subst e1
      have xa : x ∉ a := fun h => by have := a1 x h; omega
      have xb : x ∉ b := fun h => by have := b1 x h; omega
      rcases mg_spec ws a b (tk ws 2 O x) a2 b2 with ⟨g1, g2⟩ | ⟨r, M, g1, g2, g3, g4, g5⟩
      · exact .inl ⟨g1, fun h => g2 fun u hu v hv => h u (List.mem_cons_of_mem _ hu) v (List.mem_cons_of_mem _ hv)⟩
      · refine .inr ⟨r, (if (2 : Int) ∈ ws then [x] else []) ++ M, g1, ?_, by rw [g3, tk_eq, List.append_assoc], asc_ife (fun e he => ?_) g4, fun e => ?_⟩
        · intro u hu v hv e
          rcases List.mem_cons.1 hu with eu | hu1 <;> rcases List.mem_cons.1 hv with ew | hv1
          · rw [eu, ew]
          · have := b1 v hv1; subst eu; omega
          · have := a1 u hu1; subst ew; omega
          · exact g2 u hu1 v hv1 e
        · rcases ((g5 e).1 he).or with h | h
          · exact a1 e h
          · exact b1 e h
        · rw [mem_ife, g5]
          unfold Wh
          by_cases he : e = x
          · subst he; simp [xa, xb]
          · simp [he]
    · rw [if_neg e1]
      by_cases e2 : x.T < y.T
      · rw [if_pos e2]
        have xa : x ∉ a := fun h => by have := a1 x h; omega
        have xb : ∀ z ∈ y :: b, x.T < z.T := fun z h => by
          rcases List.mem_cons.1 h with rfl | h
          · exact e2
          · have := b1 z h; omega
        have xb' : x ∉ y :: b := fun h => by have := xb x h; omega
        rcases mg_spec ws a (y :: b) (tk ws 0 O x) a2 h2 with ⟨g1, g2⟩ | ⟨r, M, g1, g2, g3, g4, g5⟩
        · exact .inl ⟨g1, fun h => g2 fun u hu v hv => h u (List.mem_cons_of_mem _ hu) v hv⟩
        · refine .inr ⟨r, (if (0 : Int) ∈ ws then [x] else []) ++ M, g1, ?_, by rw [g3, tk_eq, List.append_assoc], asc_ife (fun e he => ?_) g4, fun e => ?_⟩
          · intro u hu v hv e
            rcases List.mem_cons.1 hu with rfl | hu
            · have := xb v hv; omega
            · exact g2 u hu v hv e
          · rcases ((g5 e).1 he).or with h | h
            · exact a1 e h
            · exact xb e h
          · rw [mem_ife, g5]
            unfold Wh
            by_cases he : e = x
            · subst he
              obtain ⟨n1, n2⟩ := not_or.1 (mt List.mem_cons.2 xb')
              simp [xa, n1, n2]
            · simp [he]
      · rw [if_neg e2]
        by_cases e3 : y.T < x.T
        · rw [if_pos e3]
          have yb : y ∉ b := fun h => by have := b1 y h; omega
          have ya : ∀ z ∈ x :: a, y.T < z.T := fun z h => by
            rcases List.mem_cons.1 h with rfl | h
            · exact e3
            · have := a1 z h; omega
          have ya' : y ∉ x :: a := fun h => by have := ya y h; omega
          rcases mg_spec ws (x :: a) b (tk ws 1 O y) h1 b2 with ⟨g1, g2⟩ | ⟨r, M, g1, g2, g3, g4, g5⟩
          · exact .inl ⟨g1, fun h => g2 fun u hu v hv => h u hu v (List.mem_cons_of_mem _ hv)⟩
          · refine .inr ⟨r, (if (1 : Int) ∈ ws then [y] else []) ++ M, g1, ?_, by rw [g3, tk_eq, List.append_assoc], asc_ife (fun e he => ?_) g4, fun e => ?_⟩
            · intro u hu v hv e
              rcases List.mem_cons.1 hv with rfl | hv
              · have := ya u hu; omega
              · exact g2 u hu v hv e
            · rcases ((g5 e).1 he).or with h | h
              · exact ya e h
              · exact b1 e h
            · rw [mem_ife, g5]
              unfold Wh
              by_cases he : e = y
              · subst he
                obtain ⟨n1, n2⟩ := not_or.1 (mt List.mem_cons.2 ya')
                simp [yb, n1, n2]
              · simp [he]
        · rw [if_neg e3]
          exact .inl ⟨rfl, fun h => e1 (h x (List.mem_cons_self ..) y (List.mem_cons_self ..) (by omega))⟩
termination_by A B => A.length + B.length
/-- the events that the walk takes -/
def slc (ws : List Int) (a b : List Ev) : List Ev := match mg ws a b [] with
  | some r => took ws r
  | none => []
theorem slc_spec {ws : List Int} {a b : List Ev} (h : may a b = 0) : Asc (slc ws a b) ∧ ∀ e, e ∈ slc ws a b ↔ Wh ws a b e := by
  obtain ⟨h1, h2, h3⟩ := may_zero.1 h
  rcases mg_spec ws a b [] (chk_zero.1 h1).2 (chk_zero.1 h2).2 with ⟨g1, g2⟩ | ⟨r, M, g1, g2, g3, g4, g5⟩
  · exact absurd h3 g2
  · unfold slc
    rw [g1]
    dsimp only
    rw [g3, List.nil_append]
    exact ⟨g4, g5⟩
theorem posF_spec (l : List Ev) (t : Int) : ∀ (k i : Nat), i + k = l.length → (∀ j, j < i → (l[j]!).T < t) → (∀ j, j < posF l t i k → (l[j]!).T < t) ∧ (posF l t i k < l.length → ¬ (l[posF l t i k]!).T < t)
  | 0, i, h, hb => ⟨hb, fun h2 => by unfold posF at h2; omega⟩
  | k + 1, i, h, hb => by
    unfold posF
    by_cases hlt : (l[i]!).T < t
    · rw [if_pos hlt]
      exact posF_spec l t k (i + 1) (by omega) fun j hj => by
        by_cases e : j = i
        · subst e; exact hlt
        · exact hb j (by omega)
    · rw [if_neg hlt]; exact ⟨hb, fun _ => hlt⟩
theorem mem_ins {l : List Ev} {e x : Ev} : x ∈ ins l e ↔ x ∈ l ∨ x = e := by
  unfold ins
  rw [List.mem_append, List.mem_append, List.mem_singleton]
  have : x ∈ l ↔ x ∈ l.take (pos l e.T) ∨ x ∈ l.drop (pos l e.T) := by
    conv => lhs; rw [← List.take_append_drop (pos l e.T) l]
    exact List.mem_append
  rw [this]
  constructor
  · rintro (h | h | h)
    · exact .inl (.inl h)
    · exact .inr h
    · exact .inl (.inr h)
  · rintro ((h | h) | h)
    · exact .inl h
    · exact .inr (.inr h)
    · exact .inr (.inl h)
theorem asc_ins {l : List Ev} {e : Ev} (h : Asc l) (hn : ∀ x ∈ l, x.T ≠ e.T) : Asc (ins l e) := by
  obtain ⟨p1, p2⟩ := posF_spec l e.T l.length 0 (by omega) (fun j hj => absurd hj (Nat.not_lt_zero j))
  have hle := posF_le l e.T l.length 0
  have ht : ∀ x ∈ l.take (pos l e.T), x.T < e.T := fun x hx => by
    obtain ⟨i, hi, rfl⟩ := List.mem_iff_getElem.1 hx
    rw [List.length_take] at hi
    rw [List.getElem_take]
    have := p1 i (by unfold pos at hi; omega)
    rwa [getElem!_pos l i (by omega)] at this
  have hd : ∀ x ∈ l.drop (pos l e.T), e.T < x.T := fun x hx => by
    obtain ⟨i, hi, rfl⟩ := List.mem_iff_getElem.1 hx
    rw [List.length_drop] at hi
    rw [List.getElem_drop]
    have hpl : pos l e.T < l.length := by omega
    have h0 := p2 hpl
    rw [show posF l e.T 0 l.length = pos l e.T from rfl, getElem!_pos l _ hpl] at h0
    have h1 := hn _ (List.getElem_mem hpl)
    rcases Nat.eq_zero_or_pos i with rfl | hi0
    · have : l[pos l e.T + 0] = l[pos l e.T] := rfl
      rw [this]; omega
    · have := List.pairwise_iff_getElem.1 h (pos l e.T) (pos l e.T + i) hpl (by omega) (by omega)
      omega
  unfold ins
  refine List.pairwise_append.2 ⟨h.sublist (List.take_sublist _ _), List.pairwise_cons.2 ⟨hd, h.sublist (List.drop_sublist _ _)⟩, fun x hx y hy => ?_⟩
  have h1 := ht x hx
  rcases List.mem_cons.1 hy with rfl | hy
  · exact h1
  · have := hd y hy; omega
theorem two_spec (a : List Ev) : ∀ (b O : List Ev), Asc O → Asc b → (∀ e ∈ b, (∀ x ∈ a, x.T ≠ e.T) → ∀ o ∈ O, o.T ≠ e.T) → Asc (b.foldl (step a) O) ∧ ∀ e, e ∈ b.foldl (step a) O ↔ e ∈ O ∨ (e ∈ b ∧ ∀ x ∈ a, x.T ≠ e.T)
  | [], O, h1, _, _ => ⟨h1, fun e => by simp⟩
  | y :: b, O, h1, h2, h3 => by
    obtain ⟨b1, b2⟩ := List.pairwise_cons.1 h2
    rw [List.foldl_cons]
    unfold step
    by_cases hi : 0 ≤ ix a y.T
    · rw [if_pos hi]
      obtain ⟨z, z1, z2⟩ := ix_iff.1 hi
      obtain ⟨g1, g2⟩ := two_spec a b O h1 b2 (fun e he => h3 e (List.mem_cons_of_mem _ he))
      refine ⟨g1, fun e => ?_⟩
      have hg := g2 e
      unfold step at hg
      rw [hg, List.mem_cons]
      constructor
      · rintro (h | ⟨h, h'⟩)
        · exact .inl h
        · exact .inr ⟨.inr h, h'⟩
      · rintro (h | ⟨rfl | h, h'⟩)
        · exact .inl h
        · exact absurd z2 (h' z z1)
        · exact .inr ⟨h, h'⟩
    · rw [if_neg hi]
      have hn : ∀ x ∈ a, x.T ≠ y.T := fun x hx e => hi (ix_iff.2 ⟨x, hx, e⟩)
      have ho := h3 y (List.mem_cons_self ..) hn
      obtain ⟨g1, g2⟩ := two_spec a b (ins O y) (asc_ins h1 ho) b2 (fun e he hx o hm => by
        rcases mem_ins.1 hm with h | rfl
        · exact h3 e (List.mem_cons_of_mem _ he) hx o h
        · have := b1 e he; omega)
      refine ⟨g1, fun e => ?_⟩
      have hg := g2 e
      unfold step at hg
      rw [hg, mem_ins, List.mem_cons]
      constructor
      · rintro ((h | rfl) | ⟨h, h'⟩)
        · exact .inl h
        · exact .inr ⟨.inl rfl, hn⟩
        · exact .inr ⟨.inr h, h'⟩
      · rintro (h | ⟨rfl | h, h'⟩)
        · exact .inl (.inl h)
        · exact .inl (.inr rfl)
        · exact .inr ⟨h, h'⟩
theorem two_of {a b : List Ev} (h : may a b = 0) : Asc (two a b) ∧ ∀ e, e ∈ two a b ↔ e ∈ a ∨ e ∈ b := by
  obtain ⟨h1, h2, h3⟩ := may_zero.1 h
  obtain ⟨g1, g2⟩ := two_spec a b a (chk_zero.1 h1).2 (chk_zero.1 h2).2 (fun _ _ h => h)
  refine ⟨g1, fun e => (g2 e).trans ⟨fun h => h.imp_right And.left, fun h => ?_⟩⟩
  rcases h with h | h
  · exact .inl h
  · by_cases he : e ∈ a
    · exact .inl he
    · exact .inr ⟨h, fun x hx ht => he (by rw [← h3 x hx e h ht]; exact hx)⟩
theorem slc_two {a b : List Ev} (h : may a b = 0) : slc [0, 1, 2] a b = two a b := by
  obtain ⟨s1, s2⟩ := slc_spec (ws := [0, 1, 2]) h
  obtain ⟨t1, t2⟩ := two_of h
  refine asc_ext s1 t1 fun e => ?_
  rw [s2, t2]
  unfold Wh
  by_cases h1 : e ∈ a <;> by_cases h2 : e ∈ b <;> simp [h1, h2]
end Mrg
end Go.Proofs.YtkoijdmlehkhbaaGreatDoor
namespace Go.Proofs.YtkoijdmlehkhbaaGreatDoor
open Go Go.J
attribute [local irreducible] At AtQ AtM AtM1 PR Ct Pu Rd Res.blk Res.own Res.ex RVs RV
namespace Mrg
open Ev
/-- a list, that stays, and an error -/
def Post (l : List Ev) (w : Int) : Value → Mem → List Res → Prop := fun v m' B => B = [] ∧ ∃ p c, v = .tuple #[.slice p l.length c, .int .i64 w] ∧ Sl m' cells 4 p c l
theorem walk3 {m : Mem} (b5 b8 : Nat) (pw : Option Addr) (cw : Nat) (ws : List Int) (pa : Option Addr) (ca : Nat) (a : List Ev) (pb : Option Addr) (cb : Nat) (b : List Ev) (p : Option Addr) (c : Nat) (L : List Ev)
    (ha : a.length ≤ 1000000) (hb : b.length ≤ 1000000) (sl1 : Sl m cells 4 pa ca a) (sl2 : Sl m cells 4 pb cb b) (h12 : ¬ (chk a = 0 ∧ chk b = 0)) :
    Ct Tryz.prog 108 #[.slice pa a.length ca, .slice pb b.length cb, .func (.func 109) #[] #[ptr b5, ptr b8]] m (tr b5 b8 pw cw ws p c L) (fun v m' B => v = .int .i64 (may a b) ∧ m = m' ∧ B = tr b5 b8 pw cw ws p c L) := by
  unfold may
  by_cases h1 : chk a = 0
  · have h2 : chk b ≠ 0 := fun h => h12 ⟨h1, h⟩
    rw [if_neg (fun h => h h1), if_pos h2]
    have k1 : ∀ m', m.le m' → Rd Tryz.prog 157 #[.slice pa a.length ca] m' [] (.int .i64 0) := fun m' hm => h1 ▸ check pa ca a ha (sl1.mono hm)
    refine Ct.enterV (by rfl) Tryz.func108 rfl Tryz.ntmps108 rfl (fun w0 Rest => ?_)
    (repeat' (first | refine zss ?_ | refine zsM ?_ | ((with_reducible first | apply AtM1.cr | apply AtQ.cr | apply At.cr); exact rfl; exact rfl; exact fun _ hmm => k1 _ hmm; exact ztk; kernel_rfl) | ((with_reducible first | apply AtM1.cr | apply AtQ.cr | apply At.cr); exact rfl; exact rfl; exact fun _ hmm => check pb cb b hb (sl2.mono hmm); exact ztk; kernel_rfl) | ((with_reducible apply At.alloc (d := 10)); exact rfl; exact rfl; intro b10) | ((with_reducible apply At.alloc (d := 12)); exact rfl; exact rfl; intro b12) | (refine zsp ?_ ?_ <;> (intro hc; (try simp only [zhcs, reduceCtorEq] at hc); (try (exfalso; first | (first | omega | exact absurd hc h2) | contradiction | omega | exact absurd rfl hc | exact absurd (by decide) hc))))))
    all_goals ((with_reducible apply At.retB1 (B := [.blk b5 _ _, .blk b8 _ _, .own cells 4 57 _ _ L])); exact rfl; exact rfl; exact zml; exact zkp; exact ⟨rfl, rfl, rfl⟩)
  · rw [if_pos h1]
    refine Ct.enterV (by rfl) Tryz.func108 rfl Tryz.ntmps108 rfl (fun w0 Rest => ?_)
    (repeat' (first | refine zss ?_ | refine zsM ?_ | ((with_reducible first | apply AtM1.cr | apply AtQ.cr | apply At.cr); exact rfl; exact rfl; exact fun _ hmm => check pa ca a ha (sl1.mono hmm); exact ztk; kernel_rfl) | ((with_reducible apply At.alloc (d := 10)); exact rfl; exact rfl; intro b10) | ((with_reducible apply At.alloc (d := 12)); exact rfl; exact rfl; intro b12) | (refine zsp ?_ ?_ <;> (intro hc; (try simp only [zhcs, reduceCtorEq] at hc); (try (exfalso; first | (first | omega | exact absurd hc h1) | contradiction | omega | exact absurd rfl hc | exact absurd (by decide) hc))))))
    all_goals ((with_reducible apply At.retB1 (B := [.blk b5 _ _, .blk b8 _ _, .own cells 4 57 _ _ L])); exact rfl; exact rfl; exact zml; exact zkp; exact ⟨rfl, rfl, rfl⟩)
theorem walk {m : Mem} (b5 b8 : Nat) (pw : Option Addr) (cw : Nat) (ws : List Int) (pa : Option Addr) (ca : Nat) (a : List Ev) (pb : Option Addr) (cb : Nat) (b : List Ev) (p : Option Addr) (c : Nat)
    (hw : ws.length ≤ 1000) (ha : a.length ≤ 1000000) (hb : b.length ≤ 1000000) (sl0 : Sl m fn 1 pw cw ws) (sl1 : Sl m cells 4 pa ca a) (sl2 : Sl m cells 4 pb cb b) :
    Ct Tryz.prog 108 #[.slice pa a.length ca, .slice pb b.length cb, .func (.func 109) #[] #[ptr b5, ptr b8]] m (tr b5 b8 pw cw ws p c [])
      (fun v m' B => v = .int .i64 (may a b) ∧ m = m' ∧ ∃ p' c' L', B = tr b5 b8 pw cw ws p' c' L' ∧ (may a b = 0 → L' = slc ws a b)) := by
  by_cases h12 : chk a = 0 ∧ chk b = 0
  · obtain ⟨h1, h2⟩ := h12
    rcases mg_spec ws a b [] (chk_zero.1 h1).2 (chk_zero.1 h2).2 with ⟨g1, g2⟩ | ⟨r, M, g1, g2, _, _, _⟩
    · rcases may_of h1 h2 with ⟨e, h⟩ | ⟨e, _⟩
      · exact absurd h g2
      · rw [e]
        exact (walk1 b5 b8 pw cw ws pa ca a pb cb b p c [] hw ha hb (Nat.zero_le _) sl0 sl1 sl2 h1 h2 g1).mono fun v m' B _ ⟨q1, q2, p', c', L', q3⟩ => ⟨q1, q2, p', c', L', q3, fun h => absurd h (by decide)⟩
    · rcases may_of h1 h2 with ⟨e, _⟩ | ⟨_, h⟩
      · rw [e]
        exact (walk2 b5 b8 pw cw ws pa ca a pb cb b p c [] r hw ha hb (Nat.zero_le _) sl0 sl1 sl2 h1 h2 g1).mono fun v m' B _ ⟨q1, q2, p', c', q3⟩ => ⟨q1, q2, p', c', _, q3, fun _ => by unfold slc; rw [g1]; rfl⟩
      · exact absurd g2 h
  · exact (walk3 b5 b8 pw cw ws pa ca a pb cb b p c [] ha hb sl1 sl2 h12).mono fun v m' B _ ⟨q1, q2, q3⟩ => ⟨q1, q2, p, c, _, q3, fun h => absurd ⟨(may_zero.1 h).1, (may_zero.1 h).2.1⟩ h12⟩
theorem someP {m : Mem} (pw : Option Addr) (cw : Nat) (ws : List Int) (pa : Option Addr) (ca : Nat) (a : List Ev) (pb : Option Addr) (cb : Nat) (b : List Ev)
    (hw : ws.length ≤ 1000) (ha : a.length ≤ 1000000) (hb : b.length ≤ 1000000) (sl0 : Sl m fn 1 pw cw ws) (sl1 : Sl m cells 4 pa ca a) (sl2 : Sl m cells 4 pb cb b) :
    Ct Tryz.prog 57 #[.slice pa a.length ca, .slice pb b.length cb, .slice pw ws.length cw] m []
      (fun v m' B => ∃ p c, v = .tuple #[.slice p (out a b (slc ws a b)).length c, .int .i64 (may a b)] ∧ B = [.own cells 4 57 p c (out a b (slc ws a b))]) := by
  have hwk := fun b5 b8 p c => walk (m := m) b5 b8 pw cw ws pa ca a pb cb b p c hw ha hb sl0 sl1 sl2
  by_cases h : may a b = 0
  · rw [show out a b (slc ws a b) = slc ws a b from if_pos h]
    rw [h] at hwk ⊢
    refine Ct.enterV (by rfl) Tryz.func57 rfl Tryz.ntmps57 rfl (fun w0 Rest => ?_)
    (repeat' (first | refine zss ?_ | refine zsM ?_ | ((with_reducible apply At.box (d := 5)); exact rfl; exact rfl; exact rfl; intro b5) | ((with_reducible apply At.alloc (d := 8)); exact rfl; exact rfl; intro b8) | (refine zsp ?_ ?_ <;> (intro hc; (try simp only [zhcs, reduceCtorEq] at hc); (try (exfalso; first | contradiction | omega | exact absurd rfl hc | exact absurd (by decide) hc))))))
    refine At.own_nil cells 4 57 ?_
    (repeat' (first | refine zss ?_ | refine zsM ?_ | ((with_reducible first | apply At.c1 | apply At.c0); exact rfl; exact rfl; exact hwk _ _ none 0; exact ztk; kernel_rfl; rintro v' m' B' hm' ⟨rfl, rfl, p2, c2, L2, rfl, hL⟩; (try replace sl0 := sl0.mono hm'); (try replace sl1 := sl1.mono hm'); (try replace sl2 := sl2.mono hm'); (try (have hq0 : hm' = Mem.le_refl _ := rfl; clear hq0 hm')); obtain rfl := hL rfl) | ((with_reducible apply At.box (d := 5)); exact rfl; exact rfl; exact rfl; intro b5) | ((with_reducible apply At.alloc (d := 8)); exact rfl; exact rfl; intro b8) | (refine zsp ?_ ?_ <;> (intro hc; (try simp only [zhcs, reduceCtorEq] at hc); (try (exfalso; first | omega | contradiction | omega | exact absurd rfl hc | exact absurd (by decide) hc))))))
    all_goals ((with_reducible apply At.retV (B := [.own cells 4 57 _ _ _])); exact rfl; (repeat' (first | exact RVs.nil | (with_reducible apply RVs.cons) | exact rv_tmp (by rfl) | exact rv_cellN (by rfl) (by repeat constructor) (by rfl) (by rfl) (by rfl) | exact rv_cell1 (by rfl) (by repeat constructor) (by rfl) (by rfl))); exact zml; exact zkp; exact ⟨_, _, rfl, rfl⟩)
  · rw [show out a b (slc ws a b) = [] from if_neg h]
    refine Ct.enterV (by rfl) Tryz.func57 rfl Tryz.ntmps57 rfl (fun w0 Rest => ?_)
    (repeat' (first | refine zss ?_ | refine zsM ?_ | ((with_reducible apply At.box (d := 5)); exact rfl; exact rfl; exact rfl; intro b5) | ((with_reducible apply At.alloc (d := 8)); exact rfl; exact rfl; intro b8) | (refine zsp ?_ ?_ <;> (intro hc; (try simp only [zhcs, reduceCtorEq] at hc); (try (exfalso; first | contradiction | omega | exact absurd rfl hc | exact absurd (by decide) hc))))))
    refine At.own_nil cells 4 57 ?_
    (repeat' (first | refine zss ?_ | refine zsM ?_ | ((with_reducible first | apply At.c1 | apply At.c0); exact rfl; exact rfl; exact hwk _ _ none 0; exact ztk; kernel_rfl; rintro v' m' B' hm' ⟨rfl, rfl, p2, c2, L2, rfl, hL⟩; (try replace sl0 := sl0.mono hm'); (try replace sl1 := sl1.mono hm'); (try replace sl2 := sl2.mono hm'); (try (have hq0 : hm' = Mem.le_refl _ := rfl; clear hq0 hm'))) | ((with_reducible apply At.box (d := 5)); exact rfl; exact rfl; exact rfl; intro b5) | ((with_reducible apply At.alloc (d := 8)); exact rfl; exact rfl; intro b8) | (refine zsp ?_ ?_ <;> (intro hc; (try simp only [zhcs, reduceCtorEq] at hc); (try (exfalso; first | (first | omega | exact absurd hc h) | contradiction | omega | exact absurd rfl hc | exact absurd (by decide) hc))))))
    refine At.own_nil cells 4 57 ?_
    all_goals ((with_reducible apply At.retV (B := [.own cells 4 57 _ _ _])); exact rfl; (repeat' (first | exact RVs.nil | (with_reducible apply RVs.cons) | exact rv_tmp (by rfl) | exact rv_cellN (by rfl) (by repeat constructor) (by rfl) (by rfl) (by rfl) | exact rv_cell1 (by rfl) (by repeat constructor) (by rfl) (by rfl))); exact zml; exact zkp; exact ⟨_, _, rfl, rfl⟩)
end Mrg
end Go.Proofs.YtkoijdmlehkhbaaGreatDoor
namespace Go.Proofs.YtkoijdmlehkhbaaGreatDoor
open Go Go.J
attribute [local irreducible] At AtQ AtM AtM1 PR Ct Pu Rd Res.blk Res.own Res.ex RVs RV
namespace Mrg
open Ev
theorem someO {m : Mem} (pw : Option Addr) (cw : Nat) (ws : List Int) (k : Nat) (hk : ws.length = k) (pa : Option Addr) (ca : Nat) (a : List Ev) (pb : Option Addr) (cb : Nat) (b : List Ev)
    (hw : ws.length ≤ 1000) (ha : a.length ≤ 1000000) (hb : b.length ≤ 1000000) (sl1 : Sl m cells 4 pa ca a) (sl2 : Sl m cells 4 pb cb b) :
    Ct Tryz.prog 57 #[.slice pa a.length ca, .slice pb b.length cb, .slice pw k cw] m [.own fn 1 3 pw cw ws] (Post (out a b (slc ws a b)) (may a b)) := by
  subst hk
  exact Ct.freezeG inferInstance fun m' hm' sl => Ct.slice inferInstance (someP pw cw ws pa ca a pb cb b hw ha hb sl (sl1.mono hm') (sl2.mono hm'))
theorem out_congr {a b l l' : List Ev} (h : may a b = 0 → l = l') : out a b l = out a b l' := by
  unfold out
  split
  · rename_i h1; exact h h1
  · rfl
theorem twoP {m : Mem} (pa : Option Addr) (ca : Nat) (a : List Ev) (pb : Option Addr) (cb : Nat) (b : List Ev) (ha : a.length ≤ 1000000) (hb : b.length ≤ 1000000) (sl0 : Sl m cells 4 pa ca a) (sl1 : Sl m cells 4 pb cb b) :
    Ct Tryz.prog 23 #[.slice pa a.length ca, .slice pb b.length cb] m [] (Post (out a b (two a b)) (may a b)) := by
  rw [← out_congr slc_two]
  refine Ct.enterV (by rfl) Tryz.func23 rfl Tryz.ntmps23 rfl (fun w0 Rest => ?_)
  (repeat' (first | refine zss ?_ | refine zsM ?_ | ((with_reducible apply At.lit fn [0, 1, 2]); exact inferInstance; (iterate 7 exact rfl); intro _) | ((with_reducible first | apply At.c1 | apply At.c0); exact rfl; exact rfl; exact someO _ _ [0, 1, 2] 3 rfl pa ca a pb cb b (by decide) ha hb sl0 sl1; exact ztk; kernel_rfl; rintro v' m' B' hm' ⟨rfl, p2, c2, rfl, sl3⟩; (try replace sl0 := sl0.mono hm'); (try replace sl1 := sl1.mono hm'); (try replace sl3 := sl3.mono hm'); (try (have hq0 : hm' = Mem.le_refl _ := rfl; clear hq0 hm'))) | (refine zsp ?_ ?_ <;> (intro hc; (try simp only [zhcs, reduceCtorEq] at hc); (try (exfalso; first | contradiction | omega | exact absurd rfl hc | exact absurd (by decide) hc))))))
  all_goals ((with_reducible apply At.retV (B := [])); exact rfl; (repeat' (first | exact RVs.nil | (with_reducible apply RVs.cons) | exact rv_tmp (by rfl) | exact rv_cellN (by rfl) (by repeat constructor) (by rfl) (by rfl) (by rfl) | exact rv_cell1 (by rfl) (by repeat constructor) (by rfl) (by rfl))); exact zml; exact zkp; exact ⟨rfl, _, _, rfl, sl3⟩)
/-- a list as an element -/
structure SE where
  (l : List Ev) (p : Option Addr) (c : Nat)
  deriving Inhabited
abbrev sc (x : SE) : List Value := [.slice x.p x.l.length x.c]
instance : Fl sc 1 := ⟨fun _ => rfl, fun x v h => by simp at h; subst h; rfl, by decide⟩
end Mrg
end Go.Proofs.YtkoijdmlehkhbaaGreatDoor
namespace Go.Proofs.YtkoijdmlehkhbaaGreatDoor
open Go Go.J
namespace Mrg
open Ev
instance (a b : List Ev) : Decidable (Fit a b) := by unfold Fit; infer_instance
theorem right_sub {l l' : List Ev} (h : chk l = 0) (hs : ∀ e ∈ l', e ∈ l) (ha : Asc l') : chk l' = 0 := chk_zero.2 ⟨fun e he => (chk_zero.1 h).1 e (hs e he), ha⟩
theorem two_eq {a b l : List Ev} (h : may a b = 0) (hl : Asc l) (hm : ∀ e, e ∈ l ↔ e ∈ a ∨ e ∈ b) : two a b = l :=
  asc_ext (two_of h).1 hl fun e => ((two_of h).2 e).trans (hm e).symm
theorem may_sub {u l l' : List Ev} (hu : chk u = 0) (h1 : ∀ e ∈ l, e ∈ u) (a1 : Asc l) (h2 : ∀ e ∈ l', e ∈ u) (a2 : Asc l') : may l l' = 0 :=
  may_zero.2 ⟨right_sub hu h1 a1, right_sub hu h2 a2, fun x hx y hy e => asc_inj (chk_zero.1 hu).2 (h1 x hx) (h2 y hy) e⟩
end Mrg
end Go.Proofs.YtkoijdmlehkhbaaGreatDoor
namespace Go.J
open Go
theorem pr_max3 {P : Program} {n : Nat} {F : Fr} {C : World → Prop} {x y u : Operand} {k : IntKind} {p q r : Int} {ts : Array TypeId} (hx : ev F x = some (.int k p)) (hy : ev F y = some (.int k q)) (hu : ev F u = some (.int k r)) : PR P n F C (.call ⟨.builtin .max, #[x, y, u], ts⟩) (.int k (if (if p < q then q else p) < r then r else if p < q then q else p)) := fun _ _ _ _ _ a w ha _ => by
  simp [execOp, resolve, invoke, builtin, ha.ev hx, ha.ev hy, ha.ev hu, Builtin.max_, Builtin.max2]
end Go.J
namespace Go.Proofs.YtkoijdmlehkhbaaGreatDoor
open Go Go.J
attribute [local irreducible] At AtQ AtM AtM1 PR Ct Pu Rd Res.blk Res.own Res.ex RVs RV
namespace Tr
open Slot Ti Se St Win Gr Sv
open Fo hiding pt emp
def q1 (w : List Int) (i : Nat) : Bool := !decide (w[i]! % 3 = 1)
def q2 (w : List Int) (i : Nat) : Bool := !decide (w[i]! % 3 = 0)
def q3 (_ : Nat) : Bool := true
abbrev wb (b : Nat) (pw : Option Addr) (n cw : Nat) : Res := .blk b 75 [.slice pw n cw]
abbrev pb (b : Nat) : Value := .pointer (some ⟨b, 0, none⟩)
theorem saw1 {m : Mem} (b i : Nat) (pw : Option Addr) (cw : Nat) (w : List Int) (hi : i < w.length) (hw : ∀ x ∈ w, 0 ≤ x ∧ x ≤ 255) (sl1 : Sl m fb 1 pw cw w) :
    Ct Tryz.prog 20 #[.int .i64 (i : Int), pb b] m [wb b pw w.length cw] (fun v m' B => v = .bool (q1 w i) ∧ m = m' ∧ B = [wb b pw w.length cw]) := by
  have hx := hw _ (Ls.mem! hi)
  unfold q1
  refine Ct.enterV (by rfl) Tryz.func20 rfl Tryz.ntmps20 rfl (fun w0 Rest => ?_)
  (repeat' (first | refine zss ?_ | refine zsM ?_ | (refine zsp ?_ ?_ <;> (intro hc; (try simp only [zhcs, reduceCtorEq] at hc); (try (exfalso; first | omega | contradiction | omega | exact absurd rfl hc | exact absurd (by decide) hc))))))
  all_goals ((with_reducible apply At.retB1 (B := [wb b pw w.length cw])); exact rfl; exact rfl; exact zml; exact zkp; exact ⟨rfl, rfl, rfl⟩)
theorem saw2 {m : Mem} (b i : Nat) (pw : Option Addr) (cw : Nat) (w : List Int) (hi : i < w.length) (hw : ∀ x ∈ w, 0 ≤ x ∧ x ≤ 255) (sl1 : Sl m fb 1 pw cw w) :
    Ct Tryz.prog 21 #[.int .i64 (i : Int), pb b] m [wb b pw w.length cw] (fun v m' B => v = .bool (q2 w i) ∧ m = m' ∧ B = [wb b pw w.length cw]) := by
  have hx := hw _ (Ls.mem! hi)
  unfold q2
  refine Ct.enterV (by rfl) Tryz.func21 rfl Tryz.ntmps21 rfl (fun w0 Rest => ?_)
  (repeat' (first | refine zss ?_ | refine zsM ?_ | (refine zsp ?_ ?_ <;> (intro hc; (try simp only [zhcs, reduceCtorEq] at hc); (try (exfalso; first | omega | contradiction | omega | exact absurd rfl hc | exact absurd (by decide) hc))))))
  all_goals ((with_reducible apply At.retB1 (B := [wb b pw w.length cw])); exact rfl; exact rfl; exact zml; exact zkp; exact ⟨rfl, rfl, rfl⟩)
theorem saw3 {m : Mem} (i : Nat) (R0 : Res) : Ct Tryz.prog 22 #[.int .i64 (i : Int)] m [R0] (fun v m' B => v = .bool true ∧ m = m' ∧ B = [R0]) := by
  refine Ct.enterV (by rfl) Tryz.func22 rfl Tryz.ntmps22 rfl (fun w0 Rest => ?_)
  (repeat' (first | refine zss ?_ | refine zs0 ?_ | (refine zsp ?_ ?_ <;> (intro hc; (try simp only [zhcs, reduceCtorEq] at hc); (try (exfalso; first | omega | contradiction | omega | exact absurd rfl hc | exact absurd (by decide) hc))))))
  all_goals ((with_reducible apply At.retB1 (B := [R0])); exact rfl; exact rfl; exact zml; exact zkp; exact ⟨rfl, rfl, rfl⟩)
/-- what both have is all -/
theorem two_pk {w : List Int} {l : List Ev} (hc : Mrg.chk l = 0) : Mrg.may (pk (q1 w) l l.length) (pk (q2 w) l l.length) = 0 ∧ Mrg.two (pk (q1 w) l l.length) (pk (q2 w) l l.length) = l := by
  have ha := (Mrg.chk_zero.1 hc).2
  have s1 := (pk_sub (q1 w) l l.length (Nat.le_refl _)).trans (List.take_sublist _ _)
  have s2 := (pk_sub (q2 w) l l.length (Nat.le_refl _)).trans (List.take_sublist _ _)
  have hm := Mrg.may_sub hc (fun e he => s1.subset he) (ha.sublist s1) (fun e he => s2.subset he) (ha.sublist s2)
  refine ⟨hm, Mrg.two_eq hm ha fun e => ⟨fun he => ?_, fun he => he.elim (fun h => s1.subset h) (fun h => s2.subset h)⟩⟩
  obtain ⟨i, hi, rfl⟩ := List.mem_iff_getElem.1 he
  by_cases h1 : w[i]! % 3 = 1
  · refine .inr (pk_mem.2 ⟨i, hi, ?_, getElem!_pos l i hi⟩)
    unfold q2
    rw [decide_eq_false (by omega)]; rfl
  · refine .inl (pk_mem.2 ⟨i, hi, ?_, getElem!_pos l i hi⟩)
    unfold q1
    rw [decide_eq_false h1]; rfl
theorem twoL {m : Mem} (w : List Int) (l : List Ev) (x y : Lst Ev) (hx : x.l = pk (q1 w) l l.length) (hy : y.l = pk (q2 w) l l.length) (hc : Mrg.chk l = 0) (hl : l.length ≤ 1000) (sl0 : Sl m Ev.cells 4 x.p x.c x.l) (sl1 : Sl m Ev.cells 4 y.p y.c y.l) :
    Ct Tryz.prog 23 #[x.v, y.v] m [] (fun v m' B => B = [] ∧ ∃ p c, v = .tuple #[.slice p l.length c, .int .i64 0] ∧ Sl m' Ev.cells 4 p c l) := by
  obtain ⟨h1, h2⟩ := two_pk (w := w) hc
  have s1 := (pk_sub (q1 w) l l.length (Nat.le_refl _)).length_le
  have s2 := (pk_sub (q2 w) l l.length (Nat.le_refl _)).length_le
  rw [List.take_length] at s1 s2
  have k := Mrg.twoP (m := m) x.p x.c x.l y.p y.c y.l (by rw [hx]; omega) (by rw [hy]; omega) sl0 sl1
  rw [← hx, ← hy] at h1 h2
  have e2 : Mrg.out x.l y.l (Mrg.two x.l y.l) = l := by rw [h2]; exact if_pos h1
  rw [e2, h1] at k
  exact k
theorem sameL {m : Mem} (p : Option Addr) (c : Nat) (q : Option Addr) (d : Nat) (l : List Ev) (hl : l.length ≤ 1000000) (sl0 : Sl m Ev.cells 4 p c l) (sl1 : Sl m Ev.cells 4 q d l) :
    Rd Tryz.prog 25 #[.slice p l.length c, .slice q l.length d] m [] (.bool true) := by
  have k := Mrg.same (m := m) p c l q d l hl hl sl0 sl1
  rwa [decide_eq_true rfl] at k
structure PS where
  (k : Nat) (m : Mem) (x : Ser)
structure FS where
  (j : Nat) (p : Option Addr) (c : Nat)
theorem filt_snoc (g : Ev → Bool) {l : List Ev} {j : Nat} (h : j < l.length) : (l.take (j + 1)).filter g = (l.take j).filter g ++ if g l[j]! = true then [l[j]!] else [] := by
  rw [Ls.take_snoc h, List.filter_append, List.filter_cons, List.filter_nil]
/-- what is handed in -/
structure Arg (K : Cfg) (l : List Ev) (w : List Int) : Prop where
  ft : ft K
  r : (l.length : Int) ≤ K.r
  len : l.length ≤ 20
  lw : l.length ≤ w.length
  ne : l ≠ []
  chk : Mrg.chk l = 0
  st : ∀ e ∈ l, e.S = false
  V : ∀ e ∈ l, e.V < 18446744073709551616
  bw : ∀ x ∈ w, 0 ≤ x ∧ x ≤ 255
theorem Arg.good {K : Cfg} {l : List Ev} {w : List Int} (h : Arg K l w) : Gr.Good l := by
  obtain ⟨g1, g2⟩ := Mrg.chk_zero.1 h.chk
  exact ⟨fun e he => ⟨g1 e he, h.V e he⟩, g2⟩
end Tr
end Go.Proofs.YtkoijdmlehkhbaaGreatDoor
namespace Go.Proofs.YtkoijdmlehkhbaaGreatDoor
open Go.Sort
namespace Qu
/-- a right fraction of small numbers -/
def Sm (p : Nat × Nat) : Prop := p.1 < 18446744073709551616 ∧ p.2 < 18446744073709551616 ∧ 0 < p.2 ∧ Nat.gcd p.1 p.2 = 1
abbrev S : Type := { p : Nat × Nat // Sm p }
instance instS : Inhabited S := ⟨⟨(0, 1), by decide, by decide, by decide, by decide⟩⟩
def lq (x y : Nat × Nat) : Bool := decide (x.1 * y.2 ≤ y.1 * x.2)
def cfi (x y : Nat × Nat) : Int := if x.1 * y.2 < y.1 * x.2 then -1 else if y.1 * x.2 < x.1 * y.2 then 1 else 0
def cf (x y : S) : Int := cfi x.1 y.1
theorem lt_of {x y : S} : ltOf cf x y = decide (x.1.1 * y.1.2 < y.1.1 * x.1.2) := by
  unfold ltOf cf cfi
  by_cases h : x.1.1 * y.1.2 < y.1.1 * x.1.2
  · rw [if_pos h]; simp [h]
  · rw [if_neg h]
    by_cases h2 : y.1.1 * x.1.2 < x.1.1 * y.1.2
    · rw [if_pos h2]; simp [h]
    · rw [if_neg h2]; simp [h]
theorem tr (a b c d e f : Nat) (hd : 0 < d) (h1 : a * d ≤ c * b) (h2 : c * f ≤ e * d) : a * f ≤ e * b := by
  have h : d * (a * f) ≤ d * (e * b) :=
    calc d * (a * f) = (a * d) * f := by rw [← Nat.mul_assoc, Nat.mul_comm d a]
      _ ≤ (c * b) * f := Nat.mul_le_mul_right _ h1
      _ = (c * f) * b := Nat.mul_right_comm _ _ _
      _ ≤ (e * d) * b := Nat.mul_le_mul_right _ h2
      _ = d * (e * b) := by rw [Nat.mul_comm e d, Nat.mul_assoc]
  exact Nat.le_of_mul_le_mul_left h hd
theorem trs (a b c d e f : Nat) (hf : 0 < f) (h1 : a * d < c * b) (h2 : c * f ≤ e * d) : a * f < e * b := by
  have h : d * (a * f) < d * (e * b) :=
    calc d * (a * f) = (a * d) * f := by rw [← Nat.mul_assoc, Nat.mul_comm d a]
      _ < (c * b) * f := Nat.mul_lt_mul_of_pos_right h1 hf
      _ = (c * f) * b := Nat.mul_right_comm _ _ _
      _ ≤ (e * d) * b := Nat.mul_le_mul_right _ h2
      _ = d * (e * b) := by rw [Nat.mul_comm e d, Nat.mul_assoc]
  exact Nat.lt_of_mul_lt_mul_left h
theorem lq_anti {x y : Nat × Nat} (hx : Sm x) (hy : Sm y) (h1 : lq x y = true) (h2 : lq y x = true) : x = y := by
  have e : x.1 * y.2 = y.1 * x.2 := Nat.le_antisymm (of_decide_eq_true h1) (of_decide_eq_true h2)
  obtain ⟨a, b⟩ := x
  obtain ⟨c, d⟩ := y
  have hbd : b ∣ d := Nat.Coprime.dvd_of_dvd_mul_left (show Nat.Coprime b a from (Nat.gcd_comm b a).trans hx.2.2.2) ⟨c, by rw [Nat.mul_comm b c]; exact e⟩
  have hdb : d ∣ b := Nat.Coprime.dvd_of_dvd_mul_left (show Nat.Coprime d c from (Nat.gcd_comm d c).trans hy.2.2.2) ⟨a, by rw [Nat.mul_comm d a]; exact e.symm⟩
  have h : b = d := Nat.dvd_antisymm hbd hdb
  subst h
  have : a = c := Nat.eq_of_mul_eq_mul_right hx.2.2.1 e
  rw [this]
theorem swo : Sort.SWO (ltOf cf) where
  irrefl x := by rw [lt_of]; exact decide_eq_false (Nat.lt_irrefl _)
  trans x y z h1 h2 := by
    rw [lt_of] at *
    exact decide_eq_true (trs _ _ _ _ _ _ z.2.2.2.1 (of_decide_eq_true h1) (Nat.le_of_lt (of_decide_eq_true h2)))
  ntrans x y z h1 h2 := by
    rw [lt_of] at *
    have h1 := Nat.not_lt.1 (of_decide_eq_false h1)
    have h2 := Nat.not_lt.1 (of_decide_eq_false h2)
    exact decide_eq_false (Nat.not_lt.2 (tr _ _ _ _ _ _ y.2.2.2.1 h2 h1))
theorem not_lt_of (x y : S) : (!ltOf cf y x) = lq x.1 y.1 := by
  rw [lt_of]
  unfold lq
  by_cases h : y.1.1 * x.1.2 < x.1.1 * y.1.2
  · rw [decide_eq_true h, decide_eq_false (Nat.not_le.2 h)]; rfl
  · rw [decide_eq_false h, decide_eq_true (Nat.not_lt.1 h)]; rfl
theorem cf_T (x y : S) (h1 : ltOf cf x y = false) (h2 : ltOf cf y x = false) : x = y := by
  have k1 := not_lt_of y x
  have k2 := not_lt_of x y
  rw [h1] at k1
  rw [h2] at k2
  exact Subtype.ext (lq_anti x.2 y.2 k2.symm k1.symm)
def srt (l : List (Nat × Nat)) : List (Nat × Nat) := l.mergeSort lq
theorem srt_map (L : List S) : (L.mergeSort fun x y => !ltOf cf y x).map Subtype.val = srt (L.map Subtype.val) :=
  List.map_mergeSort fun a _ b _ => not_lt_of a b
theorem lift {l : List (Nat × Nat)} (h : ∀ p ∈ l, Sm p) : ∃ L : List S, l = L.map Subtype.val := by
  refine ⟨l.attach.map fun p => ⟨p.1, h p.1 p.2⟩, ?_⟩
  rw [List.map_map]
  exact (List.attach_map_subtype_val l).symm
theorem srt_perm (l : List (Nat × Nat)) : (srt l).Perm l := List.mergeSort_perm _ _
theorem srt_len (l : List (Nat × Nat)) : (srt l).length = l.length := (srt_perm l).length_eq
theorem srt_mem {l : List (Nat × Nat)} {p : Nat × Nat} : p ∈ srt l ↔ p ∈ l := (srt_perm l).mem_iff
/-- which one a part of n ends with -/
def up (x d : Nat) : Nat := if x % d = 0 then x / d else x / d + 1
def rk (n num den : Nat) : Nat := max (up (n * num) den) 1
theorem up_le {x d k : Nat} (hd : 0 < d) : up x d ≤ k ↔ x ≤ k * d := by
  unfold up
  have e := Nat.div_add_mod x d
  have hm := Nat.mod_lt x hd
  have hk : k * d = d * k := Nat.mul_comm _ _
  split
  · rename_i h
    rw [h, Nat.add_zero] at e
    constructor
    · intro hx
      have := Nat.mul_le_mul_left d hx
      omega
    · intro hx
      exact Nat.div_le_of_le_mul (by omega)
  · rename_i h
    constructor
    · intro hx
      have h1 := Nat.mul_le_mul_left d hx
      rw [Nat.mul_add, Nat.mul_one] at h1
      omega
    · intro hx
      refine Nat.succ_le_of_lt ?_
      refine (Nat.div_lt_iff_lt_mul hd).2 ?_
      have : x ≠ k * d := by
        rintro rfl
        exact h (Nat.mul_mod_left k d)
      omega
theorem rk_le {n num den : Nat} (hn : 1 ≤ n) (hd : 0 < den) (h : num ≤ den) : rk n num den ≤ n :=
  Nat.max_le.2 ⟨(up_le hd).2 (Nat.mul_le_mul_left _ h), hn⟩
theorem rk_one (n num den : Nat) : 1 ≤ rk n num den := Nat.le_max_right _ _
end Qu
end Go.Proofs.YtkoijdmlehkhbaaGreatDoor
namespace Go.Proofs.YtkoijdmlehkhbaaGreatDoor
open Go Go.J Go.RowKit Go.Sort
namespace Qu
section
variable {α : Type} [Inhabited α]
theorem flat_get {β : Type} {f : β → List Value} {g : α → β} {enc : α → List Value} {k : Nat} (hf : ∀ x, (f x).length = k) (he : ∀ x, f (g x) = enc x) (L : List α) {t : Nat} (h : t < L.length * k) :
    ((L.map g).flatMap f)[t]? = some ((flatK enc k L.toArray)[t]!) := by
  have k0 : 0 < k := by
    rcases Nat.eq_zero_or_pos k with h0 | h0
    · subst h0; simp at h
    · exact h0
  have hi : t / k < L.length := (Nat.div_lt_iff_lt_mul k0).2 h
  have hj := Nat.mod_lt t k0
  have e : ((L.map g).flatMap f) = L.flatMap enc := by
    rw [List.flatMap_map]
    congr 1
    exact funext he
  have hl : ∀ x, (enc x).length = k := fun x => by rw [← he, hf]
  rw [e, get_flatK enc k L.toArray t (by simpa using h)]
  have := flatMap_get hl L (t / k) (t % k) hi hj
  rw [Nat.div_add_mod' t k] at this
  rw [this]
  have e2 : L.toArray[t / k]! = L[t / k]! := by simp
  have hh : t % k < (enc L[t / k]!).length := by rw [hl]; exact hj
  rw [e2, List.getElem?_eq_getElem hh, getElem!_pos (enc L[t / k]!) (t % k) hh]
/-- what a world of the sort's is to one who owns the row -/
theorem own_sorted {P : Program} {β : Type} {fn : FuncId} {fv : Value} {f : β → List Value} {g : α → β} {enc : α → List Value} {k : Nat} (hf : ∀ x, (f x).length = k) (he : ∀ x, f (g x) = enc x) (h1 : ∀ x, ∀ v ∈ enc x, v.oneCell' = true)
    (so : Array α → Array α) (hso : ∀ d, (so d).size = d.size)
    (hN : ∀ (p : Option Addr) (cap : Nat) (w : World), Calls P fn #[.slice p 0 cap, fv] w fun e w' => e = .returned (.tuple #[]) ∧ w' = w)
    (hS : ∀ (blk off cap : Nat) (d : Array α) (w : World), HoldsK enc k w blk off d → blk < w.heap.size → d.size < 4611686018427387904 → Calls P fn #[.slice (some ⟨blk, off, none⟩) d.size cap, fv] w fun e w' => e = .returned (.tuple #[]) ∧ ∃ n os, w' = sortWorldK enc k w blk off n (so d) os)
    (m : Mem) (p : Option Addr) (c : Nat) (E : TypeId) (L : List α) (hL : L.length < 4611686018427387904) :
    Ct P fn #[.slice p L.length c, fv] m [.own f k E p c (L.map g)] fun v m' B => v = .tuple #[] ∧ m = m' ∧ B = [.own f k E p c ((so L.toArray).toList.map g)] := by
  intro w0 Rest w hw
  obtain ⟨s, ⟨s1, s2, hs1, hs2, hd, hs⟩, hm⟩ := hw.res
  rcases hs1 with ⟨rfl, rfl, hl, hn⟩ | ⟨b, o, cur, rfl, h2, h3, h4, h5, h6, h7⟩
  · have hl' : L = [] := List.map_eq_nil_iff.1 hl
    subst hl'
    refine (hN none 0 w).mono ?_
    rintro e w' ⟨rfl, rfl⟩
    have e0 : (so (#[] : Array α)).toList = [] := by
      have := hso #[]
      rw [← Array.length_toList] at this
      exact List.length_eq_zero_iff.1 this
    refine ⟨_, m, [_], rfl, Mem.le_refl m, ⟨rfl, rfl, rfl⟩, hw.os, hw.tape, hw.output, hw.size, hw.dr, hw.mem, s, ⟨s1, s2, .inl ⟨rfl, rfl, ?_, hn⟩, hs2, hd, hs⟩, hm⟩
    show ((so #[]).toList.map g) = []
    rw [e0]
    rfl
  · rw [List.length_map] at h3 h6
    have hH : HoldsK enc k w b o L.toArray := by
      intro j hj
      rw [size_flatK] at hj
      refine ⟨?_, by simp [World.frozen?, h2]⟩
      have hj' : j < L.length * k := by simpa using hj
      rw [World.cell_of h2, h6 j hj', flat_get hf he L hj']
      rfl
    have hblk : b < w.heap.size := (Array.getElem?_eq_some_iff.1 h2).1
    have hc := hS b o c L.toArray w hH hblk (by simpa using hL)
    rw [show (L.toArray).size = L.length from List.size_toArray] at hc
    refine hc.mono ?_
    rintro e w' ⟨rfl, n, os, rfl⟩
    have hb : ∀ i, i < w.heap.size → i ≠ b → (sortWorldK enc k w b o n (so L.toArray) os).heap[i]? = w.heap[i]? := fun i hi hne => by
      have e1 : (sortWorldK enc k w b o n (so L.toArray) os).heap[i]? = (putRowK enc k (Sort.ahead w n) b o (so L.toArray)).heap[i]? := Array.getElem?_append_left (by rw [size_putRowK]; exact hi)
      rw [e1]
      show (w.heap.modify b _)[i]? = _
      rw [Array.getElem?_modify, if_neg (Ne.symm hne)]
    have hbb : (sortWorldK enc k w b o n (so L.toArray) os).heap[b]? = some (.cells (putCells id o (flatK enc k (so L.toArray)) cur) E (0, 0)) := by
      have e1 : (sortWorldK enc k w b o n (so L.toArray) os).heap[b]? = (putRowK enc k (Sort.ahead w n) b o (so L.toArray)).heap[b]? := Array.getElem?_append_left (by rw [size_putRowK]; exact hblk)
      rw [e1]
      show (w.heap.modify b _)[b]? = _
      rw [Array.getElem?_modify, if_pos rfl, h2]
      rfl
    have hsz : w.heap.size ≤ (sortWorldK enc k w b o n (so L.toArray) os).heap.size := size_sortWorldK_c enc k w b o n _ os
    have hlen : (so L.toArray).size = L.length := by rw [hso]; exact List.size_toArray
    refine ⟨_, m, [_], rfl, Mem.le_refl m, ⟨rfl, rfl, rfl⟩, hw.os, hw.tape, hw.output, Nat.le_trans hw.size hsz, Nat.le_trans hw.dr (Nat.le_add_right _ _), fun i o' hi => ?_, s, ⟨s1, s2, .inr ⟨b, o, _, rfl, hbb, ?_, h4, ?_, fun j hj => ?_, h7⟩, Sat.loc hs2 fun i hi => ?_, hd, hs⟩, hm⟩
    · have h0 := hw.mem i o' hi
      rw [hb i (Array.getElem?_eq_some_iff.1 h0).1 ?_]
      · exact h0
      · rintro rfl
        rw [hm i ((hs i).2 (.inl ((h7 i).2 rfl)))] at hi
        cases hi
    · rw [List.length_map, Array.length_toList, hlen]; exact h3
    · rw [putCells, Array.size_mapIdx]; exact h5
    · rw [List.length_map, Array.length_toList, hlen] at hj
      have hjc : j < (so L.toArray).toList.length * k := by rw [Array.length_toList, hlen]; exact hj
      have hlt : o + j < cur.size := by
        have := Nat.mul_le_mul_right k h3
        omega
      rw [flat_get hf he _ hjc, putCells, Array.getElem?_mapIdx, Array.getElem?_eq_getElem hlt, Option.map_some, if_pos ⟨Nat.le_add_right _ _, by rw [size_flatK, hlen]; omega⟩, Nat.add_sub_cancel_left]
      rfl
    · have hlt : i < w.heap.size := Sat.dom hs2 hi
      refine hb i hlt ?_
      rintro rfl
      exact hd i ⟨(h7 i).2 rfl, hi⟩
end
end Qu
end Go.Proofs.YtkoijdmlehkhbaaGreatDoor
namespace Go.Proofs.YtkoijdmlehkhbaaGreatDoor
open Go Go.Shelf
set_option maxRecDepth 100000
def sllaysf0n6_ren : Go.Shelf.Ren := ⟨fun | 6 => 72 | 15 => 128 | 14 => 127 | 28 => 183 | 29 => 184 | 20 => 175 | 21 => 176 | 22 => 177 | 23 => 178 | 24 => 179 | 25 => 180 | 26 => 181 | 27 => 182 | 46 => 213 | 47 => 214 | 48 => 215 | 49 => 216 | 50 => 217 | 57 => 227 | n => n, fun | 22 => 152 | 24 => 157 | 25 => 158 | 3 => 3 | 39 => 211 | 0 => 0 | 53 => 268 | 55 => 39 | 4 => 4 | 46 => 261 | 45 => 260 | 50 => 265 | 5 => 5 | 9 => 9 | 66 => 295 | 70 => 299 | 76 => 307 | 77 => 308 | n => n, fun | n => n⟩
theorem sllaysf0n6 : Go.Proofs.SlLaysF0.n6 Tryz.prog sllaysf0n6_ren := {
  mixed := by kernel_rfl
  f6 := ⟨Tryz.f72.name, by decide, Tryz.func72.trans (congrArg some (by kernel_rfl))⟩
  f14 := ⟨Tryz.f127.name, by decide, Tryz.func127.trans (congrArg some (by kernel_rfl))⟩
  f15 := Tryz.func128.trans (congrArg some (by kernel_rfl))
  f20 := ⟨Tryz.f175.name, by decide, Tryz.func175.trans (congrArg some (by kernel_rfl))⟩
  f21 := ⟨Tryz.f176.name, by decide, Tryz.func176.trans (congrArg some (by kernel_rfl))⟩
  f22 := ⟨Tryz.f177.name, by decide, Tryz.func177.trans (congrArg some (by kernel_rfl))⟩
  f23 := ⟨Tryz.f178.name, by decide, Tryz.func178.trans (congrArg some (by kernel_rfl))⟩
  f24 := ⟨Tryz.f179.name, by decide, Tryz.func179.trans (congrArg some (by kernel_rfl))⟩
  f25 := ⟨Tryz.f180.name, by decide, Tryz.func180.trans (congrArg some (by kernel_rfl))⟩
  f26 := ⟨Tryz.f181.name, by decide, Tryz.func181.trans (congrArg some (by kernel_rfl))⟩
  f27 := ⟨Tryz.f182.name, by decide, Tryz.func182.trans (congrArg some (by kernel_rfl))⟩
  f28 := Tryz.func183.trans (congrArg some (by kernel_rfl))
  f29 := Tryz.func184.trans (congrArg some (by kernel_rfl))
  f46 := ⟨Tryz.f213.name, by decide, Tryz.func213.trans (congrArg some (by kernel_rfl))⟩
  f47 := Tryz.func214.trans (congrArg some (by kernel_rfl))
  f48 := Tryz.func215.trans (congrArg some (by kernel_rfl))
  f49 := ⟨Tryz.f216.name, by decide, Tryz.func216.trans (congrArg some (by kernel_rfl))⟩
  f50 := ⟨Tryz.f217.name, by decide, Tryz.func217.trans (congrArg some (by kernel_rfl))⟩
  f57 := ⟨Tryz.f227.name, by decide, Tryz.func227.trans (congrArg some (by kernel_rfl))⟩
  t0 := Tryz.underlying0
  a0 := Tryz.isAgg0
  z0 := Tryz.sizeOf0
  v0 := Tryz.zeroValue0
  t3 := Tryz.underlying3
  a3 := Tryz.isAgg3
  z3 := Tryz.sizeOf3
  v3 := Tryz.zeroValue3
  t4 := Tryz.underlying4
  a4 := Tryz.isAgg4
  z4 := Tryz.sizeOf4
  v4 := Tryz.zeroValue4
  t5 := Tryz.underlying5
  a5 := Tryz.isAgg5
  z5 := Tryz.sizeOf5
  v5 := Tryz.zeroValue5
  t9 := Tryz.underlying9
  a9 := Tryz.isAgg9
  z9 := Tryz.sizeOf9
  v9 := Tryz.zeroValue9
  t22 := Tryz.underlying152
  a22 := Tryz.isAgg152
  z22 := Tryz.sizeOf152
  v22 := Tryz.zeroValue152
  t25 := Tryz.underlying158
  a25 := Tryz.isAgg158
  z25 := Tryz.sizeOf158
  v25 := Tryz.zeroValue158
  t39 := Tryz.underlying211
  a39 := Tryz.isAgg211
  z39 := Tryz.sizeOf211
  v39 := Tryz.zeroValue211
  t45 := Tryz.underlying260
  a45 := Tryz.isAgg260
  z45 := Tryz.sizeOf260
  v45 := Tryz.zeroValue260
  t46 := Tryz.underlying261
  a46 := Tryz.isAgg261
  z46 := Tryz.sizeOf261
  v46 := Tryz.zeroValue261
  t50 := Tryz.underlying265
  a50 := Tryz.isAgg265
  z50 := Tryz.sizeOf265
  v50 := Tryz.zeroValue265
  t53 := Tryz.underlying268
  a53 := Tryz.isAgg268
  z53 := Tryz.sizeOf268
  v53 := Tryz.zeroValue268
  t55 := Tryz.underlying39
  a55 := Tryz.isAgg39
  z55 := Tryz.sizeOf39
  v55 := Tryz.zeroValue39
  t66 := Tryz.underlying295
  a66 := Tryz.isAgg295
  z66 := Tryz.sizeOf295
  v66 := Tryz.zeroValue295
  t70 := Tryz.underlying299
  a70 := Tryz.isAgg299
  z70 := Tryz.sizeOf299
  v70 := Tryz.zeroValue299
  t76 := Tryz.underlying307
  a76 := Tryz.isAgg307
  z76 := Tryz.sizeOf307
  v76 := Tryz.zeroValue307
  t77 := Tryz.underlying308
  a77 := Tryz.isAgg308
  z77 := Tryz.sizeOf308
  v77 := Tryz.zeroValue308 }
end Go.Proofs.YtkoijdmlehkhbaaGreatDoor
namespace Go.J
open Go Go.ChangeShapes Go.WideShapes Go.ChangeAt Go.RowKit
def memOf (W : World) : Mem := fun k => W.heap[k]?
theorem HW.init (W : World) : HW W (memOf W) [] W :=
  ⟨rfl, rfl, rfl, Nat.le_refl _, Nat.le_refl _, fun _ _ h => h, fun _ => False, fun _ h => h, fun _ h => h.elim⟩
theorem HW.below {W w' : World} {m' : Mem} {Rs : List Res} (h : HW W m' Rs w') (hm : (memOf W).le m') : Below W.heap.size W w' :=
  ⟨h.os, h.tape, h.output, h.size, fun k hk => by
    have hk' : W.heap[k]? = some W.heap[k] := Array.getElem?_eq_getElem hk
    rw [hk']
    exact h.mem k _ (hm k _ hk')⟩
theorem law_calls {P : Program} {f : FuncId} {args : Array Value} {W : World} (h : Ct P f args (memOf W) [] (fun v _ _ => v = .bool true)) :
    Calls P f args W fun e W' => e = .returned (.bool true) ∧ Below W.heap.size W W' :=
  (h W [] W (HW.init W)).mono fun _ _ ⟨_, _, _, he, hm, hv, hw⟩ => ⟨by rw [he, hv], hw.below hm⟩
/-- the arguments read as they did -/
theorem trodAll_below {H : Type} {enc : TypeId × Value → H} {P : Program} (hl : laidOutB P = true) {W W' : World} (hb : Below W.heap.size W W') :
    ∀ (ts : List TypeId) (vs : List Value) (ds : List (DataW H)) (ps : List MemPlace), (ts.all fun t => P.readableRec t && decide (t < P.types.size)) = true →
      DataW.TrodAll enc P W 0 (fun _ => true) true ts vs ds ps → (∀ x ∈ ps, x.block < W.heap.size) → DataW.TrodAll enc P W' 0 (fun b => decide (b < W.heap.size)) true ts vs ds ps
  | [], vs, ds, ps, _, h, _ => by
    obtain ⟨rfl, rfl, rfl⟩ := trodAll_nil h
    exact trodAll_mk0
  | t :: ts, vs, ds, ps, hr, h, hlt => by
    obtain ⟨v, vs', d, ds', p, q, rfl, rfl, rfl, h0, h1⟩ := trodAll_cons h
    simp only [List.all_cons, Bool.and_eq_true, decide_eq_true_eq] at hr
    exact trodAll_cons_mk (Below.trod hl hr.1.1 hr.1.2 h0 hb (fun x hx => hlt x (by simp [hx]))) (trodAll_below hl hb ts vs' ds' q hr.2 h1 (fun x hx => hlt x (by simp [hx])))
end Go.J
namespace Go.Proofs.YtkoijdmlehkhbaaGreatDoor
open Go Go.J
attribute [local irreducible] At AtQ AtM AtM1 PR Ct Pu Rd Res.blk Res.own Res.ex RVs RV
namespace Qu
open Wide
abbrev sm (p : Nat × Nat) : List Value := [.int .u64 (p.1 : Int), .int .u64 (p.2 : Int)]
abbrev sv (p : Nat × Nat) : Value := .agg (sm p).toArray
instance : Fl sm 2 := ⟨fun _ => rfl, fun x v h => by simp at h; rcases h with rfl | rfl <;> rfl, by decide⟩
theorem times_s (a b n : Nat) (ha : a < 18446744073709551616) (hn : n < 18446744073709551616) : Pu Tryz.prog 129 #[sv (a, b), .int .u64 (n : Int)] (wv (a * n)) := Pu.intro fun m => by
  have m1 := mul64 (a : Int) (n : Int) (by omega) (by omega) (by omega) (by omega)
  rw [← Int.natCast_mul] at m1
  generalize a * n = x at m1 ⊢
  refine Ct.enterV (by rfl) Tryz.func129 rfl Tryz.ntmps129 rfl (fun w0 Rest => ?_)
  (repeat' (first | refine zss ?_ | ((first | (with_reducible first | apply At.val | apply AtQ.val)); (exact zprA); exact rfl) | refine zs0 ?_ | ((with_reducible first | apply AtM1.callp | apply AtQ.callp | apply At.callp); kernel_rfl; exact rfl; exact rfl; exact m1) | ((with_reducible apply At.box (d := 2)); exact rfl; exact rfl; exact rfl; intro b2) | ((with_reducible apply At.alloc (d := 4)); exact rfl; exact rfl; intro b4) | (refine zsp ?_ ?_ <;> (intro hc; (try simp only [zhcs, reduceCtorEq] at hc); (try (exfalso; first | contradiction | omega | exact absurd rfl hc | exact absurd (by decide) hc))))))
  all_goals ((with_reducible apply At.retV (B := [])); exact rfl; (repeat' (first | exact RVs.nil | (with_reducible apply RVs.cons) | exact rv_tmp (by rfl) | exact rv_cellN (by rfl) (by repeat constructor) (by rfl) (by rfl) (by rfl) | exact rv_cell1 (by rfl) (by repeat constructor) (by rfl) (by rfl) | exact rv_cellA (by rfl) (by repeat constructor) (by rfl) (by rfl) zlq)); exact zml; exact zkp; exact ⟨wd_mk (by omega) (by omega), rfl, rfl⟩)
theorem compare_ (x y : Nat × Nat) (hx : Sm x) (hy : Sm y) : Pu Tryz.prog 73 #[sv x, sv y] (.int .i64 (cfi x y)) := Pu.intro fun m => by
  obtain ⟨a, b⟩ := x
  obtain ⟨c, d⟩ := y
  have k1 := times_s a b d hx.1 hy.2.1
  have k2 := times_s c d b hy.1 hx.2.1
  have k3 := less (a * d) (c * b)
  have k4 := less (c * b) (a * d)
  unfold cfi
  dsimp only
  clear hx hy
  generalize a * d = u at k1 k3 k4 ⊢
  generalize c * b = v at k2 k3 k4 ⊢
  by_cases h : u < v
  · rw [decide_eq_true h] at k3
    rw [if_pos h]
    clear h k4
    refine Ct.enterV (by rfl) Tryz.func73 rfl Tryz.ntmps73 rfl (fun w0 Rest => ?_)
    (repeat' (first | ((with_reducible apply At.mixed (id := 1) 12 (.q 0 (.q 1 (.q 2 (.q 3 (.q 4 (.q 5 (.q 6 (.q 7 (.b 8 9 (.l 9 (.x 10 (.x 11 .done))) (.l 8 (.x 10 (.x 11 .done))))))))))))); exact rfl; kernel_rfl; kernel_rfl; kernel_rfl) | refine zsx ?_ | refine zss ?_ | ((with_reducible apply AtM.bo); exact rfl; exact rfl; exact rfl) | ((first | (with_reducible first | apply At.val | apply AtQ.val) | ((with_reducible first | apply AtM1.valz | apply AtM1.val); exact rfl) | ((with_reducible apply AtM1.val); exact rfl)); (exact zprA); exact rfl) | refine zs0 ?_ | refine zx0 ?_ | ((with_reducible first | apply AtM1.callp | apply AtQ.callp | apply At.callp); kernel_rfl; exact rfl; exact rfl; exact k1) | ((with_reducible first | apply AtM1.callp | apply AtQ.callp | apply At.callp); kernel_rfl; exact rfl; exact rfl; exact k2) | ((with_reducible first | apply AtM1.callp | apply AtQ.callp | apply At.callp); kernel_rfl; exact rfl; exact rfl; exact k3) | ((with_reducible apply At.box (d := 2)); exact rfl; exact rfl; exact rfl; intro b2) | ((with_reducible apply At.box (d := 3)); exact rfl; exact rfl; exact rfl; intro b3) | ((with_reducible apply At.alloc (d := 5)); exact rfl; exact rfl; intro b5) | ((with_reducible apply At.alloc (d := 6)); exact rfl; exact rfl; intro b6) | (refine zsp ?_ ?_ <;> (intro hc; (try simp only [zhcs, reduceCtorEq] at hc); (try (exfalso; first | contradiction | omega | exact absurd rfl hc | exact absurd (by decide) hc))))))
    all_goals ((with_reducible apply At.retB1 (B := [])); exact rfl; exact rfl; exact zml; exact zkp; exact ⟨rfl, rfl, rfl⟩)
  · rw [decide_eq_false h] at k3
    rw [if_neg h]
    by_cases h2 : v < u
    · rw [decide_eq_true h2] at k4
      rw [if_pos h2]
      clear h h2
      refine Ct.enterV (by rfl) Tryz.func73 rfl Tryz.ntmps73 rfl (fun w0 Rest => ?_)
      (repeat' (first | ((with_reducible apply At.mixed (id := 1) 12 (.q 0 (.q 1 (.q 2 (.q 3 (.q 4 (.q 5 (.q 6 (.q 7 (.b 8 9 (.l 9 (.x 10 (.x 11 .done))) (.l 8 (.x 10 (.x 11 .done))))))))))))); exact rfl; kernel_rfl; kernel_rfl; kernel_rfl) | refine zsx ?_ | refine zss ?_ | ((with_reducible apply AtM.bo); exact rfl; exact rfl; exact rfl) | ((first | (with_reducible first | apply At.val | apply AtQ.val) | ((with_reducible first | apply AtM1.valz | apply AtM1.val); exact rfl) | ((with_reducible apply AtM1.val); exact rfl)); (exact zprA); exact rfl) | refine zs0 ?_ | refine zx0 ?_ | ((with_reducible first | apply AtM1.callp | apply AtQ.callp | apply At.callp); kernel_rfl; exact rfl; exact rfl; exact k1) | ((with_reducible first | apply AtM1.callp | apply AtQ.callp | apply At.callp); kernel_rfl; exact rfl; exact rfl; exact k2) | ((with_reducible first | apply AtM1.callp | apply AtQ.callp | apply At.callp); kernel_rfl; exact rfl; exact rfl; exact k3) | ((with_reducible first | apply AtM1.callp | apply AtQ.callp | apply At.callp); kernel_rfl; exact rfl; exact rfl; exact k4) | ((with_reducible apply At.box (d := 2)); exact rfl; exact rfl; exact rfl; intro b2) | ((with_reducible apply At.box (d := 3)); exact rfl; exact rfl; exact rfl; intro b3) | ((with_reducible apply At.alloc (d := 5)); exact rfl; exact rfl; intro b5) | ((with_reducible apply At.alloc (d := 6)); exact rfl; exact rfl; intro b6) | (refine zsp ?_ ?_ <;> (intro hc; (try simp only [zhcs, reduceCtorEq] at hc); (try (exfalso; first | contradiction | omega | exact absurd rfl hc | exact absurd (by decide) hc))))))
      all_goals ((with_reducible apply At.retB1 (B := [])); exact rfl; exact rfl; exact zml; exact zkp; exact ⟨rfl, rfl, rfl⟩)
    · rw [decide_eq_false h2] at k4
      rw [if_neg h2]
      clear h h2
      refine Ct.enterV (by rfl) Tryz.func73 rfl Tryz.ntmps73 rfl (fun w0 Rest => ?_)
      (repeat' (first | ((with_reducible apply At.mixed (id := 1) 12 (.q 0 (.q 1 (.q 2 (.q 3 (.q 4 (.q 5 (.q 6 (.q 7 (.b 8 9 (.l 9 (.x 10 (.x 11 .done))) (.l 8 (.x 10 (.x 11 .done))))))))))))); exact rfl; kernel_rfl; kernel_rfl; kernel_rfl) | refine zsx ?_ | refine zss ?_ | ((with_reducible apply AtM.bo); exact rfl; exact rfl; exact rfl) | ((first | (with_reducible first | apply At.val | apply AtQ.val) | ((with_reducible first | apply AtM1.valz | apply AtM1.val); exact rfl) | ((with_reducible apply AtM1.val); exact rfl)); (exact zprA); exact rfl) | refine zs0 ?_ | refine zx0 ?_ | ((with_reducible first | apply AtM1.callp | apply AtQ.callp | apply At.callp); kernel_rfl; exact rfl; exact rfl; exact k1) | ((with_reducible first | apply AtM1.callp | apply AtQ.callp | apply At.callp); kernel_rfl; exact rfl; exact rfl; exact k2) | ((with_reducible first | apply AtM1.callp | apply AtQ.callp | apply At.callp); kernel_rfl; exact rfl; exact rfl; exact k3) | ((with_reducible first | apply AtM1.callp | apply AtQ.callp | apply At.callp); kernel_rfl; exact rfl; exact rfl; exact k4) | ((with_reducible apply At.box (d := 2)); exact rfl; exact rfl; exact rfl; intro b2) | ((with_reducible apply At.box (d := 3)); exact rfl; exact rfl; exact rfl; intro b3) | ((with_reducible apply At.alloc (d := 5)); exact rfl; exact rfl; intro b5) | ((with_reducible apply At.alloc (d := 6)); exact rfl; exact rfl; intro b6) | (refine zsp ?_ ?_ <;> (intro hc; (try simp only [zhcs, reduceCtorEq] at hc); (try (exfalso; first | contradiction | omega | exact absurd rfl hc | exact absurd (by decide) hc))))))
      all_goals ((with_reducible apply At.retB1 (B := [])); exact rfl; exact rfl; exact zml; exact zkp; exact ⟨rfl, rfl, rfl⟩)
/-- what a call that changes nothing leaves of a world -/
theorem grown {P : Program} {f : FuncId} {args : Array Value} {V : Value} (h : Pu P f args V) (W : World) : Calls P f args W fun e w' => e = .returned V ∧ ∃ q os', w' = Go.Sort.grow (W.drewN q) os' := by
  unfold Pu Ct at h
  refine (h (memOf W) W [] W (HW.init W)).mono ?_
  rintro e w' ⟨v, m', B, rfl, hm, ⟨rfl, rfl, rfl⟩, hw⟩
  refine ⟨rfl, w'.drawn - W.drawn, w'.heap.extract W.heap.size w'.heap.size, ?_⟩
  have e0 : W.heap ++ w'.heap.extract W.heap.size w'.heap.size = w'.heap := by
    refine Array.ext_getElem? fun i => ?_
    have hs := hw.size
    by_cases hi : i < W.heap.size
    · rw [Array.getElem?_append_left hi]
      have := hw.mem i W.heap[i] (Array.getElem?_eq_getElem hi)
      rw [this, Array.getElem?_eq_getElem hi]
    · rw [Array.getElem?_append_right (Nat.le_of_not_lt hi), Array.getElem?_extract]
      have e1 : W.heap.size + (i - W.heap.size) = i := by omega
      rw [e1]
      split
      · rfl
      · rw [Array.getElem?_eq_none (by omega)]
  have h1 := hw.os
  have h2 := hw.tape
  have h3 := hw.output
  have h4 : W.drawn + (w'.drawn - W.drawn) = w'.drawn := by have := hw.dr; omega
  unfold Go.Sort.grow World.drewN
  dsimp only
  rw [e0, h4, ← h1, ← h2, ← h3]
theorem cmpLays (blk off size : Nat) (w : World) : Go.Proofs.CmpLays Tryz.prog 73 #[] (fun s : S => sm s.1) 2 cf blk off size w :=
  fun _ _ _ _ x y => grown (compare_ x.1 y.1 x.2 y.2) _
theorem sort_s {m : Mem} (p : Option Addr) (c : Nat) (L : List S) (hL : L.length < 4611686018427387904) :
    Ct Tryz.prog 72 #[.slice p L.length c, .func (.func 73) #[] #[]] m [.own sm 2 157 p c (L.map Subtype.val)] fun v m' B => v = .tuple #[] ∧ m = m' ∧ B = [.own sm 2 157 p c (srt (L.map Subtype.val))] := by
  have h := own_sorted (P := Tryz.prog) (fn := 72) (fv := .func (.func 73) #[] #[]) (f := sm) (g := Subtype.val) (enc := fun s : S => sm s.1) (k := 2)
    (fun _ => rfl) (fun _ => rfl) (fun x v hv => by simp at hv; rcases hv with rfl | rfl <;> rfl)
    (fun d => (d.toList.mergeSort fun x y => !ltOf cf y x).toArray) (fun d => by simp [List.length_mergeSort])
    (fun p cap w => AnyF.slices_SortFunc_none sllaysf0n6 p cap _ w)
    (fun blk off cap d w hH hblk hd => AnyQ.slices_SortFunc_total sllaysf0n6 2 Tryz.isAgg157 Tryz.sizeOf157 (fun s : S => sm s.1) (fun _ => rfl) (fun x v hv => by simp at hv; rcases hv with rfl | rfl <;> rfl) cf swo 73 #[] blk off cap d w
      (enters_of Tryz.func73 (by kernel_rfl) rfl) (cmpLays blk off d.size w) hH hblk hd cf_T)
    m p c 157 L hL
  dsimp only at h
  rw [← srt_map]
  exact h
end Qu
end Go.Proofs.YtkoijdmlehkhbaaGreatDoor
namespace Go.Proofs.YtkoijdmlehkhbaaGreatDoor
namespace Wide
/-- the state of a digit's search: q is not below the digit -/
structure Kn (u d y1 y0 q r : Nat) : Prop where
  eq : q * y1 + r = u
  ge : (u * 4294967296 + d) / (y1 * 4294967296 + y0) ≤ q
  lt : r < 4294967296
structure KnH (u d y1 y0 : Nat) : Prop where
  hu : u < y1 * 4294967296 + y0
  hd : d < 4294967296
  h1 : 2147483648 ≤ y1
  h2 : y1 < 4294967296
  h0 : y0 < 4294967296
theorem kn_ex (q y1 y0 : Nat) : q * (y1 * 4294967296 + y0) = q * y1 * 4294967296 + q * y0 := by rw [Nat.mul_add, ← Nat.mul_assoc]
theorem kn_digit {u d y1 y0 : Nat} (h : KnH u d y1 y0) : (u * 4294967296 + d) / (y1 * 4294967296 + y0) < 4294967296 := by
  have := h.hu; have := h.hd; have := h.h1
  rw [Nat.div_lt_iff_lt_mul (by omega)]
  omega
theorem kn_init {u d y1 y0 : Nat} (h : KnH u d y1 y0) : Kn u d y1 y0 (u / y1) (u % y1) := by
  have := h.hu; have := h.hd; have hy := h.h1; have := h.h2
  refine ⟨by rw [Nat.mul_comm]; exact Nat.div_add_mod u y1, ?_, Nat.lt_trans (Nat.mod_lt _ (by omega)) h.h2⟩
  apply Nat.le_of_lt_succ
  rw [Nat.div_lt_iff_lt_mul (by omega), kn_ex]
  have e := Nat.div_add_mod u y1
  have l := Nat.mod_lt u (show 0 < y1 by omega)
  rw [Nat.succ_mul, Nat.mul_comm (u / y1) y1]
  omega
theorem kn_stop {u d y1 y0 q r : Nat} (h : KnH u d y1 y0) (k : Kn u d y1 y0 q r) (hn : q * y0 ≤ r * 4294967296 + d) : (u * 4294967296 + d) / (y1 * 4294967296 + y0) = q := by
  have := h.h1; have := k.eq
  apply Nat.le_antisymm k.ge
  rw [Nat.le_div_iff_mul_le (by omega), kn_ex]
  omega
theorem kn_lt {u d y1 y0 q r : Nat} (h : KnH u d y1 y0) (k : Kn u d y1 y0 q r) (hn : 4294967296 ≤ q ∨ r * 4294967296 + d < q * y0) : (u * 4294967296 + d) / (y1 * 4294967296 + y0) < q := by
  have h1 := h.h1; have h2 := k.eq
  rcases hn with hn | hn
  · exact Nat.lt_of_lt_of_le (kn_digit h) hn
  · rw [Nat.div_lt_iff_lt_mul (by omega), kn_ex, ← h2, Nat.add_mul, Nat.add_assoc]
    exact Nat.add_lt_add_left hn _
theorem kn_le {u d y1 y0 q r : Nat} (h : KnH u d y1 y0) (k : Kn u d y1 y0 q r) : q ≤ 4294967297 := by
  have h1 := h.h1; have h2 := h.hu; have h3 := h.h0; have h4 := k.eq
  apply Classical.byContradiction
  intro hn
  have : 4294967298 * y1 ≤ q * y1 := Nat.mul_le_mul_right _ (by omega)
  omega
theorem kn_step {u d y1 y0 q r : Nat} (h : KnH u d y1 y0) (k : Kn u d y1 y0 q r) (hn : 4294967296 ≤ q ∨ r * 4294967296 + d < q * y0) (hr : r + y1 < 4294967296) : 0 < q ∧ Kn u d y1 y0 (q - 1) (r + y1) := by
  have l := kn_lt h k hn
  have hq0 : 0 < q := Nat.lt_of_le_of_lt (Nat.zero_le _) l
  obtain ⟨p, rfl⟩ : ∃ p, q = p + 1 := ⟨q - 1, by omega⟩
  have := k.eq
  rw [Nat.succ_mul] at this
  rw [Nat.add_sub_cancel]
  exact ⟨by omega, by omega, by omega, hr⟩
theorem kn_break {u d y1 y0 q r : Nat} (h : KnH u d y1 y0) (k : Kn u d y1 y0 q r) (hn : 4294967296 ≤ q ∨ r * 4294967296 + d < q * y0) (hr : 4294967296 ≤ r + y1) : (u * 4294967296 + d) / (y1 * 4294967296 + y0) = q - 1 := by
  have l := kn_lt h k hn
  have le := kn_le h k
  have h1 := h.h1; have h3 := h.h0
  have hq0 : 0 < q := Nat.lt_of_le_of_lt (Nat.zero_le _) l
  obtain ⟨p, rfl⟩ : ∃ p, q = p + 1 := ⟨q - 1, by omega⟩
  have e := k.eq
  rw [Nat.succ_mul] at e
  rw [Nat.add_sub_cancel]
  apply Nat.le_antisymm (by omega)
  rw [Nat.le_div_iff_mul_le (by omega), kn_ex]
  have : p * y0 ≤ 4294967296 * 4294967295 := Nat.mul_le_mul (by omega) (by omega)
  omega
/-- what is left of a digit, as the machine reckons -/
theorem kn_left {T Y q : Nat} (hY : 0 < Y) (hq : T / Y = q) : q * Y ≤ T ∧ T - q * Y = T % Y := by
  have := Nat.div_add_mod T Y
  rw [hq, Nat.mul_comm] at this
  omega
/-- both digits together -/
theorem kn_all {u d1 d0 Y : Nat} (hY : 0 < Y) :
    (u * 18446744073709551616 + (d1 * 4294967296 + d0)) / Y = (u * 4294967296 + d1) / Y * 4294967296 + ((u * 4294967296 + d1) % Y * 4294967296 + d0) / Y ∧
    (u * 18446744073709551616 + (d1 * 4294967296 + d0)) % Y = ((u * 4294967296 + d1) % Y * 4294967296 + d0) % Y := by
  obtain ⟨T, hT⟩ : ∃ T, T = u * 4294967296 + d1 := ⟨_, rfl⟩
  have e : u * 18446744073709551616 + (d1 * 4294967296 + d0) = Y * (T / Y * 4294967296) + (T % Y * 4294967296 + d0) := by
    have := Nat.div_add_mod T Y
    rw [← Nat.mul_assoc]
    omega
  rw [← hT, e, Nat.mul_add_div hY, Nat.mul_add_mod]
  exact ⟨rfl, rfl⟩
/-- a quotient and what is left, of what both were shifted by -/
theorem shift_div (V y k : Nat) (hk : 0 < k) : V * k / (y * k) = V / y ∧ V * k % (y * k) / k = V % y := by
  rw [Nat.mul_div_mul_right _ _ hk, Nat.mul_mod_mul_right, Nat.mul_div_cancel _ hk]
  exact ⟨rfl, rfl⟩
/-- how far y is shifted -/
theorem lead (y : Nat) (h0 : 0 < y) (h : y < 18446744073709551616) : Lib.bitLen y ≤ 64 ∧ 0 < Lib.bitLen y ∧ 9223372036854775808 ≤ y * 2 ^ (64 - Lib.bitLen y) ∧ y * 2 ^ (64 - Lib.bitLen y) < 18446744073709551616 := by
  have hb := Lib.bitLenAux_bounds 64 y h (by omega)
  have hl := Lib.bitLen_le y 64 (Nat.le_refl _) h
  have e : Lib.bitLen y = Lib.bitLenAux 64 y := rfl
  rw [← e] at hb
  obtain ⟨b, hbl⟩ : ∃ b, Lib.bitLen y = b := ⟨_, rfl⟩
  rw [hbl] at hb hl ⊢
  obtain ⟨h1, h2, h3⟩ := hb
  refine ⟨hl, h1, ?_, ?_⟩
  · calc 9223372036854775808 = 2 ^ (b - 1) * 2 ^ (64 - b) := by rw [← Nat.pow_add, show b - 1 + (64 - b) = 63 by omega]
      _ ≤ _ := Nat.mul_le_mul_right _ h2
  · calc y * 2 ^ (64 - b) < 2 ^ b * 2 ^ (64 - b) := Nat.mul_lt_mul_of_pos_right h3 (Nat.pow_pos (by decide))
      _ = _ := by rw [← Nat.pow_add, show b + (64 - b) = 64 by omega]
/-- the upper part of what is shifted -/
theorem shift_up (h l s b : Nat) (hsb : s + b = 64) : (h * 18446744073709551616 + l) * 2 ^ s / 18446744073709551616 = h * 2 ^ s + l / 2 ^ b ∧ (h * 18446744073709551616 + l) * 2 ^ s % 18446744073709551616 = l * 2 ^ s % 18446744073709551616 := by
  have e : (18446744073709551616 : Nat) = 2 ^ b * 2 ^ s := by rw [← Nat.pow_add, show b + s = 64 by omega]
  have e2 : (h * 18446744073709551616 + l) * 2 ^ s = 18446744073709551616 * (h * 2 ^ s) + l * 2 ^ s := by
    rw [Nat.add_mul, Nat.mul_right_comm, Nat.mul_comm (h * 2 ^ s)]
  have e3 : l * 2 ^ s / 18446744073709551616 = l / 2 ^ b := by
    rw [e, Nat.mul_div_mul_right _ _ (Nat.pow_pos (by decide))]
  rw [e2, Nat.mul_add_div (by decide), Nat.mul_add_mod, e3]
  exact ⟨rfl, rfl⟩
end Wide
end Go.Proofs.YtkoijdmlehkhbaaGreatDoor
namespace Go.J
open Go Go.RowKit
variable {P : Program} {m : Mem}
theorem Pu.of_same {f : FuncId} {args : Array Value} {V : Value} (h : ∀ w, Calls P f args w fun e w' => e = .returned V ∧ w' = w) : Pu P f args V :=
  fun m w0 Rest w hw => (h w).mono fun e w' ⟨he, hw'⟩ => ⟨V, m, [], he, Mem.le_refl m, ⟨rfl, rfl, rfl⟩, hw' ▸ hw⟩
end Go.J
namespace Go.Proofs.YtkoijdmlehkhbaaGreatDoor
open Go Go.Shelf
set_option maxRecDepth 100000
def laysn134_ren : Go.Shelf.Ren := ⟨fun | 134 => 141 | 129 => 184 | n => n, fun | 53 => 39 | 3 => 3 | 4 => 4 | 46 => 211 | 5 => 5 | 9 => 9 | n => n, fun | n => n⟩
theorem laysn134 : Go.Proofs.Lays.n134 Tryz.prog laysn134_ren := {
  mixed := by kernel_rfl
  f129 := Tryz.func184.trans (congrArg some (by kernel_rfl))
  f134 := Tryz.func141.trans (congrArg some (by kernel_rfl))
  t3 := Tryz.underlying3
  a3 := Tryz.isAgg3
  z3 := Tryz.sizeOf3
  v3 := Tryz.zeroValue3
  t4 := Tryz.underlying4
  a4 := Tryz.isAgg4
  z4 := Tryz.sizeOf4
  v4 := Tryz.zeroValue4
  t5 := Tryz.underlying5
  a5 := Tryz.isAgg5
  z5 := Tryz.sizeOf5
  v5 := Tryz.zeroValue5
  t9 := Tryz.underlying9
  a9 := Tryz.isAgg9
  z9 := Tryz.sizeOf9
  v9 := Tryz.zeroValue9
  t46 := Tryz.underlying211
  a46 := Tryz.isAgg211
  z46 := Tryz.sizeOf211
  v46 := Tryz.zeroValue211
  t53 := Tryz.underlying39
  a53 := Tryz.isAgg39
  z53 := Tryz.sizeOf39
  v53 := Tryz.zeroValue39 }
end Go.Proofs.YtkoijdmlehkhbaaGreatDoor
namespace Go.Proofs.YtkoijdmlehkhbaaGreatDoor
open Go Go.J
attribute [local irreducible] At AtQ AtM AtM1 PR Ct Pu Rd Res.blk Res.own Res.ex RVs RV
namespace Wide
def dE (x y : Nat) : Int := if x < y then 1 else 0
theorem sub64 {n : Nat} {F : Fr} {C : World → Prop} {x y z : Operand} {ts : Array TypeId} {a b c : Int} (hx : ev F x = some (.int .u64 a)) (hy : ev F y = some (.int .u64 b)) (hz : ev F z = some (.int .u64 c)) (h0 : 0 ≤ a ∧ a < 18446744073709551616) (h1 : 0 ≤ b ∧ b < 18446744073709551616) (h2 : 0 ≤ c) (h3 : c ≤ 1) :
    PR Tryz.prog n F C (.call ⟨.value (.func 218), #[x, y, z], ts⟩) (.tuple #[.int .u64 ((a - b - c) % 18446744073709551616), .int .u64 (-((a - b - c) / 18446744073709551616))]) :=
  pr_extern (xs := [x, y, z]) (vs := [.int .u64 a, .int .u64 b, .int .u64 c]) (e := sub64Entry) Tryz.func218 (by kernel_rfl) (by kernel_rfl) (by kernel_rfl) (by kernel_rfl) (by simp [evs, hx, hy, hz]) fun w => by
    obtain ⟨p, rfl⟩ : ∃ p : Nat, a = (p : Int) := ⟨a.toNat, by omega⟩
    obtain ⟨q, rfl⟩ : ∃ q : Nat, b = (q : Int) := ⟨b.toNat, by omega⟩
    obtain ⟨k, rfl⟩ : ∃ k : Nat, c = (k : Int) := ⟨c.toNat, by omega⟩
    have e := run_sub64 p q k (by omega) w (P := Tryz.prog)
    have e1 : ((p + 18446744073709551616 - q - k) % 18446744073709551616 : Nat) = (((p : Int) - q - k) % 18446744073709551616).toNat := by omega
    have e2 : (((p + 18446744073709551616 - q - k) % 18446744073709551616 : Nat) : Int) = ((p : Int) - q - k) % 18446744073709551616 := by omega
    have e3 : ((if p < q + k then 1 else 0 : Nat) : Int) = -(((p : Int) - q - k) / 18446744073709551616) := by split <;> omega
    rw [e2, e3] at e
    exact e
theorem sub (x y : Nat) (hx : x < 340282366920938463463374607431768211456) (hy : y < 340282366920938463463374607431768211456) : Pu Tryz.prog 186 #[wv x, wv y] (.tuple #[wv (x - y), .int .i64 (dE x y)]) := Pu.intro fun m => by
  by_cases h : x < y
  · have e1 : x - y = 0 := by omega
    have e2 : dE x y = 1 := if_pos h
    rw [e1, e2]
    refine Ct.enterV (by rfl) Tryz.func186 rfl Tryz.ntmps186 rfl (fun w0 Rest => ?_)
    (repeat' (first | refine zss ?_ | ((first | (with_reducible first | apply At.val | apply AtQ.val)); (first | exact sub64 (by rfl) (by rfl) (by rfl) (by omega) (by omega) (by omega) (by omega) | exact zprA); exact rfl) | refine zs0 ?_ | ((with_reducible first | apply AtM1.callp | apply AtQ.callp | apply At.callp); kernel_rfl; exact rfl; exact rfl; exact sure1 _ _ _ (by omega)) | ((with_reducible apply At.box (d := 2)); exact rfl; exact rfl; exact rfl; intro b2) | ((with_reducible apply At.box (d := 3)); exact rfl; exact rfl; exact rfl; intro b3) | ((with_reducible apply At.alloc (d := 4)); exact rfl; exact rfl; intro b4) | (refine zsp ?_ ?_ <;> (intro hc; (try simp only [zhcs, reduceCtorEq] at hc); (try (exfalso; first | contradiction | omega | exact absurd rfl hc | exact absurd (by decide) hc))))))
    all_goals ((with_reducible apply At.retV (B := [])); exact rfl; (repeat' (first | exact RVs.nil | (with_reducible apply RVs.cons) | exact rv_tmp (by rfl) | exact rv_cellN (by rfl) (by repeat constructor) (by rfl) (by rfl) (by rfl) | exact rv_cell1 (by rfl) (by repeat constructor) (by rfl) (by rfl) | exact rv_cellA (by rfl) (by repeat constructor) (by rfl) (by rfl) zlq)); exact zml; exact zkp; exact ⟨rfl, rfl, rfl⟩)
  · have e2 : dE x y = 0 := if_neg h
    rw [e2]
    refine Ct.enterV (by rfl) Tryz.func186 rfl Tryz.ntmps186 rfl (fun w0 Rest => ?_)
    (repeat' (first | refine zss ?_ | ((first | (with_reducible first | apply At.val | apply AtQ.val)); (first | exact sub64 (by rfl) (by rfl) (by rfl) (by omega) (by omega) (by omega) (by omega) | exact zprA); exact rfl) | refine zs0 ?_ | ((with_reducible first | apply AtM1.callp | apply AtQ.callp | apply At.callp); kernel_rfl; exact rfl; exact rfl; exact sure0 _ _ _ (by omega)) | ((with_reducible apply At.box (d := 2)); exact rfl; exact rfl; exact rfl; intro b2) | ((with_reducible apply At.box (d := 3)); exact rfl; exact rfl; exact rfl; intro b3) | ((with_reducible apply At.alloc (d := 4)); exact rfl; exact rfl; intro b4) | (refine zsp ?_ ?_ <;> (intro hc; (try simp only [zhcs, reduceCtorEq] at hc); (try (exfalso; first | contradiction | omega | exact absurd rfl hc | exact absurd (by decide) hc))))))
    all_goals ((with_reducible apply At.retV (B := [])); exact rfl; (repeat' (first | exact RVs.nil | (with_reducible apply RVs.cons) | exact rv_tmp (by rfl) | exact rv_cellN (by rfl) (by repeat constructor) (by rfl) (by rfl) (by rfl) | exact rv_cell1 (by rfl) (by repeat constructor) (by rfl) (by rfl) | exact rv_cellA (by rfl) (by repeat constructor) (by rfl) (by rfl) zlq)); exact zml; exact zkp; exact ⟨congrArg (fun v => Value.tuple #[v, .int .i64 0]) (wd_mk (by omega) (by omega)), rfl, rfl⟩)
theorem lz (y : Nat) (h : y < 18446744073709551616) : Pu Tryz.prog 141 #[.int .u64 (y : Int)] (.int .i64 (64 - (Lib.bitLen y : Int))) := by
  have := Pu.of_same fun w => Any.bits_LeadingZeros64 laysn134 (y : Int) w (by omega) (by omega)
  rw [Int.toNat_natCast] at this
  exact this
end Wide
end Go.Proofs.YtkoijdmlehkhbaaGreatDoor

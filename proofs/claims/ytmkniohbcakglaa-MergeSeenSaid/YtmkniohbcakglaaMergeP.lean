/- Lists of events that rise by time are what they hold: the plain law of merging. -/
import Derived.Test.YtmkniohbcakglaaMergeE
set_option linter.unusedSimpArgs false
set_option linter.unusedVariables false
set_option linter.unusedSectionVars false
set_option maxRecDepth 20000
namespace Go.Proofs.Ytmkniohbcakglaa
open Go Go.J
namespace Mrg
open Ev
theorem ix_iff {b : List Ev} {t : Int} : 0 ≤ ix b t ↔ ∃ e ∈ b, e.T = t := by
  rcases ix_spec b t with ⟨h1, h2⟩ | ⟨j, h1, h2, h3⟩
  · rw [h1]
    refine ⟨fun h => absurd h (by decide), fun ⟨e, he, ht⟩ => ?_⟩
    obtain ⟨i, hi, rfl⟩ := List.mem_iff_getElem.1 he
    exact absurd ht (by have := h2 i hi; rwa [getElem!_pos b i hi] at this)
  · rw [h1]
    exact ⟨fun _ => ⟨b[j]!, by rw [getElem!_pos b j h2]; exact List.getElem_mem h2, h3⟩, fun _ => by omega⟩
/-- no time has two events -/
def Fit (a b : List Ev) : Prop := ∀ x ∈ a, ∀ y ∈ b, x.T = y.T → x = y
theorem Fit.symm {a b : List Ev} (h : Fit a b) : Fit b a := fun x hx y hy e => (h y hy x hx e.symm).symm
theorem Fit.self {a : List Ev} (h : Asc a) : Fit a a := fun _ hx _ hy e => asc_inj h hx hy e
theorem fits_iff {a b : List Ev} (hb : Asc b) : fits a b ↔ Fit a b := by
  constructor
  · intro h x hx y hy e
    obtain ⟨i, hi, rfl⟩ := List.mem_iff_getElem.1 hx
    have hf := h i hi
    rw [getElem!_pos a i hi] at hf
    rcases ix_spec b a[i].T with ⟨h1, h2⟩ | ⟨j, h1, h2, h3⟩
    · obtain ⟨k, hk, rfl⟩ := List.mem_iff_getElem.1 hy
      have := h2 k hk
      rw [getElem!_pos b k hk] at this
      exact absurd e.symm this
    · have hbj : b[j]! ∈ b := by rw [getElem!_pos b j h2]; exact List.getElem_mem h2
      have e2 := asc_inj hb hbj hy (by rw [h3, e])
      by_cases e3 : b[j]! = a[i]
      · rw [← e3, e2]
      · exact absurd ⟨j, h1, e3⟩ hf
  · rintro h i hi ⟨j, h1, h2⟩
    rcases ix_spec b (a[i]!).T with ⟨h3, h4⟩ | ⟨k, h3, h4, h5⟩
    · rw [h3] at h1; omega
    · obtain rfl : j = k := by omega
      exact h2 (h _ (by rw [getElem!_pos a i hi]; exact List.getElem_mem hi) _ (by rw [getElem!_pos b j h4]; exact List.getElem_mem h4) h5.symm).symm
theorem may_of {a b : List Ev} (h1 : chk a = 0) (h2 : chk b = 0) : (may a b = 0 ∧ Fit a b) ∨ (may a b = 16 ∧ ¬ Fit a b) := by
  unfold may
  rw [if_neg (fun h => h h1), if_neg (fun h => h h2)]
  have := fits_iff (a := a) (chk_zero.1 h2).2
  by_cases h : fits a b
  · rw [if_pos h]; exact .inl ⟨rfl, this.1 h⟩
  · rw [if_neg h]; exact .inr ⟨rfl, fun hh => h (this.2 hh)⟩
theorem may_zero {a b : List Ev} : may a b = 0 ↔ chk a = 0 ∧ chk b = 0 ∧ Fit a b := by
  by_cases h1 : chk a = 0
  · by_cases h2 : chk b = 0
    · rcases may_of h1 h2 with ⟨h3, h4⟩ | ⟨h3, h4⟩
      · exact ⟨fun _ => ⟨h1, h2, h4⟩, fun _ => h3⟩
      · exact ⟨fun h => by omega, fun h => absurd h.2.2 h4⟩
    · refine ⟨fun h => ?_, fun h => absurd h.2.1 h2⟩
      unfold may at h
      rw [if_neg (fun h => h h1), if_pos h2] at h
      exact absurd h h2
  · refine ⟨fun h => ?_, fun h => absurd h.1 h1⟩
    unfold may at h
    rw [if_pos h1] at h
    exact absurd h h1
/-- what is taken of the two -/
def took (ws : List Int) (r : List Ev × List Ev × List Ev) : List Ev := r.2.1.foldl (tk ws 1) (r.1.foldl (tk ws 0) r.2.2)
theorem foldl_tk (ws : List Int) (w : Int) : ∀ (A O : List Ev), A.foldl (tk ws w) O = O ++ (if w ∈ ws then A else [])
  | [], O => by by_cases h : w ∈ ws <;> simp [h]
  | x :: A, O => by
    rw [List.foldl_cons, foldl_tk ws w A]
    unfold tk
    by_cases h : w ∈ ws <;> simp [h]
def Wh (ws : List Int) (A B : List Ev) (e : Ev) : Prop := (e ∈ A ∧ e ∈ B ∧ 2 ∈ ws) ∨ (e ∈ A ∧ e ∉ B ∧ 0 ∈ ws) ∨ (e ∉ A ∧ e ∈ B ∧ 1 ∈ ws)
theorem Wh.or {ws : List Int} {A B : List Ev} {e : Ev} (h : Wh ws A B e) : e ∈ A ∨ e ∈ B := by
  rcases h with h | h | h
  · exact .inl h.1
  · exact .inl h.1
  · exact .inr h.2.1
theorem asc_ife {p : Prop} [Decidable p] {x : Ev} {M : List Ev} (h : ∀ e ∈ M, x.T < e.T) (hM : Asc M) : Asc ((if p then [x] else []) ++ M) := by
  split
  · exact List.pairwise_cons.2 ⟨h, hM⟩
  · exact hM
theorem tk_eq (ws : List Int) (w : Int) (O : List Ev) (x : Ev) : tk ws w O x = O ++ (if w ∈ ws then [x] else []) := by
  unfold tk; split <;> simp
theorem mem_ife {p : Prop} [Decidable p] {e x : Ev} {M : List Ev} : e ∈ (if p then [x] else []) ++ M ↔ (e = x ∧ p) ∨ e ∈ M := by
  by_cases h : p <;> simp [h]
theorem mg_spec (ws : List Int) : ∀ (A B O : List Ev), Asc A → Asc B → (mg ws A B O = none ∧ ¬ Fit A B) ∨ (∃ r M, mg ws A B O = some r ∧ Fit A B ∧ took ws r = O ++ M ∧ Asc M ∧ ∀ e, e ∈ M ↔ Wh ws A B e)
  | [], b, O, _, h2 => by
    refine .inr ⟨_, if (1 : Int) ∈ ws then b else [], by rw [mg], (fun x hx => by cases hx), by unfold took; rw [foldl_tk, List.foldl_nil], ?_, fun e => ?_⟩
    · split
      · exact h2
      · exact .nil
    · unfold Wh; by_cases h : (1 : Int) ∈ ws <;> simp [h]
  | x :: a, [], O, h1, _ => by
    refine .inr ⟨_, if (0 : Int) ∈ ws then x :: a else [], by rw [mg], (fun x hx y hy => by cases hy), by unfold took; rw [List.foldl_nil, foldl_tk], ?_, fun e => ?_⟩
    · split
      · exact h1
      · exact .nil
    · unfold Wh; by_cases h : (0 : Int) ∈ ws <;> simp [h]
  | x :: a, y :: b, O, h1, h2 => by
    obtain ⟨a1, a2⟩ := List.pairwise_cons.1 h1
    obtain ⟨b1, b2⟩ := List.pairwise_cons.1 h2
    rw [mg]
    by_cases e1 : x = y
    · rw [if_pos e1]
      subst e1
      have xa : x ∉ a := fun h => by have := a1 x h; omega
      have xb : x ∉ b := fun h => by have := b1 x h; omega
      rcases mg_spec ws a b (tk ws 2 O x) a2 b2 with ⟨g1, g2⟩ | ⟨r, M, g1, g2, g3, g4, g5⟩
      · exact .inl ⟨g1, fun h => g2 fun u hu v hv => h u (List.mem_cons_of_mem _ hu) v (List.mem_cons_of_mem _ hv)⟩
      · refine .inr ⟨r, (if (2 : Int) ∈ ws then [x] else []) ++ M, g1, ?_, by rw [g3, tk_eq, List.append_assoc], asc_ife (fun e he => ?_) g4, fun e => ?_⟩
        · intro u hu v hv e
          rcases List.mem_cons.1 hu with eu | hu1 <;> rcases List.mem_cons.1 hv with ew | hv1
          · rw [eu, ew]
          · have := b1 v hv1; subst eu; omega
          · have := a1 u hu1; subst ew; omega
          · exact g2 u hu1 v hv1 e
        · rcases ((g5 e).1 he).or with h | h
          · exact a1 e h
          · exact b1 e h
        · rw [mem_ife, g5]
          unfold Wh
          by_cases he : e = x
          · subst he; simp [xa, xb]
          · simp [he]
    · rw [if_neg e1]
      by_cases e2 : x.T < y.T
      · rw [if_pos e2]
        have xa : x ∉ a := fun h => by have := a1 x h; omega
        have xb : ∀ z ∈ y :: b, x.T < z.T := fun z h => by
          rcases List.mem_cons.1 h with rfl | h
          · exact e2
          · have := b1 z h; omega
        have xb' : x ∉ y :: b := fun h => by have := xb x h; omega
        rcases mg_spec ws a (y :: b) (tk ws 0 O x) a2 h2 with ⟨g1, g2⟩ | ⟨r, M, g1, g2, g3, g4, g5⟩
        · exact .inl ⟨g1, fun h => g2 fun u hu v hv => h u (List.mem_cons_of_mem _ hu) v hv⟩
        · refine .inr ⟨r, (if (0 : Int) ∈ ws then [x] else []) ++ M, g1, ?_, by rw [g3, tk_eq, List.append_assoc], asc_ife (fun e he => ?_) g4, fun e => ?_⟩
          · intro u hu v hv e
            rcases List.mem_cons.1 hu with rfl | hu
            · have := xb v hv; omega
            · exact g2 u hu v hv e
          · rcases ((g5 e).1 he).or with h | h
            · exact a1 e h
            · exact xb e h
          · rw [mem_ife, g5]
            unfold Wh
            by_cases he : e = x
            · subst he
              obtain ⟨n1, n2⟩ := not_or.1 (mt List.mem_cons.2 xb')
              simp [xa, n1, n2]
            · simp [he]
      · rw [if_neg e2]
        by_cases e3 : y.T < x.T
        · rw [if_pos e3]
          have yb : y ∉ b := fun h => by have := b1 y h; omega
          have ya : ∀ z ∈ x :: a, y.T < z.T := fun z h => by
            rcases List.mem_cons.1 h with rfl | h
            · exact e3
            · have := a1 z h; omega
          have ya' : y ∉ x :: a := fun h => by have := ya y h; omega
          rcases mg_spec ws (x :: a) b (tk ws 1 O y) h1 b2 with ⟨g1, g2⟩ | ⟨r, M, g1, g2, g3, g4, g5⟩
          · exact .inl ⟨g1, fun h => g2 fun u hu v hv => h u hu v (List.mem_cons_of_mem _ hv)⟩
          · refine .inr ⟨r, (if (1 : Int) ∈ ws then [y] else []) ++ M, g1, ?_, by rw [g3, tk_eq, List.append_assoc], asc_ife (fun e he => ?_) g4, fun e => ?_⟩
            · intro u hu v hv e
              rcases List.mem_cons.1 hv with rfl | hv
              · have := ya u hu; omega
              · exact g2 u hu v hv e
            · rcases ((g5 e).1 he).or with h | h
              · exact ya e h
              · exact b1 e h
            · rw [mem_ife, g5]
              unfold Wh
              by_cases he : e = y
              · subst he
                obtain ⟨n1, n2⟩ := not_or.1 (mt List.mem_cons.2 ya')
                simp [yb, n1, n2]
              · simp [he]
        · rw [if_neg e3]
          exact .inl ⟨rfl, fun h => e1 (h x (List.mem_cons_self ..) y (List.mem_cons_self ..) (by omega))⟩
termination_by A B => A.length + B.length
/-- the events that the walk takes -/
def slc (ws : List Int) (a b : List Ev) : List Ev := match mg ws a b [] with
  | some r => took ws r
  | none => []
theorem slc_spec {ws : List Int} {a b : List Ev} (h : may a b = 0) : Asc (slc ws a b) ∧ ∀ e, e ∈ slc ws a b ↔ Wh ws a b e := by
  obtain ⟨h1, h2, h3⟩ := may_zero.1 h
  rcases mg_spec ws a b [] (chk_zero.1 h1).2 (chk_zero.1 h2).2 with ⟨g1, g2⟩ | ⟨r, M, g1, g2, g3, g4, g5⟩
  · exact absurd h3 g2
  · unfold slc
    rw [g1]
    dsimp only
    rw [g3, List.nil_append]
    exact ⟨g4, g5⟩
theorem posF_spec (l : List Ev) (t : Int) : ∀ (k i : Nat), i + k = l.length → (∀ j, j < i → (l[j]!).T < t) → (∀ j, j < posF l t i k → (l[j]!).T < t) ∧ (posF l t i k < l.length → ¬ (l[posF l t i k]!).T < t)
  | 0, i, h, hb => ⟨hb, fun h2 => by unfold posF at h2; omega⟩
  | k + 1, i, h, hb => by
    unfold posF
    by_cases hlt : (l[i]!).T < t
    · rw [if_pos hlt]
      exact posF_spec l t k (i + 1) (by omega) fun j hj => by
        by_cases e : j = i
        · subst e; exact hlt
        · exact hb j (by omega)
    · rw [if_neg hlt]; exact ⟨hb, fun _ => hlt⟩
theorem mem_ins {l : List Ev} {e x : Ev} : x ∈ ins l e ↔ x ∈ l ∨ x = e := by
  unfold ins
  rw [List.mem_append, List.mem_append, List.mem_singleton]
  have : x ∈ l ↔ x ∈ l.take (pos l e.T) ∨ x ∈ l.drop (pos l e.T) := by
    conv => lhs; rw [← List.take_append_drop (pos l e.T) l]
    exact List.mem_append
  rw [this]
  constructor
  · rintro (h | h | h)
    · exact .inl (.inl h)
    · exact .inr h
    · exact .inl (.inr h)
  · rintro ((h | h) | h)
    · exact .inl h
    · exact .inr (.inr h)
    · exact .inr (.inl h)
theorem asc_ins {l : List Ev} {e : Ev} (h : Asc l) (hn : ∀ x ∈ l, x.T ≠ e.T) : Asc (ins l e) := by
  obtain ⟨p1, p2⟩ := posF_spec l e.T l.length 0 (by omega) (fun j hj => absurd hj (Nat.not_lt_zero j))
  have hle := posF_le l e.T l.length 0
  have ht : ∀ x ∈ l.take (pos l e.T), x.T < e.T := fun x hx => by
    obtain ⟨i, hi, rfl⟩ := List.mem_iff_getElem.1 hx
    rw [List.length_take] at hi
    rw [List.getElem_take]
    have := p1 i (by unfold pos at hi; omega)
    rwa [getElem!_pos l i (by omega)] at this
  have hd : ∀ x ∈ l.drop (pos l e.T), e.T < x.T := fun x hx => by
    obtain ⟨i, hi, rfl⟩ := List.mem_iff_getElem.1 hx
    rw [List.length_drop] at hi
    rw [List.getElem_drop]
    have hpl : pos l e.T < l.length := by omega
    have h0 := p2 hpl
    rw [show posF l e.T 0 l.length = pos l e.T from rfl, getElem!_pos l _ hpl] at h0
    have h1 := hn _ (List.getElem_mem hpl)
    rcases Nat.eq_zero_or_pos i with rfl | hi0
    · have : l[pos l e.T + 0] = l[pos l e.T] := rfl
      rw [this]; omega
    · have := List.pairwise_iff_getElem.1 h (pos l e.T) (pos l e.T + i) hpl (by omega) (by omega)
      omega
  unfold ins
  refine List.pairwise_append.2 ⟨h.sublist (List.take_sublist _ _), List.pairwise_cons.2 ⟨hd, h.sublist (List.drop_sublist _ _)⟩, fun x hx y hy => ?_⟩
  have h1 := ht x hx
  rcases List.mem_cons.1 hy with rfl | hy
  · exact h1
  · have := hd y hy; omega
theorem two_spec (a : List Ev) : ∀ (b O : List Ev), Asc O → Asc b → (∀ e ∈ b, (∀ x ∈ a, x.T ≠ e.T) → ∀ o ∈ O, o.T ≠ e.T) → Asc (b.foldl (step a) O) ∧ ∀ e, e ∈ b.foldl (step a) O ↔ e ∈ O ∨ (e ∈ b ∧ ∀ x ∈ a, x.T ≠ e.T)
  | [], O, h1, _, _ => ⟨h1, fun e => by simp⟩
  | y :: b, O, h1, h2, h3 => by
    obtain ⟨b1, b2⟩ := List.pairwise_cons.1 h2
    rw [List.foldl_cons]
    unfold step
    by_cases hi : 0 ≤ ix a y.T
    · rw [if_pos hi]
      obtain ⟨z, z1, z2⟩ := ix_iff.1 hi
      obtain ⟨g1, g2⟩ := two_spec a b O h1 b2 (fun e he => h3 e (List.mem_cons_of_mem _ he))
      refine ⟨g1, fun e => ?_⟩
      have hg := g2 e
      unfold step at hg
      rw [hg, List.mem_cons]
      constructor
      · rintro (h | ⟨h, h'⟩)
        · exact .inl h
        · exact .inr ⟨.inr h, h'⟩
      · rintro (h | ⟨rfl | h, h'⟩)
        · exact .inl h
        · exact absurd z2 (h' z z1)
        · exact .inr ⟨h, h'⟩
    · rw [if_neg hi]
      have hn : ∀ x ∈ a, x.T ≠ y.T := fun x hx e => hi (ix_iff.2 ⟨x, hx, e⟩)
      have ho := h3 y (List.mem_cons_self ..) hn
      obtain ⟨g1, g2⟩ := two_spec a b (ins O y) (asc_ins h1 ho) b2 (fun e he hx o hm => by
        rcases mem_ins.1 hm with h | rfl
        · exact h3 e (List.mem_cons_of_mem _ he) hx o h
        · have := b1 e he; omega)
      refine ⟨g1, fun e => ?_⟩
      have hg := g2 e
      unfold step at hg
      rw [hg, mem_ins, List.mem_cons]
      constructor
      · rintro ((h | rfl) | ⟨h, h'⟩)
        · exact .inl h
        · exact .inr ⟨.inl rfl, hn⟩
        · exact .inr ⟨.inr h, h'⟩
      · rintro (h | ⟨rfl | h, h'⟩)
        · exact .inl (.inl h)
        · exact .inl (.inr rfl)
        · exact .inr ⟨h, h'⟩
theorem two_of {a b : List Ev} (h : may a b = 0) : Asc (two a b) ∧ ∀ e, e ∈ two a b ↔ e ∈ a ∨ e ∈ b := by
  obtain ⟨h1, h2, h3⟩ := may_zero.1 h
  obtain ⟨g1, g2⟩ := two_spec a b a (chk_zero.1 h1).2 (chk_zero.1 h2).2 (fun _ _ h => h)
  refine ⟨g1, fun e => (g2 e).trans ⟨fun h => h.imp_right And.left, fun h => ?_⟩⟩
  rcases h with h | h
  · exact .inl h
  · by_cases he : e ∈ a
    · exact .inl he
    · exact .inr ⟨h, fun x hx ht => he (by rw [← h3 x hx e h ht]; exact hx)⟩
theorem sel_of {a b : List Ev} (h : Fit a b) {e : Ev} (he : e ∈ a) (is : Bool) : sel b is e = true ↔ ((e ∈ b) ↔ is = true) := by
  unfold sel
  rw [beq_iff_eq]
  have : 0 ≤ ix b e.T ↔ e ∈ b := ix_iff.trans ⟨fun ⟨y, hy, ht⟩ => by rw [h e he y hy ht.symm]; exact hy, fun hb => ⟨e, hb, rfl⟩⟩
  cases is <;> simp [this]
theorem slc_two {a b : List Ev} (h : may a b = 0) : slc [0, 1, 2] a b = two a b := by
  obtain ⟨s1, s2⟩ := slc_spec (ws := [0, 1, 2]) h
  obtain ⟨t1, t2⟩ := two_of h
  refine asc_ext s1 t1 fun e => ?_
  rw [s2, t2]
  unfold Wh
  by_cases h1 : e ∈ a <;> by_cases h2 : e ∈ b <;> simp [h1, h2]
theorem slc_both {a b : List Ev} (h : may a b = 0) : slc [2] a b = a.filter (sel b true) := by
  obtain ⟨s1, s2⟩ := slc_spec (ws := [2]) h
  obtain ⟨h1, h2, h3⟩ := may_zero.1 h
  refine asc_ext s1 ((chk_zero.1 h1).2.sublist List.filter_sublist) fun e => ?_
  rw [s2, List.mem_filter]
  unfold Wh
  constructor
  · rintro (h | h | h)
    · exact ⟨h.1, (sel_of h3 h.1 true).2 ⟨fun _ => rfl, fun _ => h.2.1⟩⟩
    · simp at h
    · simp at h
  · rintro ⟨g1, g2⟩
    exact .inl ⟨g1, ((sel_of h3 g1 true).1 g2).2 rfl, by simp⟩
theorem slc_less {a b : List Ev} (h : may a b = 0) : slc [0] a b = a.filter (sel b false) := by
  obtain ⟨s1, s2⟩ := slc_spec (ws := [0]) h
  obtain ⟨h1, h2, h3⟩ := may_zero.1 h
  refine asc_ext s1 ((chk_zero.1 h1).2.sublist List.filter_sublist) fun e => ?_
  rw [s2, List.mem_filter]
  unfold Wh
  constructor
  · rintro (h | h | h)
    · simp at h
    · exact ⟨h.1, (sel_of h3 h.1 false).2 ⟨fun h' => absurd h' h.2.1, fun h' => by cases h'⟩⟩
    · simp at h
  · rintro ⟨g1, g2⟩
    exact .inr (.inl ⟨g1, fun h' => (by cases ((sel_of h3 g1 false).1 g2).1 h'), by simp⟩)
end Mrg
end Go.Proofs.Ytmkniohbcakglaa

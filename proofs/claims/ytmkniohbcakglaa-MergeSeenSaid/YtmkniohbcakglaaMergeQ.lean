/- The plain law of merging: parts, orders, thinner and thinner. -/
import Derived.Test.YtmkniohbcakglaaMergeI
set_option linter.unusedSimpArgs false
set_option linter.unusedVariables false
set_option linter.unusedSectionVars false
set_option maxRecDepth 20000
namespace Go.Proofs.Ytmkniohbcakglaa
open Go Go.J
namespace Mrg
open Ev
instance (a b : List Ev) : Decidable (Fit a b) := by unfold Fit; infer_instance
theorem right_sub {l l' : List Ev} (h : chk l = 0) (hs : ∀ e ∈ l', e ∈ l) (ha : Asc l') : chk l' = 0 := chk_zero.2 ⟨fun e he => (chk_zero.1 h).1 e (hs e he), ha⟩
theorem chk_two {a b : List Ev} (h : may a b = 0) : chk (two a b) = 0 := by
  obtain ⟨h1, h2, h3⟩ := may_zero.1 h
  obtain ⟨t1, t2⟩ := two_of h
  refine chk_zero.2 ⟨fun e he => ?_, t1⟩
  rcases (t2 e).1 he with h | h
  · exact (chk_zero.1 h1).1 e h
  · exact (chk_zero.1 h2).1 e h
theorem two_eq {a b l : List Ev} (h : may a b = 0) (hl : Asc l) (hm : ∀ e, e ∈ l ↔ e ∈ a ∨ e ∈ b) : two a b = l :=
  asc_ext (two_of h).1 hl fun e => ((two_of h).2 e).trans (hm e).symm
theorem may_sub {u l l' : List Ev} (hu : chk u = 0) (h1 : ∀ e ∈ l, e ∈ u) (a1 : Asc l) (h2 : ∀ e ∈ l', e ∈ u) (a2 : Asc l') : may l l' = 0 :=
  may_zero.2 ⟨right_sub hu h1 a1, right_sub hu h2 a2, fun x hx y hy e => asc_inj (chk_zero.1 hu).2 (h1 x hx) (h2 y hy) e⟩
theorem may_comm {a b : List Ev} (h : may a b = 0) : may b a = 0 := by
  obtain ⟨h1, h2, h3⟩ := may_zero.1 h
  exact may_zero.2 ⟨h2, h1, h3.symm⟩
theorem may_nil {a : List Ev} (h : chk a = 0) : may [] a = 0 := may_zero.2 ⟨by decide, h, fun x hx => by cases hx⟩
theorem may_nil' {a : List Ev} (h : chk a = 0) : may a [] = 0 := may_comm (may_nil h)
theorem two_nil {a : List Ev} (h : chk a = 0) : two [] a = a := two_eq (may_nil h) (chk_zero.1 h).2 fun e => by simp
theorem two_nil' (a : List Ev) : two a [] = a := rfl
theorem may_self {a : List Ev} (h : chk a = 0) : may a a = 0 := may_zero.2 ⟨h, h, Fit.self (chk_zero.1 h).2⟩
theorem two_self {a : List Ev} (h : chk a = 0) : two a a = a := two_eq (may_self h) (chk_zero.1 h).2 fun e => by simp
theorem two_comm {a b : List Ev} (h : may a b = 0) : two b a = two a b := two_eq (may_comm h) (two_of h).1 fun e => by rw [(two_of h).2 e, or_comm]
theorem asc_nodup {l : List Ev} (h : Asc l) : l.Nodup := List.Pairwise.imp (fun {a b} (h : a.T < b.T) e => by subst e; omega) h
theorem sub_asc {l : List Ev} {f : Ev → Bool} (h : Asc l) : Asc (l.filter f) := h.sublist List.filter_sublist
structure Parts (a b m n p x : List Ev) : Prop where
  ba : may b a = 0
  mp : may m p = 0
  mpt : two m p = a
  all : ∀ (i j k : Option Addr) (u v w : Nat), all1 [] [⟨n, i, u⟩, ⟨p, j, v⟩, ⟨m, k, w⟩] = (x, 0)
  mn : may m n = 0
  mnb : m.filter (sel n true) = []
  len : x.length = m.length + n.length + p.length
  chk : chk x = 0
theorem parts {a b : List Ev} (h : may a b = 0) : Parts a b (a.filter (sel b false)) (b.filter (sel a false)) (a.filter (sel b true)) (two a b) := by
  obtain ⟨h1, h2, h3⟩ := may_zero.1 h
  obtain ⟨t1, t2⟩ := two_of h
  have hx := chk_two h
  have aa := (chk_zero.1 h1).2
  have ab := (chk_zero.1 h2).2
  have em : ∀ e, e ∈ a.filter (sel b false) ↔ e ∈ a ∧ e ∉ b := fun e => by
    rw [List.mem_filter]
    refine ⟨fun ⟨g1, g2⟩ => ⟨g1, fun hb => ?_⟩, fun ⟨g1, g2⟩ => ⟨g1, (sel_of h3 g1 false).2 ⟨fun hb => absurd hb g2, fun hf => by cases hf⟩⟩⟩
    have := ((sel_of h3 g1 false).1 g2).1 hb
    cases this
  have ep : ∀ e, e ∈ a.filter (sel b true) ↔ e ∈ a ∧ e ∈ b := fun e => by
    rw [List.mem_filter]
    exact ⟨fun ⟨g1, g2⟩ => ⟨g1, ((sel_of h3 g1 true).1 g2).2 rfl⟩, fun ⟨g1, g2⟩ => ⟨g1, (sel_of h3 g1 true).2 ⟨fun _ => rfl, fun _ => g2⟩⟩⟩
  have en : ∀ e, e ∈ b.filter (sel a false) ↔ e ∈ b ∧ e ∉ a := fun e => by
    rw [List.mem_filter]
    refine ⟨fun ⟨g1, g2⟩ => ⟨g1, fun hb => ?_⟩, fun ⟨g1, g2⟩ => ⟨g1, (sel_of h3.symm g1 false).2 ⟨fun hb => absurd hb g2, fun hf => by cases hf⟩⟩⟩
    have := ((sel_of h3.symm g1 false).1 g2).1 hb
    cases this
  have um : ∀ e ∈ a.filter (sel b false), e ∈ two a b := fun e he => (t2 e).2 (.inl ((em e).1 he).1)
  have up : ∀ e ∈ a.filter (sel b true), e ∈ two a b := fun e he => (t2 e).2 (.inl ((ep e).1 he).1)
  have un : ∀ e ∈ b.filter (sel a false), e ∈ two a b := fun e he => (t2 e).2 (.inr ((en e).1 he).1)
  have mmp := may_sub hx um (sub_asc aa) up (sub_asc aa)
  have mmn := may_sub hx um (sub_asc aa) un (sub_asc ab)
  have mnp := may_sub hx un (sub_asc ab) up (sub_asc aa)
  have mbm := may_sub hx (fun e he => (t2 e).2 (.inr he)) ab um (sub_asc aa)
  refine ⟨may_comm h, mmp, two_eq mmp aa fun e => ?_, fun i j k u v w => ?_, mmn, ?_, ?_, hx⟩
  · rw [em, ep]
    by_cases hb : e ∈ b <;> simp [hb]
  · have hn := right_sub hx un (sub_asc ab)
    have hp : may (b.filter (sel a false)) (a.filter (sel b true)) = 0 := mnp
    have htb : two (b.filter (sel a false)) (a.filter (sel b true)) = b := two_eq mnp ab fun e => by
      rw [en, ep]
      by_cases hb : e ∈ a <;> simp [hb]
    rw [all1, if_pos (may_nil hn), two_nil hn, all1, if_pos hp, htb, all1, if_pos mbm, all1]
    congr 1
    refine two_eq mbm t1 fun e => ?_
    rw [t2, em]
    by_cases hb : e ∈ b <;> simp [hb]
  · rw [List.filter_eq_nil_iff]
    intro e he hs
    have := ((sel_of (may_zero.1 mmn).2.2 he true).1 hs).2 rfl
    exact ((em e).1 he).2 ((en e).1 this).1
  · have hp : (two a b).Perm (a.filter (sel b false) ++ b.filter (sel a false) ++ a.filter (sel b true)) := by
      refine (List.perm_ext_iff_of_nodup (asc_nodup t1) ?_).2 fun e => ?_
      · refine List.nodup_append.2 ⟨List.nodup_append.2 ⟨asc_nodup (sub_asc aa), asc_nodup (sub_asc ab), fun x hx y hy e => ?_⟩, asc_nodup (sub_asc aa), fun x hx y hy e => ?_⟩
        · subst e
          exact ((em x).1 hx).2 ((en x).1 hy).1
        · subst e
          rcases List.mem_append.1 hx with hx | hx
          · exact ((em x).1 hx).2 ((ep x).1 hy).2
          · exact ((en x).1 hx).2 ((ep x).1 hy).1
      · rw [t2, List.mem_append, List.mem_append, em, en, ep]
        by_cases h1 : e ∈ a <;> by_cases h2 : e ∈ b <;> simp [h1, h2]
    rw [hp.length_eq, List.length_append, List.length_append]
/-- three lists, one behind the other -/
theorem fit_two {a b c : List Ev} (h : may a b = 0) : Fit (two a b) c ↔ Fit a c ∧ Fit b c := by
  obtain ⟨t1, t2⟩ := two_of h
  refine ⟨fun h => ⟨fun x hx => h x ((t2 x).2 (.inl hx)), fun x hx => h x ((t2 x).2 (.inr hx))⟩, fun ⟨h1, h2⟩ x hx => ?_⟩
  rcases (t2 x).1 hx with h | h
  · exact h1 x h
  · exact h2 x h
theorem may_if {a b : List Ev} (h1 : chk a = 0) (h2 : chk b = 0) : may a b = if Fit a b then 0 else 16 := by
  rcases may_of h1 h2 with ⟨h3, h4⟩ | ⟨h3, h4⟩
  · rw [if_pos h4, h3]
  · rw [if_neg h4, h3]
theorem all3 {a b c : SE} (ha : chk a.l = 0) (hb : chk b.l = 0) (hc : chk c.l = 0) :
    (Fit a.l b.l ∧ Fit a.l c.l ∧ Fit b.l c.l ∧ may (two a.l b.l) c.l = 0 ∧ all1 [] [a, b, c] = (two (two a.l b.l) c.l, 0)) ∨ (¬ (Fit a.l b.l ∧ Fit a.l c.l ∧ Fit b.l c.l) ∧ all1 [] [a, b, c] = ([], 16)) := by
  rw [all1, if_pos (may_nil ha), two_nil ha, all1]
  rcases may_of ha hb with ⟨h1, h2⟩ | ⟨h1, h2⟩
  · rw [if_pos h1, all1, all1]
    rcases may_of (chk_two h1) hc with ⟨h3, h4⟩ | ⟨h3, h4⟩
    · rw [if_pos h3]
      obtain ⟨h5, h6⟩ := (fit_two h1).1 h4
      exact .inl ⟨h2, h5, h6, h3, rfl⟩
    · rw [h3]
      exact .inr ⟨fun h => h4 ((fit_two h1).2 ⟨h.2.1, h.2.2⟩), by rw [if_neg (by decide)]⟩
  · rw [h1]
    exact .inr ⟨fun h => h2 h.1, by rw [if_neg (by decide)]⟩
structure Order (a b c x p u v : List Ev) (w1 w3 w6 w7 : Int) : Prop where
  ab : out a b (two a b) = x
  abw : may a b = w1
  ba : out b a (two b a) = x
  baw : may b a = w1
  abc : ∀ (i j k : Option Addr) (l m n : Nat), all1 [] [⟨a, i, l⟩, ⟨b, j, m⟩, ⟨c, k, n⟩] = (p, w3)
  cba : ∀ (i j k : Option Addr) (l m n : Nat), all1 [] [⟨c, i, l⟩, ⟨b, j, m⟩, ⟨a, k, n⟩] = (p, w3)
  bca : ∀ (i j k : Option Addr) (l m n : Nat), all1 [] [⟨b, i, l⟩, ⟨c, j, m⟩, ⟨a, k, n⟩] = (p, w3)
  bc : out b c (two b c) = u
  bcw : may b c = w6
  au : out a u (two a u) = v
  auw : may a u = w7
  g1 : w6 = 0 → w7 = w3
  g2 : w6 = 0 → v = p
  g3 : w6 = 0 ∨ w3 = 16
  g4 : w3 = 0 ∨ p.length = 0
theorem order {a b c : List Ev} (ha : chk a = 0) (hb : chk b = 0) (hc : chk c = 0) : ∃ x p u v w1 w3 w6 w7, Order a b c x p u v w1 w3 w6 w7 := by
  have hba : out b a (two b a) = out a b (two a b) ∧ may b a = may a b := by
    rcases may_of ha hb with ⟨h1, h2⟩ | ⟨h1, h2⟩
    · have h3 := may_comm h1
      unfold out
      rw [if_pos h1, if_pos h3, h1, h3]
      exact ⟨two_comm h1, rfl⟩
    · have h3 : may b a = 16 := (may_of hb ha).elim (fun h => absurd h.2.symm h2) And.left
      unfold out
      rw [h1, h3, if_neg (by decide), if_neg (by decide)]
      exact ⟨rfl, rfl⟩
  by_cases hf : Fit a b ∧ Fit a c ∧ Fit b c
  · obtain ⟨f1, f2, f3⟩ := hf
    have m1 : may a b = 0 := may_zero.2 ⟨ha, hb, f1⟩
    have m2 : may b c = 0 := may_zero.2 ⟨hb, hc, f3⟩
    have mu : may (two a b) c = 0 := may_zero.2 ⟨chk_two m1, hc, (fit_two m1).2 ⟨f2, f3⟩⟩
    have mau : may a (two b c) = 0 := may_comm (may_zero.2 ⟨chk_two m2, ha, (fit_two m2).2 ⟨f1.symm, f2.symm⟩⟩)
    have eU : ∀ e, e ∈ two (two a b) c ↔ e ∈ a ∨ e ∈ b ∨ e ∈ c := fun e => by rw [(two_of mu).2, (two_of m1).2, or_assoc]
    have h0 : ∀ {x y z : SE}, chk x.l = 0 → chk y.l = 0 → chk z.l = 0 → Fit x.l y.l → Fit x.l z.l → Fit y.l z.l → (∀ e, e ∈ x.l ∨ e ∈ y.l ∨ e ∈ z.l ↔ e ∈ a ∨ e ∈ b ∨ e ∈ c) → all1 [] [x, y, z] = (two (two a b) c, 0) := fun {x y z} h1 h2 h3 k1 k2 k3 he => by
      rcases all3 h1 h2 h3 with ⟨_, _, _, h4, h5⟩ | ⟨h4, _⟩
      · rw [h5, two_eq h4 (two_of mu).1 fun e => by rw [eU, (two_of (may_zero.2 ⟨h1, h2, k1⟩)).2, or_assoc, he]]
      · exact absurd ⟨k1, k2, k3⟩ h4
    refine ⟨_, _, _, _, _, _, _, _, ⟨rfl, rfl, hba.1, hba.2, fun i j k l m n => h0 (x := ⟨a, i, l⟩) ha hb hc f1 f2 f3 fun e => Iff.rfl, fun i j k l m n => h0 (x := ⟨c, i, l⟩) hc hb ha f3.symm f2.symm f1.symm fun e => ?_, fun i j k l m n => h0 (x := ⟨b, i, l⟩) hb hc ha f3 f1.symm f2.symm fun e => ?_, show out b c (two b c) = two b c from if_pos m2, m2, show out a (two b c) (two a (two b c)) = two a (two b c) from if_pos mau, mau, fun _ => rfl, fun _ => ?_, .inl rfl, .inl rfl⟩⟩
    · show e ∈ c ∨ e ∈ b ∨ e ∈ a ↔ _
      constructor <;> (rintro (h | h | h) <;> simp [h])
    · show e ∈ b ∨ e ∈ c ∨ e ∈ a ↔ _
      constructor <;> (rintro (h | h | h) <;> simp [h])
    · exact two_eq mau (two_of mu).1 fun e => by rw [eU, (two_of m2).2]
  · have h0 : ∀ {x y z : SE}, chk x.l = 0 → chk y.l = 0 → chk z.l = 0 → (Fit x.l y.l ∧ Fit x.l z.l ∧ Fit y.l z.l → Fit a b ∧ Fit a c ∧ Fit b c) → all1 [] [x, y, z] = ([], 16) := fun {x y z} h1 h2 h3 he => by
      rcases all3 h1 h2 h3 with ⟨h4, h5, h6, _⟩ | ⟨_, h5⟩
      · exact absurd (he ⟨h4, h5, h6⟩) hf
      · exact h5
    by_cases f3 : Fit b c
    · have m2 : may b c = 0 := may_zero.2 ⟨hb, hc, f3⟩
      have mau : may a (two b c) = 16 := (may_of ha (chk_two m2)).elim (fun h => absurd ⟨((fit_two m2).1 h.2.symm).1.symm, ((fit_two m2).1 h.2.symm).2.symm, f3⟩ hf) And.left
      exact ⟨_, _, _, _, _, _, _, _, ⟨rfl, rfl, hba.1, hba.2, fun i j k l m n => h0 (x := ⟨a, i, l⟩) ha hb hc fun h => h, fun i j k l m n => h0 (x := ⟨c, i, l⟩) hc hb ha fun h => ⟨h.2.2.symm, h.2.1.symm, h.1.symm⟩, fun i j k l m n => h0 (x := ⟨b, i, l⟩) hb hc ha fun h => ⟨h.2.1.symm, h.2.2.symm, h.1⟩,
        show out b c (two b c) = two b c from if_pos m2, m2, show out a (two b c) (two a (two b c)) = [] by unfold out; rw [mau, if_neg (by decide)], mau, fun _ => rfl, fun _ => rfl, .inl rfl, .inr rfl⟩⟩
    · have m2 : may b c = 16 := (may_of hb hc).elim (fun h => absurd h.2 f3) And.left
      exact ⟨_, _, _, _, _, _, _, _, ⟨rfl, rfl, hba.1, hba.2, fun i j k l m n => h0 (x := ⟨a, i, l⟩) ha hb hc fun h => h, fun i j k l m n => h0 (x := ⟨c, i, l⟩) hc hb ha fun h => ⟨h.2.2.symm, h.2.1.symm, h.1.symm⟩, fun i j k l m n => h0 (x := ⟨b, i, l⟩) hb hc ha fun h => ⟨h.2.1.symm, h.2.2.symm, h.1⟩,
        show out b c (two b c) = [] by unfold out; rw [m2, if_neg (by decide)], m2, rfl, rfl, fun h => absurd h (by decide), fun h => absurd h (by decide), .inr rfl, .inr rfl⟩⟩
end Mrg
end Go.Proofs.Ytmkniohbcakglaa

/- Raw events, without the program: what is put one behind the other, and what is told of a range. -/
import Derived.Test.YtjfgjkecmdgpgaaRawR
set_option linter.unusedSimpArgs false
set_option linter.unusedVariables false
set_option linter.unusedSectionVars false
set_option maxRecDepth 20000
namespace Go.Proofs.Ytjfgjkecmdgpgaa
open Go Go.J
attribute [local irreducible] At AtQ AtM AtM1 PR Ct Pu Rd Res.blk Res.own Res.ex RVs RV
namespace Raw
open Ev Mrg
theorem ris_iff {l : List Ev} : ris l ↔ (∀ e ∈ l, e.ok) ∧ Asc l := ⟨fun h => ⟨aok_iff.1 h.1, asc_of h.2⟩, fun h => ⟨aok_iff.2 h.1, asc_to h.2⟩⟩
theorem lastV_mem {l : List Ev} (h : l.length ≠ 0) : lastV l = l[l.length - 1]! ∧ lastV l ∈ l := by
  have e : lastV l = l[l.length - 1]! := if_neg h
  exact ⟨e, by rw [e, getElem!_pos l _ (by omega)]; exact List.getElem_mem _⟩
theorem asc_snoc {l : List Ev} {e : Ev} (h : Asc l) (hl : l.length = 0 ∨ (lastV l).T < e.T) : Asc (l ++ [e]) := by
  refine List.pairwise_append.2 ⟨h, List.pairwise_singleton _ _, fun x hx y hy => ?_⟩
  rw [List.mem_singleton] at hy; subst hy
  obtain ⟨i, hi, rfl⟩ := List.mem_iff_getElem.1 hx
  rcases hl with h0 | h0
  · omega
  · have e0 := (lastV_mem (l := l) (by omega)).1
    rw [getElem!_pos l _ (by omega)] at e0
    rcases Nat.lt_or_ge i (l.length - 1) with h1 | h1
    · have := List.pairwise_iff_getElem.1 h i (l.length - 1) hi (by omega) h1
      rw [e0] at h0; omega
    · have : i = l.length - 1 := by omega
      subst this; rw [e0] at h0; exact h0
/-- what was put so far, and what there is -/
structure RA (room lost mark : Int) (l put : List Ev) : Prop where
  rr : rk lost mark l room
  ok : ∀ e ∈ put, e.ok
  asc : Asc put
  le : l.length ≤ put.length
  n : (l.length : Int) = min (put.length : Int) room
  dr : l = put.drop (put.length - l.length)
  lo : lost = (put.length : Int) - l.length
  mrk : 0 < lost → ∀ e ∈ put.take (put.length - l.length), e.T ≤ mark
theorem RA.zero {room : Int} (h1 : 1 ≤ room) (h2 : room ≤ 4096) : RA room 0 0 [] [] :=
  ⟨⟨⟨h1, h2, by show (0 : Int) ≤ _; omega, by decide, by decide⟩, ris_iff.2 ⟨(fun e h => by cases h), .nil⟩, rfl⟩, (fun e h => by cases h), .nil, Nat.le_refl _, by show (0 : Int) = min 0 room; omega, rfl, rfl, fun h => absurd h (by decide)⟩
theorem RA.put {room lost mark : Int} {l put : List Ev} {e : Ev} (h : RA room lost mark l put) (he : putE lost mark l room e = 0) :
    RA room (putO lost mark l room e) (putM lost mark l room e) (putL lost mark l room e) (put ++ [e]) := by
  obtain ⟨hk, ho, ha, hle, hn, hd, hlo, hm⟩ := h
  have hc : rk lost mark l room ∧ e.ok := by
    by_cases h : rk lost mark l room ∧ e.ok
    · exact h
    · unfold putE at he; rw [if_neg h] at he; cases he
  have he' := he
  unfold putE at he'
  rw [if_pos hc] at he'
  have h1 : l.length = 0 ∨ (lastV l).T < e.T := by
    by_cases h : l.length ≠ 0 ∧ ¬ (lastV l).T < e.T
    · rw [if_pos h] at he'; cases he'
    · by_cases h0 : l.length = 0
      · exact .inl h0
      · right; by_cases h2 : (lastV l).T < e.T
        · exact h2
        · exact absurd ⟨h0, h2⟩ h
  rw [if_neg (fun h => h1.elim (fun x => h.1 x) (fun x => h.2 x))] at he'
  have h2 : ¬ ((l.length : Int) = room ∧ lost = 70368744177664) := by
    intro h; rw [if_pos h] at he'; cases he'
  obtain ⟨⟨b1, b2, b3, b4, b5⟩, hr, hmk⟩ := hk
  obtain ⟨r1, r2⟩ := ris_iff.1 hr
  have hlast : put.length = 0 ∨ (lastV put).T < e.T := by
    by_cases h0 : put.length = 0
    · exact .inl h0
    · right
      have hl0 : l.length ≠ 0 := by omega
      have e1 := (lastV_mem hl0).1
      have e2 := (lastV_mem h0).1
      have : lastV put = lastV l := by
        rw [e1, e2, getElem!_pos put _ (by omega), getElem!_pos l _ (by omega)]
        have := congrArg (fun x : List Ev => x[l.length - 1]?) hd
        simp only [List.getElem?_drop] at this
        rw [List.getElem?_eq_getElem (by omega), List.getElem?_eq_getElem (by omega)] at this
        have e3 := Option.some.inj this
        rw [e3]
        congr 1
        omega
      rw [this]
      exact h1.resolve_left hl0
  have okp : ∀ x ∈ put ++ [e], x.ok := fun x hx => by
    rcases List.mem_append.1 hx with h | h
    · exact ho x h
    · exact (List.mem_singleton.1 h) ▸ hc.2
  have asp := asc_snoc ha hlast
  by_cases h5 : (l.length : Int) < room
  · have hp : put.length = l.length := by omega
    have hz : lost = 0 := by omega
    have hdl : l = put := by rw [hd, hp, Nat.sub_self]; rfl
    have hmark : mark = 0 := by unfold mkd at hmk; rwa [if_pos hz] at hmk
    rw [show putO lost mark l room e = lost by unfold putO; rw [if_pos he, if_pos h5], show putM lost mark l room e = mark by unfold putM; rw [if_pos he, if_pos h5],
      show putL lost mark l room e = l ++ [e] by unfold putL; rw [if_pos he, if_pos h5]]
    have hlen : (l ++ [e]).length = l.length + 1 := by simp
    have hlen2 : (put ++ [e]).length = l.length + 1 := by simp [hp]
    refine ⟨⟨⟨b1, b2, by rw [hlen]; omega, b4, b5⟩, ris_iff.2 ⟨fun x hx => okp x (by rw [← hdl]; exact hx), by rw [hdl]; exact asp⟩, ?_⟩, okp, asp, by omega, by rw [hlen, hlen2]; omega, by rw [hlen, hlen2, Nat.sub_self, hdl]; rfl, by rw [hlen, hlen2]; omega, fun h => by omega⟩
    unfold mkd; rw [if_pos hz]; exact hmark
  · have hl : (l.length : Int) = room := by omega
    rw [show putO lost mark l room e = lost + 1 by unfold putO; rw [if_pos he, if_neg h5], show putM lost mark l room e = (l[0]!).T by unfold putM; rw [if_pos he, if_neg h5],
      show putL lost mark l room e = l.drop 1 ++ [e] by unfold putL; rw [if_pos he, if_neg h5]]
    have hl0 : 0 < l.length := by omega
    have hlen : (l.drop 1 ++ [e]).length = l.length := by simp; omega
    have hlen2 : (put ++ [e]).length = put.length + 1 := by simp
    have hdr : l.drop 1 ++ [e] = (put ++ [e]).drop (put.length + 1 - l.length) := by
      rw [List.drop_append_of_le_length (by omega)]
      congr 1
      rw [show put.length + 1 - l.length = (put.length - l.length) + 1 by omega, ← List.drop_drop, ← hd]
    have has : Asc (l.drop 1 ++ [e]) := by rw [hdr]; exact asp.sublist (List.drop_sublist _ _)
    have hok0 : (l[0]!).ok := by rw [getElem!_pos l 0 hl0]; exact r1 _ (List.getElem_mem _)
    have hfirst : (l[0]!).T < ((l.drop 1 ++ [e])[0]!).T := by
      have : Asc (l ++ [e]) := asc_snoc r2 h1
      have h3 := List.pairwise_iff_getElem.1 this 0 1 (by simp) (by simp; omega) (by decide)
      rw [List.getElem_append_left hl0] at h3
      rw [getElem!_pos l 0 hl0, getElem!_pos _ 0 (by omega)]
      refine Int.lt_of_lt_of_le h3 (Int.le_of_eq (congrArg Ev.T ?_))
      have e1 : l.drop 1 ++ [e] = (l ++ [e]).drop 1 := by rw [List.drop_append_of_le_length (by omega)]
      simp only [e1, List.getElem_drop]
    refine ⟨⟨⟨b1, b2, by rw [hlen]; omega, by omega, by omega⟩, ris_iff.2 ⟨fun x hx => okp x (List.mem_of_mem_drop (by rw [← hdr]; exact hx)), has⟩, ?_⟩, okp, asp, by omega, by rw [hlen, hlen2]; omega, by rw [hlen, hlen2]; exact hdr, by rw [hlen, hlen2]; omega, fun _ x hx => ?_⟩
    · unfold mkd; rw [if_neg (by omega)]
      exact ⟨by rw [hlen]; exact hl, hok0.1, hfirst⟩
    · rw [hlen, hlen2, List.take_append_of_le_length (by omega), show put.length + 1 - l.length = (put.length - l.length) + 1 by omega] at hx
      have hi : put.length - l.length < put.length := by omega
      have e0 : put[put.length - l.length] = l[0]! := by
        have := congrArg (fun x : List Ev => x[0]?) hd
        simp only [List.getElem?_drop, Nat.add_zero] at this
        rw [List.getElem?_eq_getElem hl0, List.getElem?_eq_getElem hi] at this
        rw [getElem!_pos l 0 hl0]; exact (Option.some.inj this).symm
      rw [List.take_add_one, List.getElem?_eq_getElem hi, Option.toList_some] at hx
      rcases List.mem_append.1 hx with h | h
      · obtain ⟨i, hi2, rfl⟩ := List.mem_iff_getElem.1 h
        rw [List.getElem_take]
        have hi3 : i < put.length - l.length := by rw [List.length_take] at hi2; omega
        have := List.pairwise_iff_getElem.1 ha i (put.length - l.length) (by omega) hi hi3
        rw [e0] at this; omega
      · rw [List.mem_singleton.1 h, e0]; exact Int.le_refl _
/-- of a range, all of it -/
theorem RA.all {room lost mark : Int} {l put : List Ev} (h : RA room lost mark l put) {a b : Int} (he : rgE lost mark a b = 0) : rgL lost mark l a b = put.filter (keep a b) := by
  have hm := h.mrk
  have hlo := h.lo
  unfold rgL
  rw [if_pos he]
  have hq : put.filter (keep a b) = (put.take (put.length - l.length)).filter (keep a b) ++ l.filter (keep a b) := by
    conv => lhs; rw [← List.take_append_drop (put.length - l.length) put]
    rw [List.filter_append, ← h.dr]
  suffices hz : (put.take (put.length - l.length)).filter (keep a b) = [] from by rw [hq, hz, List.nil_append]
  refine List.filter_eq_nil_iff.2 ?_
  intro x hx hk
  have hk' : a ≤ x.T ∧ x.T < b := of_decide_eq_true hk
  unfold rgE at he
  by_cases h1 : b ≤ a
  · rw [if_pos h1] at he; cases he
  · rw [if_neg h1] at he
    by_cases h2 : 0 < lost ∧ a ≤ mark
    · rw [if_pos h2] at he; cases he
    · have h0 : 0 < lost := by
        have := List.length_pos_of_mem hx
        rw [List.length_take] at this
        have := h.le
        omega
      have := hm h0 x hx
      omega
theorem within {lost mark a b c d : Int} (h : rgE lost mark a b = 0) (h1 : ¬ c < a) (h2 : ¬ b < d) (h3 : ¬ d ≤ c) : rgE lost mark c d = 0 := by
  unfold rgE at h ⊢
  rw [if_neg h3]
  by_cases h4 : b ≤ a
  · rw [if_pos h4] at h; cases h
  · rw [if_neg h4] at h
    by_cases h5 : 0 < lost ∧ a ≤ mark
    · rw [if_pos h5] at h; cases h
    · rw [if_neg (by omega)]
theorem rgL_none {lost mark : Int} {l : List Ev} {a b : Int} (h : rgE lost mark a b ≠ 0) : rgL lost mark l a b = [] := if_neg h
end Raw
end Go.Proofs.Ytjfgjkecmdgpgaa

/- CellParts, as it is walked. -/
import Derived.Test.YtmkniohbcakglaaCellL
import Derived.Test.YtmkniohbcakglaaEventR
set_option linter.unusedSimpArgs false
set_option linter.unusedVariables false
set_option linter.unusedSectionVars false
set_option maxRecDepth 20000
namespace Go.Proofs.Ytmkniohbcakglaa
open Go Go.J
attribute [local irreducible] At AtQ AtM AtM1 PR Ct Pu Rd Res.blk Res.own Res.ex RVs RV
namespace Cell
open Ev Wide
theorem upto_all {l : List Ev} (ok : Mrg.aok l) (ha : Mrg.asc l) (hV : ∀ e ∈ l, e.V < 18446744073709551616) : ∀ i, i ≤ l.length → Upto l i ((l.take i).foldl add z)
  | 0, _ => Upto.zero l
  | i + 1, h => by
    have ih := upto_all ok ha hV i (by omega)
    have hn := (ih.next h ok hV (by
      rcases Nat.eq_zero_or_pos i with h0 | h0
      · exact .inl h0
      · have := ha (i - 1) (by omega)
        rw [show i - 1 + 1 = i by omega] at this
        exact .inr this)).1
    rw [fold_take h]
    exact hn
theorem fold_in {l : List Ev} (h : Mrg.chk l = 0) (hV : ∀ e ∈ l, e.V < 18446744073709551616) : In (l.foldl add z) ∧ ok (l.foldl add z) := by
  obtain ⟨h1, h2⟩ := Mrg.chk_zero.1 h
  have hu := upto_all (Mrg.aok_iff.2 h1) (Mrg.asc_to h2) hV l.length (Nat.le_refl _)
  rw [List.take_length] at hu
  refine ⟨hu.inn, ?_⟩
  rcases hu.st with h0 | h0
  · have : l = [] := List.eq_nil_of_length_eq_zero h0
    subst this; exact .inl rfl
  · exact .inr h0.1
theorem of_right {l : List Ev} (h : Mrg.chk l = 0) : ofL l = (l.foldl add z, 0) := by unfold ofL; rw [h]; rfl
theorem chk_sub {l l' : List Ev} (h : Mrg.chk l = 0) (hs : l'.Sublist l) : Mrg.chk l' = 0 := by
  obtain ⟨h1, h2⟩ := Mrg.chk_zero.1 h
  exact Mrg.chk_zero.2 ⟨fun e he => h1 e (hs.subset he), h2.sublist hs⟩
theorem rise_fold {l : List Ev} (h : Mrg.chk l = 0) (hV : ∀ e ∈ l, e.V < 18446744073709551616) : rise l = ((l.foldl add z).I, 0) := by
  obtain ⟨h1, h2⟩ := Mrg.chk_zero.1 h
  have ok := Mrg.aok_iff.2 h1
  have ha := Mrg.asc_to h2
  have key : ∀ i, i ≤ l.length → eU l i = 0 ∧ sU l i = ((l.take i).foldl add z).I := by
    intro i
    induction i with
    | zero => intro _; exact ⟨rfl, rfl⟩
    | succ i ih =>
      intro hi
      obtain ⟨g1, g2⟩ := ih (by omega)
      have hu := upto_all ok ha hV i (by omega)
      rw [fold_take hi]
      rcases i with _ | j
      · exact ⟨rfl, rfl⟩
      · have hlt : (l[j]!).T < (l[j + 1]!).T := ha j (by omega)
        have hb := btw_bd (ok j (by omega)) (ok (j + 1) hi) hlt
        obtain ⟨fx, xL⟩ := hu.st.resolve_left (Nat.succ_ne_zero j)
        have xL' : ((l.take (j + 1)).foldl add z).L = l[j]! := xL
        constructor
        · rw [eU, if_neg (fun h => h g1), if_neg (Nat.succ_ne_zero j)]
          exact hb.w
        · rw [sU, if_neg (Nat.succ_ne_zero j), g2, show add ((l.take (j + 1)).foldl add z) (l[j + 1]!) = join ((l.take (j + 1)).foldl add z) (one (l[j + 1]!)) from if_neg fx.ne]
          show _ + (btw (l[j + 1 - 1]!) (l[j + 1]!)).1.I = _ + (btw ((l.take (j + 1)).foldl add z).L (l[j + 1]!)).1.I + 0
          rw [xL']; rfl
  obtain ⟨k1, k2⟩ := key l.length (Nat.le_refl _)
  rw [List.take_length] at k2
  unfold rise
  by_cases hl : l.length = 1
  · rw [if_pos hl]
    have e0 : (l[0]!).chk = 0 := if_pos (ok 0 (by omega))
    rw [hl] at k2
    rw [e0, ← k2]
    rfl
  · rw [if_neg hl, if_neg (fun h => h k1), k2]
end Cell
end Go.Proofs.Ytmkniohbcakglaa

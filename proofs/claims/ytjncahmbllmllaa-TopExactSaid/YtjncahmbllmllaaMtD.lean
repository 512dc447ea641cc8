/- Matchers (plain): labels that are asked for are hit; a law's arguments. -/
import Derived.Test.YtjncahmbllmllaaMtE
import Derived.Test.YtjncahmbllmllaaJD
import Derived.Test.YtjncahmbllmllaaJT
set_option linter.unusedSimpArgs false
set_option linter.unusedVariables false
set_option linter.unusedSectionVars false
set_option maxRecDepth 20000
set_option maxHeartbeats 4000000
namespace Go.Proofs.Ytjncahmbllmllaa
open Go Go.J
namespace Lb
theorem right_lt {l : List Lab} (h : right l) : ∀ (d i : Nat), i + d + 1 < l.length → ltB l[i]!.n l[i + d + 1]!.n = true
  | 0, i, hi => by
    have := (of_decide_eq_true (h.2.2.1 (i + 0 + 1) hi)).2.2 (by omega)
    simpa using this
  | d + 1, i, hi => by
    have h1 := right_lt h d i (by omega)
    have h2 := (of_decide_eq_true (h.2.2.1 (i + (d + 1) + 1) hi)).2.2 (by omega)
    have h3 : ltB l[i + d + 1]!.n l[i + (d + 1) + 1]!.n = true := by rw [show i + d + 1 = i + (d + 1) + 1 - 1 by omega]; exact h2
    exact ltB_trans h1 h3
theorem val_right {l : List Lab} (h : right l) {x : Lab} (hx : x ∈ l) : val l x.n = x.v := by
  obtain ⟨i, hi, rfl⟩ := List.mem_iff_getElem.1 hx
  have e : l[i]! = l[i] := getElem!_pos l i hi
  rw [← e]
  refine val_at hi rfl fun k hk => ?_
  have := right_lt h (i - k - 1) k (by omega)
  rw [show k + (i - k - 1) + 1 = i by omega] at this
  exact ltB_ne this
end Lb
namespace Mt
theorem all_snoc (ms : List Mat) (x : Mat) (l : List Lab) : all (ms ++ [x]) l = (all ms l && hit x l) := by
  rw [Bool.eq_iff_iff, Bool.and_eq_true]
  unfold all
  rw [decide_eq_true_eq, decide_eq_true_eq]
  constructor
  · intro h
    refine ⟨fun i hi => ?_, ?_⟩
    · have := h i (by simp; omega)
      rwa [getElem!_pos _ i (by simp; omega), List.getElem_append_left hi, ← getElem!_pos ms i hi] at this
    · have := h ms.length (by simp)
      rw [getElem!_pos _ ms.length (by simp), List.getElem_append_right (Nat.le_refl _)] at this
      simpa using this
  · rintro ⟨h1, h2⟩ i hi
    rw [getElem!_pos _ i hi]
    by_cases e : i < ms.length
    · rw [List.getElem_append_left e]
      have := h1 i e
      rwa [getElem!_pos ms i e] at this
    · rw [List.getElem_append_right (by omega)]
      simpa using h2
theorem ex_all {ms : List Mat} (h : exB ms = true) : all ms (exL ms) = true ∧ (exL ms).length = ms.length := by
  obtain ⟨h1, h2⟩ := of_decide_eq_true h
  have e := (ex_yes ⟨h1, h2⟩).2
  rw [e]
  refine ⟨decide_eq_true fun i hi => ?_, len_lab ms⟩
  rw [hit1 (h1 i hi).1]
  refine decide_eq_true ?_
  exact Lb.val_right (x := lab ms[i]!) h2 (Lb.mem_srt.2 (List.mem_map.2 ⟨_, Ls.mem! hi, rfl⟩))
theorem eq_other (x : Mat) (l : List Lab) : hit { x with k := 2 } l = !hit { x with k := 1 } l := by
  rw [hit1 (x := { x with k := 1 }) rfl, hit2 (x := { x with k := 2 }) rfl]
theorem eq_begins (x : Mat) (l : List Lab) (h : hit { x with k := 1 } l = true) : hit { x with k := 3 } l = true := by
  rw [hit1 (x := { x with k := 1 }) rfl] at h
  rw [hit3 (x := { x with k := 3 }) rfl]
  have := of_decide_eq_true h
  exact decide_eq_true (by rw [this]; exact List.prefix_refl _)
open Go.RowKit
theorem dec_lab {H : Type} {enc : TypeId × Value → H} {P : Program} {W : World} : ∀ cs, Go.J.Fit enc P W [.str, .str] cs → ∃ a : Lab, cs = Lb.cells a ∧ True := by
  intro cs h
  obtain ⟨_, _, rfl, h1, h⟩ := h.cons
  obtain ⟨_, _, rfl, h2, h⟩ := h.cons
  obtain rfl := h.nil
  obtain ⟨a, rfl, _⟩ := h1.str
  obtain ⟨t, rfl, _⟩ := h2.str
  exact ⟨⟨a, t⟩, rfl, trivial⟩
theorem dec_mat {H : Type} {enc : TypeId × Value → H} {P : Program} {W : World} : ∀ cs, Go.J.Fit enc P W [.int .u8, .str, .str] cs → ∃ a : Mat, cs = cells a ∧ a.k < 256 := by
  intro cs h
  obtain ⟨_, _, rfl, h0, h⟩ := h.cons
  obtain ⟨_, _, rfl, h1, h⟩ := h.cons
  obtain ⟨_, _, rfl, h2, h⟩ := h.cons
  obtain rfl := h.nil
  obtain ⟨k, rfl, wk⟩ := h0.int
  obtain ⟨a, rfl, _⟩ := h1.str
  obtain ⟨t, rfl, _⟩ := h2.str
  have hb : 0 ≤ k ∧ k ≤ 255 := by
    simp only [Lit.wf, IntKind.min, IntKind.max, IntKind.signed, IntKind.bits, Bool.and_eq_true, decide_eq_true_eq] at wk
    simpa using wk
  exact ⟨⟨k.toNat, a, t⟩, by show _ = [Value.int .u8 (k.toNat : Int), _, _]; rw [Int.toNat_of_nonneg hb.1], by show k.toNat < 256; omega⟩
theorem dec_lbs {H : Type} {enc : TypeId × Value → H} {W : World} : ∀ cs, Go.J.Fit enc Try.prog W [.sl 22] cs → ∃ x : SL, cs = Ls.fX x ∧ Sl (memOf W) Lb.cells 2 x.p x.c x.l := by
  intro cs h
  obtain ⟨v, _, rfl, h1, h⟩ := h.cons
  obtain rfl := h.nil
  obtain ⟨p, c, l, rfl, h2, _⟩ := Fit1.sl (f := Lb.cells) inferInstance (fun _ => True) Try.underlying22 (by rfl) (dec_flat' [.str, .str] (by kernel_rfl) dec_lab) h1
  exact ⟨⟨l, p, c⟩, rfl, h2⟩
end Mt
end Go.Proofs.Ytjncahmbllmllaa

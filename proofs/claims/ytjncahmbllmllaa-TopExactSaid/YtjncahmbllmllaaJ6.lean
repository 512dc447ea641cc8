/- Regions that draw their order: a head of operations that are quiet, then a tail that is forced. -/
import Derived.Test.YtjncahmbllmllaaJ5
import Derived.StillTail
set_option linter.unusedSimpArgs false
set_option linter.unusedVariables false
set_option linter.unusedSectionVars false
set_option maxRecDepth 20000
namespace Go.J
open Go

def edgesBack (l : List Oper) : Bool := l.zipIdx.all fun (o, i) => o.after.all (fun e => !Region.binds .any e || decide (e.on < i)) && (match o.guard with | some (j, _) => decide (j < i) | none => true)

/-- what is asked of a region whose first N operations are quiet, the others forced -/
def tailB (l : List Oper) (N : Nat) : Bool :=
  decide (N < l.length) && edgesBack (l.take N) && Region.lexB .any (l.take N).toArray && Region.sinkB .any l.toArray N && Region.chainB .any l.toArray N &&
  Region.seqB .any l.toArray (l.length - N) N (Array.replicate N true ++ Array.replicate (l.length - N) false)

theorem edgesBack_spec {l : List Oper} (h : edgesBack l = true) {i : Nat} {o : Oper} (ho : l[i]? = some o) : (∀ e ∈ o.after, Region.binds .any e = true → e.on < i) ∧ (∀ j b, o.guard = some (j, b) → j < i) := by
  unfold edgesBack at h
  have hm : (o, i) ∈ l.zipIdx := by
    rw [List.mem_zipIdx_iff_getElem?]; exact ho
  have := List.all_eq_true.1 h _ hm
  simp only [Bool.and_eq_true] at this
  refine ⟨fun e he hb => ?_, fun j b hg => ?_⟩
  · have h1 := Array.all_eq_true_iff_forall_mem.1 this.1 e he
    simpa [hb] using h1
  · have h2 := this.2
    rw [hg] at h2
    simpa using h2

section
variable {P : Program} {n : Nat} {w0 : World} {F : Fr} {m : Mem} {Rs : List Res} {Q : Exit → Act → World → Prop} {C : World → Prop}

theorem getD_app (lh : Array Bool) (g i : Nat) (b : Bool) (hi : i < lh.size) : (lh ++ Array.replicate g false).getD i b = lh.getD i b := by
  simp [Array.getElem?_append_left hi]

/-- the head's part: whatever order it comes in -/
theorem head_any {l : List Oper} {N g : Nat} {T : Act → Prop} (hN : N < l.length) (hg : g = l.length - N) (hE : edgesBack (l.take N) = true) (hs : Region.sinkB .any l.toArray N = true) (hc : Region.chainB .any l.toArray N = true)
    (hT : ∀ a w, C w → T a → wpAny P .any l.toArray Q g (Array.replicate N true ++ Array.replicate g false) a w) :
    ∀ (f : Nat) (lh : Array Bool) (a : Act) (w : World), lh.size = N → lh.toList.count false = f → HeadInv .any l.toArray N (lh ++ Array.replicate g false) → C w → wpAnyQ P .any (l.take N).toArray C T f lh a →
      wpAny P .any l.toArray Q (f + g) (lh ++ Array.replicate g false) a w := by
  have hget : ∀ i, i < N → (l.take N).toArray[i]? = l.toArray[i]? := fun i hi => by simp [List.getElem?_take, hi]
  intro f
  induction f with
  | zero =>
    intro lh a w hsz hcnt _ hw h
    have hall : lh = Array.replicate N true := by
      apply Array.ext (by simp [hsz])
      intro i h1 h2
      have := List.count_eq_zero.1 hcnt
      simp only [Array.getElem_replicate]
      cases hb : lh[i] with
      | true => rfl
      | false => exact absurd (by rw [← hb]; simp) this
    rw [Nat.zero_add, hall]
    exact hT a w hw h.2
  | succ f ih =>
    intro lh a w hsz hcnt inv hw h
    -- the least one that has not come up
    have hex : ∃ i, i < N ∧ lh.getD i true = false := by
      have : false ∈ lh.toList := by
        apply Classical.byContradiction; intro hn
        rw [List.count_eq_zero.2 hn] at hcnt; omega
      obtain ⟨i, hi, he⟩ := List.getElem_of_mem this
      simp only [Array.length_toList] at hi
      refine ⟨i, by omega, ?_⟩
      simp only [Array.getElem_toList] at he
      simp [hi, he]
    have hmin : ∃ i, (i < N ∧ lh.getD i true = false) ∧ ∀ j, j < i → ¬ (j < N ∧ lh.getD j true = false) := by
      have key : ∀ k, (∃ i, i ≤ k ∧ i < N ∧ lh.getD i true = false) → ∃ i, (i < N ∧ lh.getD i true = false) ∧ ∀ j, j < i → ¬ (j < N ∧ lh.getD j true = false) := by
        intro k
        induction k with
        | zero => rintro ⟨i, h1, h2⟩; exact ⟨i, h2, fun j hj => by omega⟩
        | succ k ihk =>
          rintro ⟨i, h1, h2⟩
          by_cases hb : ∃ i, i ≤ k ∧ i < N ∧ lh.getD i true = false
          · exact ihk hb
          · exact ⟨i, h2, fun j hj hj' => hb ⟨j, by omega, hj'⟩⟩
      obtain ⟨i, h1⟩ := hex
      exact key i ⟨i, Nat.le_refl _, h1⟩
    obtain ⟨i0, ⟨hi0, hun0⟩, hleast⟩ := hmin
    have hlt : ∀ t, N ≤ t → t ∉ Region.ready .any l.toArray (lh ++ Array.replicate g false) :=
      tail_waits hs hc (by simpa using hN) inv _ i0 rfl hi0 (by rw [getD_app _ _ _ _ (by omega)]; exact hun0)
    -- what may come up is the head's
    have hready : ∀ i, i < N → (i ∈ Region.ready .any l.toArray (lh ++ Array.replicate g false) ↔ i ∈ Region.ready .any (l.take N).toArray lh) := fun i hi => by
      rw [mem_ready, mem_ready, getD_app _ _ _ _ (by omega), hget i hi]
      constructor
      · rintro ⟨h1, o, ho, h2⟩
        have ho' : (l.take N)[i]? = some o := by rw [← ho]; simp [List.getElem?_take, hi]
        refine ⟨h1, o, ho, fun e he hb => ?_⟩
        have := (edgesBack_spec hE ho').1 e he hb
        have h3 := h2 e he hb
        rwa [getD_app _ _ _ _ (by omega)] at h3
      · rintro ⟨h1, o, ho, h2⟩
        have ho' : (l.take N)[i]? = some o := by rw [← ho]; simp [List.getElem?_take, hi]
        refine ⟨h1, o, ho, fun e he hb => ?_⟩
        have := (edgesBack_spec hE ho').1 e he hb
        rw [getD_app _ _ _ _ (by omega)]
        exact h2 e he hb
    rw [show f + 1 + g = (f + g) + 1 by omega]
    refine ⟨fun h0 => ?_, fun i hi => ?_⟩
    · exfalso
      have hol : i0 < l.length := by omega
      have ho' : (l.take N)[i0]? = some l[i0] := by simp [hi0, hol]
      have : i0 ∈ Region.ready .any l.toArray (lh ++ Array.replicate g false) := by
        rw [hready i0 hi0, mem_ready]
        refine ⟨hun0, l[i0], by simpa using ho', fun e he hb => ?_⟩
        have hb' := (edgesBack_spec hE ho').1 e he hb
        have hl := hleast e.on hb'
        cases hc' : lh.getD e.on true with
        | false => exact absurd ⟨by omega, hc'⟩ hl
        | true =>
          have : e.on < lh.size := by omega
          simp [this] at hc' ⊢; exact hc'
      rw [h0] at this; cases this
    · have hiN : i < N := Nat.lt_of_not_le fun hle => hlt i hle hi
      have hir := (hready i hiN).1 hi
      have hq := h.2 i hir
      have hun := (mem_ready.1 hir).1
      have hset : (lh ++ Array.replicate g false).setIfInBounds i true = lh.setIfInBounds i true ++ Array.replicate g false := by
        rw [Array.setIfInBounds_append]
        simp [show i < lh.size by omega]
      rw [hset]
      have hcnt' : (lh.setIfInBounds i true).toList.count false = f := by
        have hi' : i < lh.size := by omega
        have : lh[i] = false := by simpa [hi'] using hun
        rw [Array.toList_setIfInBounds]
        have h1 := List.count_set (a := true) (b := false) (l := lh.toList) (i := i) (by simpa using hi')
        rw [h1]
        simp [this, hcnt]
      have inv' : HeadInv .any l.toArray N (lh.setIfInBounds i true ++ Array.replicate g false) := by
        rw [← hset]; exact inv.set hi hiN
      -- the step itself
      unfold qOp at hq
      unfold wpOp
      rw [hget i hiN] at hq
      have hio : i < l.length := by omega
      have ho : l.toArray[i]? = some l[i] := by simp [hio]
      rw [ho] at hq ⊢
      simp only at hq ⊢
      have hwant : Region.wanted l[i] (yielded (l.take N).toArray a.tmps) = Region.wanted l[i] (yielded l.toArray a.tmps) := by
        unfold Region.wanted
        cases hgd : l[i].guard with
        | none => rfl
        | some jb =>
          obtain ⟨j, b⟩ := jb
          have := (edgesBack_spec hE (show (l.take N)[i]? = some l[i] by simp [hiN, hio])).2 j b hgd
          simp only [yielded, hget j (by omega)]
      rw [hwant] at hq
      by_cases hw' : Region.wanted l[i] (yielded l.toArray a.tmps) = true
      · simp only [hw', if_true] at hq ⊢
        exact .inl (Oper.wp_of_quiet hw (fun a' w' hw' h' => ih _ a' w' (by simp [hsz]) hcnt' inv' hw' h') hq)
      · simp only [hw', if_false, Bool.false_eq_true] at hq ⊢
        exact ih _ _ w (by simp [hsz]) hcnt' inv' hw hq

theorem At.quiet_tail {id : Nat} {l0 l : List Oper} (N : Nat) (e : flat l0 = some l) (hm : P.follows .mixedOrders = true) (hB : tailB l N = true)
    (h : AtQ P n F (HW w0 m Rs) (l.take N).toArray (fun a' => ∀ w', HW w0 m Rs w' → wpList P l.toArray Q (l.drop N) a' w') (l.take N)) : At n w0 F m Rs ((Code.region id l0.toArray true).wp P Q) := fun a w ha hw => by
  have := flat_eq l0 l e; subst this
  simp only [tailB, Bool.and_eq_true, decide_eq_true_eq] at hB
  obtain ⟨⟨⟨⟨⟨hN, hE⟩, hL⟩, hs⟩, hc⟩, hseq⟩ := hB
  have htl : (l.take N).length = N := by simp; omega
  simp only [Region.lexB, Bool.and_eq_true] at hL
  refine wp_region_any hm ?_
  have h1 := wpAnyQ_lex (C := HW w0 m Rs) (md := .any) hL.1 (l.take N) 0 (Array.replicate (l.take N).toArray.size false) a (by simp) (by simpa using hL.2) (h a ha)
  have hrep : Array.replicate l.toArray.size false = Array.replicate N false ++ Array.replicate (l.length - N) false := by
    rw [Array.replicate_append_replicate]; congr 1; simp; omega
  rw [hrep]
  have := head_any (P := P) (Q := Q) (C := HW w0 m Rs) (T := fun a' => ∀ w', HW w0 m Rs w' → wpList P l.toArray Q (l.drop N) a' w') hN rfl hE hs hc
    (fun a' w' hw' hT => by
      have hx := wpAny_of_seq (P := P) (md := .any) (Q' := Q) (l.drop N) N (Array.replicate N true ++ Array.replicate (l.length - N) false) a' w' (fun j => by simp [List.getElem?_drop]) (by simpa using hseq) (hT w' hw')
      simpa using hx)
    N (Array.replicate N false) a { w with drawn := w.drawn + 1 } (by simp) (by simp) ?_ (hw.drawn _) (by simpa [htl, Nat.min_eq_left (Nat.le_of_lt hN)] using h1)
  · have e2 : l.toArray.size = N + (l.length - N) := by simp; omega
    rw [e2]; exact this
  · refine ⟨by simp; omega, fun j oj _ hl => ?_, fun t _ ht => ?_⟩
    · exfalso
      rw [Array.replicate_append_replicate, getD_replicate_false] at hl; cases hl
    · rw [Array.replicate_append_replicate]
      exact getD_in (by simp at ht ⊢; omega) (getD_replicate_false _ _)

theorem AtQ.done {ops : Array Oper} {l : List Oper} {K : Act → World → Prop} (h : At n w0 F m Rs K) : AtQ P n F (HW w0 m Rs) ops (fun a' => ∀ w', HW w0 m Rs w' → K a' w') [] := fun a ha => wpQuiet_nil fun w' hw' => h a w' ha hw'
end
end Go.J

/- Part 5 of what the law's proof needs: rules of the walk, contracts of functions, plain laws. No condition. -/
import Derived.Test.YtmnlmmbfjfgfeaaDoorQu4Z4
import Derived.Shelf.SlSortCmp.NoneTotal
import Derived.Test.YtmnlmmbfjfgfeaaDoorProg
import Derived.Test.YtmnlmmbfjfgfeaaDoorRows
import Derived.Laws.MathBits
import Derived.ProofKit
import Derived.OpenShut
import Derived.Below
import Derived.Carry
import Derived.Lib.ItoaNum
import Derived.Lib.BitFns
import Derived.Laws.AppendOwn
import Derived.Shelf.Strconv.AppendInt10
import Derived.Shelf.Small.Bits
import Derived.Shelf.Spec.BitsCarry
import Derived.Lib.TrailingZeros
/- Quantiles, in plain words: fractions of small numbers, their order, sorting. -/
set_option linter.unusedSimpArgs false
set_option linter.unusedVariables false
set_option linter.unusedSectionVars false
set_option maxRecDepth 20000
set_option maxHeartbeats 4000000
namespace Go.Proofs.YtmnlmmbfjfgfeaaDoor
open Go.Sort
namespace Qu
/-- a right fraction of small numbers -/
def Sm (p : Nat × Nat) : Prop := p.1 < 18446744073709551616 ∧ p.2 < 18446744073709551616 ∧ 0 < p.2 ∧ Nat.gcd p.1 p.2 = 1
abbrev S : Type := { p : Nat × Nat // Sm p }
instance instS : Inhabited S := ⟨⟨(0, 1), by decide, by decide, by decide, by decide⟩⟩
def lq (x y : Nat × Nat) : Bool := decide (x.1 * y.2 ≤ y.1 * x.2)
def cfi (x y : Nat × Nat) : Int := if x.1 * y.2 < y.1 * x.2 then -1 else if y.1 * x.2 < x.1 * y.2 then 1 else 0
def cf (x y : S) : Int := cfi x.1 y.1
theorem lt_of {x y : S} : ltOf cf x y = decide (x.1.1 * y.1.2 < y.1.1 * x.1.2) := by
  unfold ltOf cf cfi
  by_cases h : x.1.1 * y.1.2 < y.1.1 * x.1.2
  · rw [if_pos h]; simp [h]
  · rw [if_neg h]
    by_cases h2 : y.1.1 * x.1.2 < x.1.1 * y.1.2
    · rw [if_pos h2]; simp [h]
    · rw [if_neg h2]; simp [h]
theorem tr (a b c d e f : Nat) (hd : 0 < d) (h1 : a * d ≤ c * b) (h2 : c * f ≤ e * d) : a * f ≤ e * b := by
  have h : d * (a * f) ≤ d * (e * b) :=
    calc d * (a * f) = (a * d) * f := by rw [← Nat.mul_assoc, Nat.mul_comm d a]
      _ ≤ (c * b) * f := Nat.mul_le_mul_right _ h1
      _ = (c * f) * b := Nat.mul_right_comm _ _ _
      _ ≤ (e * d) * b := Nat.mul_le_mul_right _ h2
      _ = d * (e * b) := by rw [Nat.mul_comm e d, Nat.mul_assoc]
  exact Nat.le_of_mul_le_mul_left h hd
theorem trs (a b c d e f : Nat) (hf : 0 < f) (h1 : a * d < c * b) (h2 : c * f ≤ e * d) : a * f < e * b := by
  have h : d * (a * f) < d * (e * b) :=
    calc d * (a * f) = (a * d) * f := by rw [← Nat.mul_assoc, Nat.mul_comm d a]
      _ < (c * b) * f := Nat.mul_lt_mul_of_pos_right h1 hf
      _ = (c * f) * b := Nat.mul_right_comm _ _ _
      _ ≤ (e * d) * b := Nat.mul_le_mul_right _ h2
      _ = d * (e * b) := by rw [Nat.mul_comm e d, Nat.mul_assoc]
  exact Nat.lt_of_mul_lt_mul_left h
theorem lq_trans {x y z : Nat × Nat} (hy : Sm y) (h1 : lq x y = true) (h2 : lq y z = true) : lq x z = true :=
  decide_eq_true (tr x.1 x.2 y.1 y.2 z.1 z.2 hy.2.2.1 (of_decide_eq_true h1) (of_decide_eq_true h2))
theorem lq_total (x y : Nat × Nat) : (lq x y || lq y x) = true := by
  unfold lq
  rcases Nat.le_total (x.1 * y.2) (y.1 * x.2) with h | h
  · rw [decide_eq_true h]; rfl
  · rw [decide_eq_true h]; exact Bool.or_true _
theorem lq_not {x y : Nat × Nat} (h : lq x y = false) : lq y x = true := by
  have := lq_total x y; rw [h] at this; exact this
theorem lq_anti {x y : Nat × Nat} (hx : Sm x) (hy : Sm y) (h1 : lq x y = true) (h2 : lq y x = true) : x = y := by
  have e : x.1 * y.2 = y.1 * x.2 := Nat.le_antisymm (of_decide_eq_true h1) (of_decide_eq_true h2)
  obtain ⟨a, b⟩ := x
  obtain ⟨c, d⟩ := y
  have hbd : b ∣ d := Nat.Coprime.dvd_of_dvd_mul_left (show Nat.Coprime b a from (Nat.gcd_comm b a).trans hx.2.2.2) ⟨c, by rw [Nat.mul_comm b c]; exact e⟩
  have hdb : d ∣ b := Nat.Coprime.dvd_of_dvd_mul_left (show Nat.Coprime d c from (Nat.gcd_comm d c).trans hy.2.2.2) ⟨a, by rw [Nat.mul_comm d a]; exact e.symm⟩
  have h : b = d := Nat.dvd_antisymm hbd hdb
  subst h
  have : a = c := Nat.eq_of_mul_eq_mul_right hx.2.2.1 e
  rw [this]
theorem swo : Sort.SWO (ltOf cf) where
  irrefl x := by rw [lt_of]; exact decide_eq_false (Nat.lt_irrefl _)
  trans x y z h1 h2 := by
    rw [lt_of] at *
    exact decide_eq_true (trs _ _ _ _ _ _ z.2.2.2.1 (of_decide_eq_true h1) (Nat.le_of_lt (of_decide_eq_true h2)))
  ntrans x y z h1 h2 := by
    rw [lt_of] at *
    have h1 := Nat.not_lt.1 (of_decide_eq_false h1)
    have h2 := Nat.not_lt.1 (of_decide_eq_false h2)
    exact decide_eq_false (Nat.not_lt.2 (tr _ _ _ _ _ _ y.2.2.2.1 h2 h1))
theorem not_lt_of (x y : S) : (!ltOf cf y x) = lq x.1 y.1 := by
  rw [lt_of]
  unfold lq
  by_cases h : y.1.1 * x.1.2 < x.1.1 * y.1.2
  · rw [decide_eq_true h, decide_eq_false (Nat.not_le.2 h)]; rfl
  · rw [decide_eq_false h, decide_eq_true (Nat.not_lt.1 h)]; rfl
theorem cf_T (x y : S) (h1 : ltOf cf x y = false) (h2 : ltOf cf y x = false) : x = y := by
  have k1 := not_lt_of y x
  have k2 := not_lt_of x y
  rw [h1] at k1
  rw [h2] at k2
  exact Subtype.ext (lq_anti x.2 y.2 k2.symm k1.symm)
def srt (l : List (Nat × Nat)) : List (Nat × Nat) := l.mergeSort lq
theorem srt_map (L : List S) : (L.mergeSort fun x y => !ltOf cf y x).map Subtype.val = srt (L.map Subtype.val) :=
  List.map_mergeSort fun a _ b _ => not_lt_of a b
theorem lift {l : List (Nat × Nat)} (h : ∀ p ∈ l, Sm p) : ∃ L : List S, l = L.map Subtype.val := by
  refine ⟨l.attach.map fun p => ⟨p.1, h p.1 p.2⟩, ?_⟩
  rw [List.map_map]
  exact (List.attach_map_subtype_val l).symm
theorem srt_perm (l : List (Nat × Nat)) : (srt l).Perm l := List.mergeSort_perm _ _
theorem srt_len (l : List (Nat × Nat)) : (srt l).length = l.length := (srt_perm l).length_eq
theorem srt_mem {l : List (Nat × Nat)} {p : Nat × Nat} : p ∈ srt l ↔ p ∈ l := (srt_perm l).mem_iff
theorem srt_up {l : List (Nat × Nat)} (h : ∀ p ∈ l, Sm p) : (srt l).Pairwise fun x y => lq x y = true := by
  obtain ⟨L, rfl⟩ := lift h
  rw [← srt_map, List.pairwise_map]
  have k := List.pairwise_mergeSort (le := fun x y : S => lq x.1 y.1) (fun a b c h1 h2 => lq_trans b.2 h1 h2) (fun a b => lq_total a.1 b.1) L
  have e : (fun x y : S => !ltOf cf y x) = fun x y => lq x.1 y.1 := funext fun x => funext fun y => not_lt_of x y
  rw [e]
  exact k
theorem uniq {a b : List (Nat × Nat)} (h : ∀ p ∈ a, Sm p) (ha : a.Pairwise fun x y => lq x y = true) (hb : b.Pairwise fun x y => lq x y = true) (hp : a.Perm b) : a = b :=
  List.Perm.eq_of_pairwise (le := fun x y => lq x y = true) (fun x y hx hy => lq_anti (h x hx) (h y (hp.mem_iff.2 hy))) ha hb hp
/-- the same ones, in whatever order, are sorted alike -/
theorem srt_alike {a b : List (Nat × Nat)} (h : ∀ p ∈ a, Sm p) (hp : a.Perm b) : srt a = srt b :=
  uniq (fun p hp => h p (srt_mem.1 hp)) (srt_up h) (srt_up fun p hq => h p (hp.mem_iff.2 hq)) (((srt_perm a).trans hp).trans (srt_perm b).symm)
/-- put in behind all that are no greater -/
def ins (f : Nat × Nat) (o : List (Nat × Nat)) : List (Nat × Nat) := o.takeWhile (fun y => lq y f) ++ f :: o.dropWhile (fun y => lq y f)
def isrt (l : List (Nat × Nat)) : List (Nat × Nat) := l.foldl (fun o f => ins f o) []
theorem ins_perm (f : Nat × Nat) (o : List (Nat × Nat)) : (ins f o).Perm (f :: o) := by
  unfold ins
  refine List.perm_middle.trans ?_
  rw [List.takeWhile_append_dropWhile]
theorem ins_up {f : Nat × Nat} {o : List (Nat × Nat)} (hf : Sm f) (h : ∀ p ∈ o, Sm p) (ho : o.Pairwise fun x y => lq x y = true) : (ins f o).Pairwise fun x y => lq x y = true := by
  induction o with
  | nil => exact List.pairwise_singleton _ _
  | cons y o ih =>
    unfold ins
    obtain ⟨hy, ho⟩ := List.pairwise_cons.1 ho
    by_cases hl : lq y f = true
    · rw [List.takeWhile_cons_of_pos (p := fun y => lq y f) hl, List.dropWhile_cons_of_pos (p := fun y => lq y f) hl, List.cons_append, List.pairwise_cons]
      refine ⟨fun z hz => ?_, ih (fun p hp => h p (List.mem_cons_of_mem _ hp)) ho⟩
      rcases List.mem_cons.1 ((ins_perm f o).mem_iff.1 hz) with rfl | hz
      · exact hl
      · exact hy z hz
    · rw [List.takeWhile_cons_of_neg (p := fun y => lq y f) hl, List.dropWhile_cons_of_neg (p := fun y => lq y f) hl, List.nil_append, List.pairwise_cons]
      have hfy := lq_not (Bool.eq_false_iff.2 hl)
      refine ⟨fun z hz => ?_, List.pairwise_cons.2 ⟨hy, ho⟩⟩
      rcases List.mem_cons.1 hz with rfl | hz
      · exact hfy
      · exact lq_trans (h y (List.mem_cons_self ..)) hfy (hy z hz)
theorem isrt_aux (l o : List (Nat × Nat)) (hl : ∀ p ∈ l, Sm p) (h : ∀ p ∈ o, Sm p) (ho : o.Pairwise fun x y => lq x y = true) : (l.foldl (fun o f => ins f o) o).Perm (l ++ o) ∧ (l.foldl (fun o f => ins f o) o).Pairwise fun x y => lq x y = true := by
  induction l generalizing o with
  | nil => exact ⟨List.Perm.refl _, ho⟩
  | cons f l ih =>
    have hf := hl f (List.mem_cons_self ..)
    obtain ⟨k1, k2⟩ := ih (ins f o) (fun p hp => hl p (List.mem_cons_of_mem _ hp)) (fun p hp => by
      rcases List.mem_cons.1 ((ins_perm f o).mem_iff.1 hp) with rfl | hp
      · exact hf
      · exact h p hp) (ins_up hf h ho)
    exact ⟨k1.trans (((List.Perm.append_left l (ins_perm f o))).trans List.perm_middle), k2⟩
theorem isrt_eq {l : List (Nat × Nat)} (h : ∀ p ∈ l, Sm p) : isrt l = srt l := by
  obtain ⟨k1, k2⟩ := isrt_aux l [] h (fun _ hp => absurd hp (List.not_mem_nil)) List.Pairwise.nil
  rw [List.append_nil] at k1
  exact uniq (fun p hp => h p (k1.mem_iff.1 hp)) k2 (srt_up h) (k1.trans (srt_perm l).symm)
/-- how many are not greater -/
def cnt (f : Nat × Nat) (l : List (Nat × Nat)) : Nat := (l.filter fun y => lq y f).length
theorem cnt_le (f : Nat × Nat) (l : List (Nat × Nat)) : cnt f l ≤ l.length := List.length_filter_le _ _
theorem cnt_perm (f : Nat × Nat) {a b : List (Nat × Nat)} (h : a.Perm b) : cnt f a = cnt f b := (h.filter _).length_eq
/-- which one a part of n ends with -/
def up (x d : Nat) : Nat := if x % d = 0 then x / d else x / d + 1
def rk (n num den : Nat) : Nat := max (up (n * num) den) 1
theorem up_le {x d k : Nat} (hd : 0 < d) : up x d ≤ k ↔ x ≤ k * d := by
  unfold up
  have e := Nat.div_add_mod x d
  have hm := Nat.mod_lt x hd
  have hk : k * d = d * k := Nat.mul_comm _ _
  split
  · rename_i h
    rw [h, Nat.add_zero] at e
    constructor
    · intro hx
      have := Nat.mul_le_mul_left d hx
      omega
    · intro hx
      exact Nat.div_le_of_le_mul (by omega)
  · rename_i h
    constructor
    · intro hx
      have h1 := Nat.mul_le_mul_left d hx
      rw [Nat.mul_add, Nat.mul_one] at h1
      omega
    · intro hx
      refine Nat.succ_le_of_lt ?_
      refine (Nat.div_lt_iff_lt_mul hd).2 ?_
      have : x ≠ k * d := by
        rintro rfl
        exact h (Nat.mul_mod_left k d)
      omega
theorem rk_le {n num den : Nat} (hn : 1 ≤ n) (hd : 0 < den) (h : num ≤ den) : rk n num den ≤ n :=
  Nat.max_le.2 ⟨(up_le hd).2 (Nat.mul_le_mul_left _ h), hn⟩
theorem rk_one (n num den : Nat) : 1 ≤ rk n num den := Nat.le_max_right _ _
theorem rk_hi {n num den : Nat} (hd : 0 < den) : n * num ≤ rk n num den * den := (up_le hd).1 (Nat.le_max_left _ _)
theorem rk_lo {n num den : Nat} (hd : 0 < den) (h : 1 < rk n num den) : (rk n num den - 1) * den < n * num := by
  refine Nat.lt_of_not_le fun hx => ?_
  have := (up_le hd).2 hx
  unfold rk at h this
  omega
theorem rk_whole {n den : Nat} (hn : 1 ≤ n) (hd : 0 < den) : rk n den den = n := by
  unfold rk up
  rw [Nat.mul_mod_left, if_pos rfl, Nat.mul_div_cancel _ hd]
  omega
theorem rk_none {n den : Nat} : rk n 0 den = 1 := by
  unfold rk up
  rw [Nat.mul_zero, Nat.zero_mod, if_pos rfl, Nat.zero_div]
  rfl
theorem rk_mono {n num more den : Nat} (hd : 0 < den) (h : num ≤ more) : rk n num den ≤ rk n more den := by
  refine Nat.max_le.2 ⟨(up_le hd).2 ?_, rk_one _ _ _⟩
  exact Nat.le_trans (Nat.mul_le_mul_left _ h) (rk_hi hd)
end Qu
end Go.Proofs.YtmnlmmbfjfgfeaaDoor
/- slices.SortFunc at a slice that one owns: a call of this layer. -/
set_option linter.unusedSimpArgs false
set_option linter.unusedVariables false
set_option linter.unusedSectionVars false
set_option maxRecDepth 20000
set_option maxHeartbeats 4000000
namespace Go.Proofs.YtmnlmmbfjfgfeaaDoor
open Go Go.J Go.RowKit Go.Sort
namespace Qu
section
variable {α : Type} [Inhabited α]
theorem flat_get {β : Type} {f : β → List Value} {g : α → β} {enc : α → List Value} {k : Nat} (hf : ∀ x, (f x).length = k) (he : ∀ x, f (g x) = enc x) (L : List α) {t : Nat} (h : t < L.length * k) :
    ((L.map g).flatMap f)[t]? = some ((flatK enc k L.toArray)[t]!) := by
  have k0 : 0 < k := by
    rcases Nat.eq_zero_or_pos k with h0 | h0
    · subst h0; simp at h
    · exact h0
  have hi : t / k < L.length := (Nat.div_lt_iff_lt_mul k0).2 h
  have hj := Nat.mod_lt t k0
  have e : ((L.map g).flatMap f) = L.flatMap enc := by
    rw [List.flatMap_map]
    congr 1
    exact funext he
  have hl : ∀ x, (enc x).length = k := fun x => by rw [← he, hf]
  rw [e, get_flatK enc k L.toArray t (by simpa using h)]
  have := flatMap_get hl L (t / k) (t % k) hi hj
  rw [Nat.div_add_mod' t k] at this
  rw [this]
  have e2 : L.toArray[t / k]! = L[t / k]! := by simp
  have hh : t % k < (enc L[t / k]!).length := by rw [hl]; exact hj
  rw [e2, List.getElem?_eq_getElem hh, getElem!_pos (enc L[t / k]!) (t % k) hh]
/-- what a world of the sort's is to one who owns the row -/
theorem own_sorted {P : Program} {β : Type} {fn : FuncId} {fv : Value} {f : β → List Value} {g : α → β} {enc : α → List Value} {k : Nat} (hf : ∀ x, (f x).length = k) (he : ∀ x, f (g x) = enc x) (h1 : ∀ x, ∀ v ∈ enc x, v.oneCell' = true)
    (so : Array α → Array α) (hso : ∀ d, (so d).size = d.size)
    (hN : ∀ (p : Option Addr) (cap : Nat) (w : World), Calls P fn #[.slice p 0 cap, fv] w fun e w' => e = .returned (.tuple #[]) ∧ w' = w)
    (hS : ∀ (blk off cap : Nat) (d : Array α) (w : World), HoldsK enc k w blk off d → blk < w.heap.size → d.size < 4611686018427387904 → Calls P fn #[.slice (some ⟨blk, off, none⟩) d.size cap, fv] w fun e w' => e = .returned (.tuple #[]) ∧ ∃ n os, w' = sortWorldK enc k w blk off n (so d) os)
    (m : Mem) (p : Option Addr) (c : Nat) (E : TypeId) (L : List α) (hL : L.length < 4611686018427387904) :
    Ct P fn #[.slice p L.length c, fv] m [.own f k E p c (L.map g)] fun v m' B => v = .tuple #[] ∧ m = m' ∧ B = [.own f k E p c ((so L.toArray).toList.map g)] := by
  intro w0 Rest w hw
  obtain ⟨s, ⟨s1, s2, hs1, hs2, hd, hs⟩, hm⟩ := hw.res
  rcases hs1 with ⟨rfl, rfl, hl, hn⟩ | ⟨b, o, cur, rfl, h2, h3, h4, h5, h6, h7⟩
  · have hl' : L = [] := List.map_eq_nil_iff.1 hl
    subst hl'
    refine (hN none 0 w).mono ?_
    rintro e w' ⟨rfl, rfl⟩
    have e0 : (so (#[] : Array α)).toList = [] := by
      have := hso #[]
      rw [← Array.length_toList] at this
      exact List.length_eq_zero_iff.1 this
    refine ⟨_, m, [_], rfl, Mem.le_refl m, ⟨rfl, rfl, rfl⟩, hw.os, hw.tape, hw.output, hw.size, hw.dr, hw.mem, s, ⟨s1, s2, .inl ⟨rfl, rfl, ?_, hn⟩, hs2, hd, hs⟩, hm⟩
    show ((so #[]).toList.map g) = []
    rw [e0]
    rfl
  · rw [List.length_map] at h3 h6
    have hH : HoldsK enc k w b o L.toArray := by
      intro j hj
      rw [size_flatK] at hj
      refine ⟨?_, by simp [World.frozen?, h2]⟩
      have hj' : j < L.length * k := by simpa using hj
      rw [World.cell_of h2, h6 j hj', flat_get hf he L hj']
      rfl
    have hblk : b < w.heap.size := (Array.getElem?_eq_some_iff.1 h2).1
    have hc := hS b o c L.toArray w hH hblk (by simpa using hL)
    rw [show (L.toArray).size = L.length from List.size_toArray] at hc
    refine hc.mono ?_
    rintro e w' ⟨rfl, n, os, rfl⟩
    have hb : ∀ i, i < w.heap.size → i ≠ b → (sortWorldK enc k w b o n (so L.toArray) os).heap[i]? = w.heap[i]? := fun i hi hne => by
      have e1 : (sortWorldK enc k w b o n (so L.toArray) os).heap[i]? = (putRowK enc k (Sort.ahead w n) b o (so L.toArray)).heap[i]? := Array.getElem?_append_left (by rw [size_putRowK]; exact hi)
      rw [e1]
      show (w.heap.modify b _)[i]? = _
      rw [Array.getElem?_modify, if_neg (Ne.symm hne)]
    have hbb : (sortWorldK enc k w b o n (so L.toArray) os).heap[b]? = some (.cells (putCells id o (flatK enc k (so L.toArray)) cur) E (0, 0)) := by
      have e1 : (sortWorldK enc k w b o n (so L.toArray) os).heap[b]? = (putRowK enc k (Sort.ahead w n) b o (so L.toArray)).heap[b]? := Array.getElem?_append_left (by rw [size_putRowK]; exact hblk)
      rw [e1]
      show (w.heap.modify b _)[b]? = _
      rw [Array.getElem?_modify, if_pos rfl, h2]
      rfl
    have hsz : w.heap.size ≤ (sortWorldK enc k w b o n (so L.toArray) os).heap.size := size_sortWorldK_c enc k w b o n _ os
    have hlen : (so L.toArray).size = L.length := by rw [hso]; exact List.size_toArray
    refine ⟨_, m, [_], rfl, Mem.le_refl m, ⟨rfl, rfl, rfl⟩, hw.os, hw.tape, hw.output, Nat.le_trans hw.size hsz, Nat.le_trans hw.dr (Nat.le_add_right _ _), fun i o' hi => ?_, s, ⟨s1, s2, .inr ⟨b, o, _, rfl, hbb, ?_, h4, ?_, fun j hj => ?_, h7⟩, Sat.loc hs2 fun i hi => ?_, hd, hs⟩, hm⟩
    · have h0 := hw.mem i o' hi
      rw [hb i (Array.getElem?_eq_some_iff.1 h0).1 ?_]
      · exact h0
      · rintro rfl
        rw [hm i ((hs i).2 (.inl ((h7 i).2 rfl)))] at hi
        cases hi
    · rw [List.length_map, Array.length_toList, hlen]; exact h3
    · rw [putCells, Array.size_mapIdx]; exact h5
    · rw [List.length_map, Array.length_toList, hlen] at hj
      have hjc : j < (so L.toArray).toList.length * k := by rw [Array.length_toList, hlen]; exact hj
      have hlt : o + j < cur.size := by
        have := Nat.mul_le_mul_right k h3
        omega
      rw [flat_get hf he _ hjc, putCells, Array.getElem?_mapIdx, Array.getElem?_eq_getElem hlt, Option.map_some, if_pos ⟨Nat.le_add_right _ _, by rw [size_flatK, hlen]; omega⟩, Nat.add_sub_cancel_left]
      rfl
    · have hlt : i < w.heap.size := Sat.dom hs2 hi
      refine hb i hlt ?_
      rintro rfl
      exact hd i ⟨(h7 i).2 rfl, hi⟩
end
end Qu
end Go.Proofs.YtmnlmmbfjfgfeaaDoor
/- Contracts of Go's library off the shelf, laid at this program (in plain words, by the shelf's own tools). -/
set_option linter.unusedSimpArgs false
set_option linter.unusedVariables false
set_option linter.unusedSectionVars false
set_option maxRecDepth 20000
set_option maxHeartbeats 4000000
namespace Go.Proofs.YtmnlmmbfjfgfeaaDoor
open Go Go.Shelf
set_option maxRecDepth 100000
def sllaysf0n6_ren : Go.Shelf.Ren := ⟨fun | 6 => 26 | 15 => 44 | 14 => 43 | 28 => 68 | 29 => 69 | 20 => 60 | 21 => 61 | 22 => 62 | 23 => 63 | 24 => 64 | 25 => 65 | 26 => 66 | 27 => 67 | 46 => 74 | 47 => 75 | 48 => 76 | 49 => 77 | 50 => 78 | 57 => 80 | n => n, fun | 22 => 52 | 24 => 57 | 25 => 58 | 3 => 3 | 39 => 73 | 0 => 0 | 53 => 48 | 55 => 23 | 4 => 4 | 46 => 86 | 45 => 85 | 50 => 90 | 5 => 5 | 9 => 9 | 66 => 96 | 70 => 100 | 76 => 104 | 77 => 105 | n => n, fun | n => n⟩
theorem sllaysf0n6 : Go.Proofs.SlLaysF0.n6 Tryd.prog sllaysf0n6_ren := {
  mixed := by kernel_rfl
  f6 := ⟨Tryd.f26.name, by decide, Tryd.func26.trans (congrArg some (by kernel_rfl))⟩
  f14 := ⟨Tryd.f43.name, by decide, Tryd.func43.trans (congrArg some (by kernel_rfl))⟩
  f15 := Tryd.func44.trans (congrArg some (by kernel_rfl))
  f20 := ⟨Tryd.f60.name, by decide, Tryd.func60.trans (congrArg some (by kernel_rfl))⟩
  f21 := ⟨Tryd.f61.name, by decide, Tryd.func61.trans (congrArg some (by kernel_rfl))⟩
  f22 := ⟨Tryd.f62.name, by decide, Tryd.func62.trans (congrArg some (by kernel_rfl))⟩
  f23 := ⟨Tryd.f63.name, by decide, Tryd.func63.trans (congrArg some (by kernel_rfl))⟩
  f24 := ⟨Tryd.f64.name, by decide, Tryd.func64.trans (congrArg some (by kernel_rfl))⟩
  f25 := ⟨Tryd.f65.name, by decide, Tryd.func65.trans (congrArg some (by kernel_rfl))⟩
  f26 := ⟨Tryd.f66.name, by decide, Tryd.func66.trans (congrArg some (by kernel_rfl))⟩
  f27 := ⟨Tryd.f67.name, by decide, Tryd.func67.trans (congrArg some (by kernel_rfl))⟩
  f28 := Tryd.func68.trans (congrArg some (by kernel_rfl))
  f29 := Tryd.func69.trans (congrArg some (by kernel_rfl))
  f46 := ⟨Tryd.f74.name, by decide, Tryd.func74.trans (congrArg some (by kernel_rfl))⟩
  f47 := Tryd.func75.trans (congrArg some (by kernel_rfl))
  f48 := Tryd.func76.trans (congrArg some (by kernel_rfl))
  f49 := ⟨Tryd.f77.name, by decide, Tryd.func77.trans (congrArg some (by kernel_rfl))⟩
  f50 := ⟨Tryd.f78.name, by decide, Tryd.func78.trans (congrArg some (by kernel_rfl))⟩
  f57 := ⟨Tryd.f80.name, by decide, Tryd.func80.trans (congrArg some (by kernel_rfl))⟩
  t0 := Tryd.underlying0
  a0 := Tryd.isAgg0
  z0 := Tryd.sizeOf0
  v0 := Tryd.zeroValue0
  t3 := Tryd.underlying3
  a3 := Tryd.isAgg3
  z3 := Tryd.sizeOf3
  v3 := Tryd.zeroValue3
  t4 := Tryd.underlying4
  a4 := Tryd.isAgg4
  z4 := Tryd.sizeOf4
  v4 := Tryd.zeroValue4
  t5 := Tryd.underlying5
  a5 := Tryd.isAgg5
  z5 := Tryd.sizeOf5
  v5 := Tryd.zeroValue5
  t9 := Tryd.underlying9
  a9 := Tryd.isAgg9
  z9 := Tryd.sizeOf9
  v9 := Tryd.zeroValue9
  t22 := Tryd.underlying52
  a22 := Tryd.isAgg52
  z22 := Tryd.sizeOf52
  v22 := Tryd.zeroValue52
  t25 := Tryd.underlying58
  a25 := Tryd.isAgg58
  z25 := Tryd.sizeOf58
  v25 := Tryd.zeroValue58
  t39 := Tryd.underlying73
  a39 := Tryd.isAgg73
  z39 := Tryd.sizeOf73
  v39 := Tryd.zeroValue73
  t45 := Tryd.underlying85
  a45 := Tryd.isAgg85
  z45 := Tryd.sizeOf85
  v45 := Tryd.zeroValue85
  t46 := Tryd.underlying86
  a46 := Tryd.isAgg86
  z46 := Tryd.sizeOf86
  v46 := Tryd.zeroValue86
  t50 := Tryd.underlying90
  a50 := Tryd.isAgg90
  z50 := Tryd.sizeOf90
  v50 := Tryd.zeroValue90
  t53 := Tryd.underlying48
  a53 := Tryd.isAgg48
  z53 := Tryd.sizeOf48
  v53 := Tryd.zeroValue48
  t55 := Tryd.underlying23
  a55 := Tryd.isAgg23
  z55 := Tryd.sizeOf23
  v55 := Tryd.zeroValue23
  t66 := Tryd.underlying96
  a66 := Tryd.isAgg96
  z66 := Tryd.sizeOf96
  v66 := Tryd.zeroValue96
  t70 := Tryd.underlying100
  a70 := Tryd.isAgg100
  z70 := Tryd.sizeOf100
  v70 := Tryd.zeroValue100
  t76 := Tryd.underlying104
  a76 := Tryd.isAgg104
  z76 := Tryd.sizeOf104
  v76 := Tryd.zeroValue104
  t77 := Tryd.underlying105
  a77 := Tryd.isAgg105
  z77 := Tryd.sizeOf105
  v77 := Tryd.zeroValue105 }
end Go.Proofs.YtmnlmmbfjfgfeaaDoor
/- The contracts of the package wide. -/
set_option linter.unusedSimpArgs false
set_option linter.unusedVariables false
set_option linter.unusedSectionVars false
set_option maxRecDepth 20000
set_option maxHeartbeats 4000000
namespace Go.Proofs.YtmnlmmbfjfgfeaaDoor
open Go Go.J
attribute [local irreducible] At AtQ AtM AtM1 PR Ct Pu Rd Res.blk Res.own Res.ex RVs RV
namespace Wide
abbrev wd (x : Nat) : List Value := [.int .u64 ((x / 18446744073709551616 : Nat) : Int), .int .u64 ((x % 18446744073709551616 : Nat) : Int)]
abbrev wv (x : Nat) : Value := .agg (wd x).toArray
instance : Fl wd 2 := ⟨fun _ => rfl, fun x v h => by simp at h; rcases h with rfl | rfl <;> rfl, by decide⟩
def sV (x : Nat) : Nat := if x < 340282366920938463463374607431768211456 then x else 0
def sE (x : Nat) : Int := if x < 340282366920938463463374607431768211456 then 0 else 1
theorem sV_lt (x : Nat) : sV x < 340282366920938463463374607431768211456 := by unfold sV; split <;> omega
theorem wd_mk {x : Nat} {h l : Int} (hh : h = ((x / 18446744073709551616 : Nat) : Int)) (hl : l = ((x % 18446744073709551616 : Nat) : Int)) : Value.agg #[.int .u64 h, .int .u64 l] = wv x := by subst hh hl; rfl

theorem add64 {n : Nat} {F : Fr} {C : World → Prop} {x y z : Operand} {ts : Array TypeId} {a b c : Int} (hx : ev F x = some (.int .u64 a)) (hy : ev F y = some (.int .u64 b)) (hz : ev F z = some (.int .u64 c)) (h0 : 0 ≤ a) (h1 : 0 ≤ b) (h2 : 0 ≤ c) (h3 : c ≤ 1) :
    PR Tryd.prog n F C (.call ⟨.value (.func 37), #[x, y, z], ts⟩) (.tuple #[.int .u64 ((a + b + c) % 18446744073709551616), .int .u64 ((a + b + c) / 18446744073709551616)]) :=
  pr_extern (xs := [x, y, z]) (vs := [.int .u64 a, .int .u64 b, .int .u64 c]) (e := add64Entry) Tryd.func37 (by kernel_rfl) (by kernel_rfl) (by kernel_rfl) (by kernel_rfl) (by simp [evs, hx, hy, hz]) fun w => run_add64 a b c h0 h1 h2 h3 w

theorem of_ (x : Nat) (h : x < 18446744073709551616) : Pu Tryd.prog 20 #[.int .u64 (x : Int)] (wv x) := Pu.intro fun m => by
  refine Ct.enterV (by rfl) Tryd.func20 rfl Tryd.ntmps20 rfl (fun w0 Rest => ?_)
  (repeat' (first | refine zss ?_ | ((first | (with_reducible first | apply At.val | apply AtQ.val)); (exact zprA); exact rfl) | refine zs0 ?_ | ((with_reducible apply At.alloc (d := 2)); exact rfl; exact rfl; intro b2) | (refine zsp ?_ ?_ <;> (intro hc; (try simp only [zhcs, reduceCtorEq] at hc); (try (exfalso; first | contradiction | omega | exact absurd rfl hc | exact absurd (by decide) hc))))))
  all_goals ((with_reducible apply At.retV (B := [])); exact rfl; (repeat' (first | exact RVs.nil | (with_reducible apply RVs.cons) | exact rv_tmp (by rfl) | exact rv_cellN (by rfl) (by repeat constructor) (by rfl) (by rfl) (by rfl) | exact rv_cell1 (by rfl) (by repeat constructor) (by rfl) (by rfl) | exact rv_cellA (by rfl) (by repeat constructor) (by rfl) (by rfl) zlq)); exact zml; exact zkp; exact ⟨wd_mk (by omega) (by omega), rfl, rfl⟩)
theorem ofI (x : Int) (h0 : 0 ≤ x) (h : x < 18446744073709551616) : Pu Tryd.prog 20 #[.int .u64 x] (wv x.toNat) := by
  have := of_ x.toNat (by omega)
  rwa [Int.toNat_of_nonneg h0] at this
theorem sure0 (a b o : Int) (ho : o = 0) : Pu Tryd.prog 38 #[.agg #[.int .u64 a, .int .u64 b], .int .u64 o] (.tuple #[.agg #[.int .u64 a, .int .u64 b], .int .i64 0]) := Pu.intro fun m => by
  refine Ct.enterV (by rfl) Tryd.func38 rfl Tryd.ntmps38 rfl (fun w0 Rest => ?_)
  (repeat' (first | refine zss ?_ | ((first | (with_reducible first | apply At.val | apply AtQ.val)); (exact zprA); exact rfl) | refine zs0 ?_ | ((with_reducible apply At.box (d := 2)); exact rfl; exact rfl; exact rfl; intro b2) | ((with_reducible apply At.alloc (d := 4)); exact rfl; exact rfl; intro b4) | (refine zsp ?_ ?_ <;> (intro hc; (try simp only [zhcs, reduceCtorEq] at hc); (try (exfalso; first | omega | contradiction | omega | exact absurd rfl hc | exact absurd (by decide) hc))))))
  all_goals ((with_reducible apply At.retV (B := [])); exact rfl; (repeat' (first | exact RVs.nil | (with_reducible apply RVs.cons) | exact rv_tmp (by rfl) | exact rv_cellN (by rfl) (by repeat constructor) (by rfl) (by rfl) (by rfl) | exact rv_cell1 (by rfl) (by repeat constructor) (by rfl) (by rfl) | exact rv_cellA (by rfl) (by repeat constructor) (by rfl) (by rfl) zlq)); exact zml; exact zkp; exact ⟨rfl, rfl, rfl⟩)
theorem sure1 (a b o : Int) (ho : o ≠ 0) : Pu Tryd.prog 38 #[.agg #[.int .u64 a, .int .u64 b], .int .u64 o] (.tuple #[wv 0, .int .i64 1]) := Pu.intro fun m => by
  refine Ct.enterV (by rfl) Tryd.func38 rfl Tryd.ntmps38 rfl (fun w0 Rest => ?_)
  (repeat' (first | refine zss ?_ | ((first | (with_reducible first | apply At.val | apply AtQ.val)); (exact zprA); exact rfl) | refine zs0 ?_ | ((with_reducible apply At.box (d := 2)); exact rfl; exact rfl; exact rfl; intro b2) | ((with_reducible apply At.alloc (d := 4)); exact rfl; exact rfl; intro b4) | (refine zsp ?_ ?_ <;> (intro hc; (try simp only [zhcs, reduceCtorEq] at hc); (try (exfalso; first | omega | contradiction | omega | exact absurd rfl hc | exact absurd (by decide) hc))))))
  all_goals ((with_reducible apply At.retV (B := [])); exact rfl; (repeat' (first | exact RVs.nil | (with_reducible apply RVs.cons) | exact rv_tmp (by rfl) | exact rv_cellN (by rfl) (by repeat constructor) (by rfl) (by rfl) (by rfl) | exact rv_cell1 (by rfl) (by repeat constructor) (by rfl) (by rfl) | exact rv_cellA (by rfl) (by repeat constructor) (by rfl) (by rfl) zlq)); exact zml; exact zkp; exact ⟨rfl, rfl, rfl⟩)
theorem less (x y : Nat) : Pu Tryd.prog 21 #[wv x, wv y] (.bool (decide (x < y))) := Pu.intro fun m => by
  by_cases h : x < y
  · rw [decide_eq_true h]
    refine Ct.enterV (by rfl) Tryd.func21 rfl Tryd.ntmps21 rfl (fun w0 Rest => ?_)
    (repeat' (first | refine zss ?_ | ((first | (with_reducible first | apply At.val | apply AtQ.val)); (exact zprA); exact rfl) | refine zs0 ?_ | ((with_reducible apply At.box (d := 2)); exact rfl; exact rfl; exact rfl; intro b2) | ((with_reducible apply At.box (d := 3)); exact rfl; exact rfl; exact rfl; intro b3) | (refine zsp ?_ ?_ <;> (intro hc; (try simp only [zhcs, reduceCtorEq] at hc); (try (exfalso; first | omega | contradiction | omega | exact absurd rfl hc | exact absurd (by decide) hc))))))
    all_goals ((with_reducible apply At.retB1 (B := [])); exact rfl; exact rfl; exact zml; exact zkp; exact ⟨by first | rfl | exact congrArg Value.bool (decide_eq_true (by omega)) | exact congrArg Value.bool (decide_eq_false (by omega)), rfl, rfl⟩)
  · rw [decide_eq_false h]
    refine Ct.enterV (by rfl) Tryd.func21 rfl Tryd.ntmps21 rfl (fun w0 Rest => ?_)
    (repeat' (first | refine zss ?_ | ((first | (with_reducible first | apply At.val | apply AtQ.val)); (exact zprA); exact rfl) | refine zs0 ?_ | ((with_reducible apply At.box (d := 2)); exact rfl; exact rfl; exact rfl; intro b2) | ((with_reducible apply At.box (d := 3)); exact rfl; exact rfl; exact rfl; intro b3) | (refine zsp ?_ ?_ <;> (intro hc; (try simp only [zhcs, reduceCtorEq] at hc); (try (exfalso; first | omega | contradiction | omega | exact absurd rfl hc | exact absurd (by decide) hc))))))
    all_goals ((with_reducible apply At.retB1 (B := [])); exact rfl; exact rfl; exact zml; exact zkp; exact ⟨by first | rfl | exact congrArg Value.bool (decide_eq_true (by omega)) | exact congrArg Value.bool (decide_eq_false (by omega)), rfl, rfl⟩)
theorem mul64 (x y : Int) (hx0 : 0 ≤ x) (hx : x < 18446744073709551616) (hy0 : 0 ≤ y) (hy : y < 18446744073709551616) : Pu Tryd.prog 30 #[.int .u64 x, .int .u64 y] (.tuple #[.int .u64 (x * y / 18446744073709551616), .int .u64 (x * y % 18446744073709551616)]) := Pu.intro fun m => by
  have key := mul64_arith x y hx0 hx hy0 hy
  refine Ct.enterV (by rfl) Tryd.func30 rfl Tryd.ntmps30 rfl (fun w0 Rest => ?_)
  (repeat' (first | refine zss ?_ | ((first | (with_reducible first | apply At.val | apply AtQ.val)); (first | exact pr_and (by rfl) (by rfl) (and_low32 _ (by omega) (by omega)) | exact pr_mul (by rfl) (by rfl) (IntKind.wrap_u64 _) | exact pr_add (by rfl) (by rfl) (IntKind.wrap_u64 _) | exact zprA); exact rfl) | refine zs0 ?_ | (refine zsp ?_ ?_ <;> (intro hc; (try simp only [zhcs, reduceCtorEq] at hc); (try (exfalso; first | contradiction | omega | exact absurd rfl hc | exact absurd (by decide) hc))))))
  all_goals ((with_reducible apply At.retB2 (B := [])); (iterate 3 exact rfl); exact zml; exact zkp; exact ⟨by rw [← key], rfl, rfl⟩)
theorem or_zero {a b : Int} (ha : a = 0) (hb : b = 0) : bits .or .u64 a b = 0 := by subst ha hb; rfl
theorem or_ne {a b : Int} (ha : 0 ≤ a ∧ a < 18446744073709551616) (hb : 0 ≤ b ∧ b < 18446744073709551616) (h : a ≠ 0 ∨ b ≠ 0) : bits .or .u64 a b ≠ 0 := by
  rw [u64_or a b ha.1 ha.2 hb.1 hb.2]
  intro e
  have e0 : a.toNat ||| b.toNat = 0 := by omega
  have e1 : a.toNat = 0 := by
    have := Nat.left_le_or (n := a.toNat) (m := b.toNat)
    omega
  have e2 : b.toNat = 0 := by
    have := Nat.right_le_or (n := a.toNat) (m := b.toNat)
    omega
  omega
theorem times (x k : Nat) (hx : x < 340282366920938463463374607431768211456) (hk : k < 18446744073709551616) : Pu Tryd.prog 19 #[wv x, .int .u64 (k : Int)] (.tuple #[wv (sV (x * k)), .int .i64 (sE (x * k))]) := Pu.intro fun m => by
  obtain ⟨p, hp⟩ : ∃ p : Nat, p = x % 18446744073709551616 * k := ⟨_, rfl⟩
  obtain ⟨q, hq⟩ : ∃ q : Nat, q = x / 18446744073709551616 * k := ⟨_, rfl⟩
  have hxk : x * k = q * 18446744073709551616 + p := by
    rw [hp, hq, Nat.mul_right_comm, ← Nat.add_mul, Nat.mul_comm (x / 18446744073709551616), Nat.div_add_mod]
  have m1 := mul64 ((x % 18446744073709551616 : Nat) : Int) (k : Int) (by omega) (by omega) (by omega) (by omega)
  have m2 := mul64 ((x / 18446744073709551616 : Nat) : Int) (k : Int) (by omega) (by omega) (by omega) (by omega)
  rw [← Int.natCast_mul, ← hp] at m1
  rw [← Int.natCast_mul, ← hq] at m2
  have hpb : p ≤ 18446744073709551615 * 18446744073709551615 := by rw [hp]; exact Nat.mul_le_mul (by omega) (by omega)
  have hqb : q ≤ 18446744073709551615 * 18446744073709551615 := by rw [hq]; exact Nat.mul_le_mul (by omega) (by omega)
  rw [hxk]
  clear hp hq hxk
  by_cases h : q * 18446744073709551616 + p < 340282366920938463463374607431768211456
  · have e1 : sV (q * 18446744073709551616 + p) = q * 18446744073709551616 + p := if_pos h
    have e2 : sE (q * 18446744073709551616 + p) = 0 := if_pos h
    rw [e1, e2]
    refine Ct.enterV (by rfl) Tryd.func19 rfl Tryd.ntmps19 rfl (fun w0 Rest => ?_)
    (repeat' (first | refine zss ?_ | ((first | (with_reducible first | apply At.val | apply AtQ.val)); (first | exact add64 (by rfl) (by rfl) (by rfl) (by omega) (by omega) (by omega) (by omega) | exact pr_or (by rfl) (by rfl) (or_zero (by omega) (by omega)) | exact zprA); exact rfl) | refine zs0 ?_ | ((with_reducible first | apply AtM1.callp | apply AtQ.callp | apply At.callp); kernel_rfl; exact rfl; exact rfl; exact m1) | ((with_reducible first | apply AtM1.callp | apply AtQ.callp | apply At.callp); kernel_rfl; exact rfl; exact rfl; exact m2) | ((with_reducible first | apply AtM1.callp | apply AtQ.callp | apply At.callp); kernel_rfl; exact rfl; exact rfl; exact sure0 _ _ _ (by omega)) | ((with_reducible apply At.box (d := 2)); exact rfl; exact rfl; exact rfl; intro b2) | ((with_reducible apply At.alloc (d := 4)); exact rfl; exact rfl; intro b4) | (refine zsp ?_ ?_ <;> (intro hc; (try simp only [zhcs, reduceCtorEq] at hc); (try (exfalso; first | contradiction | omega | exact absurd rfl hc | exact absurd (by decide) hc))))))
    all_goals ((with_reducible apply At.retV (B := [])); exact rfl; (repeat' (first | exact RVs.nil | (with_reducible apply RVs.cons) | exact rv_tmp (by rfl) | exact rv_cellN (by rfl) (by repeat constructor) (by rfl) (by rfl) (by rfl) | exact rv_cell1 (by rfl) (by repeat constructor) (by rfl) (by rfl) | exact rv_cellA (by rfl) (by repeat constructor) (by rfl) (by rfl) zlq)); exact zml; exact zkp; exact ⟨congrArg (fun v => Value.tuple #[v, .int .i64 0]) (wd_mk (by omega) (by omega)), rfl, rfl⟩)
  · have e1 : sV (q * 18446744073709551616 + p) = 0 := if_neg h
    have e2 : sE (q * 18446744073709551616 + p) = 1 := if_neg h
    rw [e1, e2]
    refine Ct.enterV (by rfl) Tryd.func19 rfl Tryd.ntmps19 rfl (fun w0 Rest => ?_)
    (repeat' (first | refine zss ?_ | ((first | (with_reducible first | apply At.val | apply AtQ.val)); (first | exact add64 (by rfl) (by rfl) (by rfl) (by omega) (by omega) (by omega) (by omega) | exact zprA); exact rfl) | refine zs0 ?_ | ((with_reducible first | apply AtM1.callp | apply AtQ.callp | apply At.callp); kernel_rfl; exact rfl; exact rfl; exact m1) | ((with_reducible first | apply AtM1.callp | apply AtQ.callp | apply At.callp); kernel_rfl; exact rfl; exact rfl; exact m2) | ((with_reducible first | apply AtM1.callp | apply AtQ.callp | apply At.callp); kernel_rfl; exact rfl; exact rfl; exact sure1 _ _ _ (or_ne (by omega) (by omega) (by omega))) | ((with_reducible apply At.box (d := 2)); exact rfl; exact rfl; exact rfl; intro b2) | ((with_reducible apply At.alloc (d := 4)); exact rfl; exact rfl; intro b4) | (refine zsp ?_ ?_ <;> (intro hc; (try simp only [zhcs, reduceCtorEq] at hc); (try (exfalso; first | contradiction | omega | exact absurd rfl hc | exact absurd (by decide) hc))))))
    all_goals ((with_reducible apply At.retV (B := [])); exact rfl; (repeat' (first | exact RVs.nil | (with_reducible apply RVs.cons) | exact rv_tmp (by rfl) | exact rv_cellN (by rfl) (by repeat constructor) (by rfl) (by rfl) (by rfl) | exact rv_cell1 (by rfl) (by repeat constructor) (by rfl) (by rfl) | exact rv_cellA (by rfl) (by repeat constructor) (by rfl) (by rfl) zlq)); exact zml; exact zkp; exact ⟨rfl, rfl, rfl⟩)
end Wide
end Go.Proofs.YtmnlmmbfjfgfeaaDoor
/- From a contract to a law's row: what a law's call leaves of memory. -/
set_option linter.unusedSimpArgs false
set_option linter.unusedVariables false
set_option linter.unusedSectionVars false
set_option maxRecDepth 20000
namespace Go.J
open Go Go.ChangeShapes Go.WideShapes Go.ChangeAt Go.RowKit

def memOf (W : World) : Mem := fun k => W.heap[k]?

theorem HW.init (W : World) : HW W (memOf W) [] W :=
  ⟨rfl, rfl, rfl, Nat.le_refl _, Nat.le_refl _, fun _ _ h => h, fun _ => False, fun _ h => h, fun _ h => h.elim⟩

theorem HW.below {W w' : World} {m' : Mem} {Rs : List Res} (h : HW W m' Rs w') (hm : (memOf W).le m') : Below W.heap.size W w' :=
  ⟨h.os, h.tape, h.output, h.size, fun k hk => by
    have hk' : W.heap[k]? = some W.heap[k] := Array.getElem?_eq_getElem hk
    rw [hk']
    exact h.mem k _ (hm k _ hk')⟩

theorem law_calls {P : Program} {f : FuncId} {args : Array Value} {W : World} (h : Ct P f args (memOf W) [] (fun v _ _ => v = .bool true)) :
    Calls P f args W fun e W' => e = .returned (.bool true) ∧ Below W.heap.size W W' :=
  (h W [] W (HW.init W)).mono fun _ _ ⟨_, _, _, he, hm, hv, hw⟩ => ⟨by rw [he, hv], hw.below hm⟩

theorem law_calls_pu {P : Program} {f : FuncId} {args : Array Value} {W : World} (h : Pu P f args (.bool true)) :
    Calls P f args W fun e W' => e = .returned (.bool true) ∧ Below W.heap.size W W' :=
  law_calls ((h (memOf W)).mono fun _ _ _ _ ⟨hv, _, _⟩ => hv)

/-- the arguments read as they did -/
theorem trodAll_below {H : Type} {enc : TypeId × Value → H} {P : Program} (hl : laidOutB P = true) {W W' : World} (hb : Below W.heap.size W W') :
    ∀ (ts : List TypeId) (vs : List Value) (ds : List (DataW H)) (ps : List MemPlace), (ts.all fun t => P.readableRec t && decide (t < P.types.size)) = true →
      DataW.TrodAll enc P W 0 (fun _ => true) true ts vs ds ps → (∀ x ∈ ps, x.block < W.heap.size) → DataW.TrodAll enc P W' 0 (fun b => decide (b < W.heap.size)) true ts vs ds ps
  | [], vs, ds, ps, _, h, _ => by
    obtain ⟨rfl, rfl, rfl⟩ := trodAll_nil h
    exact trodAll_mk0
  | t :: ts, vs, ds, ps, hr, h, hlt => by
    obtain ⟨v, vs', d, ds', p, q, rfl, rfl, rfl, h0, h1⟩ := trodAll_cons h
    simp only [List.all_cons, Bool.and_eq_true, decide_eq_true_eq] at hr
    exact trodAll_cons_mk (Below.trod hl hr.1.1 hr.1.2 h0 hb (fun x hx => hlt x (by simp [hx]))) (trodAll_below hl hb ts vs' ds' q hr.2 h1 (fun x hx => hlt x (by simp [hx])))

end Go.J
/- Quantiles: one small fraction against another; sorting them. -/
set_option linter.unusedSimpArgs false
set_option linter.unusedVariables false
set_option linter.unusedSectionVars false
set_option maxRecDepth 20000
set_option maxHeartbeats 4000000
namespace Go.Proofs.YtmnlmmbfjfgfeaaDoor
open Go Go.J
attribute [local irreducible] At AtQ AtM AtM1 PR Ct Pu Rd Res.blk Res.own Res.ex RVs RV
namespace Qu
open Wide
abbrev sm (p : Nat × Nat) : List Value := [.int .u64 (p.1 : Int), .int .u64 (p.2 : Int)]
abbrev sv (p : Nat × Nat) : Value := .agg (sm p).toArray
instance : Fl sm 2 := ⟨fun _ => rfl, fun x v h => by simp at h; rcases h with rfl | rfl <;> rfl, by decide⟩
theorem times_s (a b n : Nat) (ha : a < 18446744073709551616) (hn : n < 18446744073709551616) : Pu Tryd.prog 45 #[sv (a, b), .int .u64 (n : Int)] (wv (a * n)) := Pu.intro fun m => by
  have m1 := mul64 (a : Int) (n : Int) (by omega) (by omega) (by omega) (by omega)
  rw [← Int.natCast_mul] at m1
  generalize a * n = x at m1 ⊢
  refine Ct.enterV (by rfl) Tryd.func45 rfl Tryd.ntmps45 rfl (fun w0 Rest => ?_)
  (repeat' (first | refine zss ?_ | ((first | (with_reducible first | apply At.val | apply AtQ.val)); (exact zprA); exact rfl) | refine zs0 ?_ | ((with_reducible first | apply AtM1.callp | apply AtQ.callp | apply At.callp); kernel_rfl; exact rfl; exact rfl; exact m1) | ((with_reducible apply At.box (d := 2)); exact rfl; exact rfl; exact rfl; intro b2) | ((with_reducible apply At.alloc (d := 4)); exact rfl; exact rfl; intro b4) | (refine zsp ?_ ?_ <;> (intro hc; (try simp only [zhcs, reduceCtorEq] at hc); (try (exfalso; first | contradiction | omega | exact absurd rfl hc | exact absurd (by decide) hc))))))
  all_goals ((with_reducible apply At.retV (B := [])); exact rfl; (repeat' (first | exact RVs.nil | (with_reducible apply RVs.cons) | exact rv_tmp (by rfl) | exact rv_cellN (by rfl) (by repeat constructor) (by rfl) (by rfl) (by rfl) | exact rv_cell1 (by rfl) (by repeat constructor) (by rfl) (by rfl) | exact rv_cellA (by rfl) (by repeat constructor) (by rfl) (by rfl) zlq)); exact zml; exact zkp; exact ⟨wd_mk (by omega) (by omega), rfl, rfl⟩)
theorem compare_ (x y : Nat × Nat) (hx : Sm x) (hy : Sm y) : Pu Tryd.prog 27 #[sv x, sv y] (.int .i64 (cfi x y)) := Pu.intro fun m => by
  obtain ⟨a, b⟩ := x
  obtain ⟨c, d⟩ := y
  have k1 := times_s a b d hx.1 hy.2.1
  have k2 := times_s c d b hy.1 hx.2.1
  have k3 := less (a * d) (c * b)
  have k4 := less (c * b) (a * d)
  unfold cfi
  dsimp only
  clear hx hy
  generalize a * d = u at k1 k3 k4 ⊢
  generalize c * b = v at k2 k3 k4 ⊢
  by_cases h : u < v
  · rw [decide_eq_true h] at k3
    rw [if_pos h]
    clear h k4
    refine Ct.enterV (by rfl) Tryd.func27 rfl Tryd.ntmps27 rfl (fun w0 Rest => ?_)
    (repeat' (first | ((with_reducible apply At.mixed (id := 1) 12 (.q 0 (.q 1 (.q 2 (.q 3 (.q 4 (.q 5 (.q 6 (.q 7 (.b 8 9 (.l 9 (.x 10 (.x 11 .done))) (.l 8 (.x 10 (.x 11 .done))))))))))))); exact rfl; kernel_rfl; kernel_rfl; kernel_rfl) | refine zsx ?_ | refine zss ?_ | ((with_reducible apply AtM.bo); exact rfl; exact rfl; exact rfl) | ((first | (with_reducible first | apply At.val | apply AtQ.val) | ((with_reducible first | apply AtM1.valz | apply AtM1.val); exact rfl) | ((with_reducible apply AtM1.val); exact rfl)); (exact zprA); exact rfl) | refine zs0 ?_ | refine zx0 ?_ | ((with_reducible first | apply AtM1.callp | apply AtQ.callp | apply At.callp); kernel_rfl; exact rfl; exact rfl; exact k1) | ((with_reducible first | apply AtM1.callp | apply AtQ.callp | apply At.callp); kernel_rfl; exact rfl; exact rfl; exact k2) | ((with_reducible first | apply AtM1.callp | apply AtQ.callp | apply At.callp); kernel_rfl; exact rfl; exact rfl; exact k3) | ((with_reducible apply At.box (d := 2)); exact rfl; exact rfl; exact rfl; intro b2) | ((with_reducible apply At.box (d := 3)); exact rfl; exact rfl; exact rfl; intro b3) | ((with_reducible apply At.alloc (d := 5)); exact rfl; exact rfl; intro b5) | ((with_reducible apply At.alloc (d := 6)); exact rfl; exact rfl; intro b6) | (refine zsp ?_ ?_ <;> (intro hc; (try simp only [zhcs, reduceCtorEq] at hc); (try (exfalso; first | contradiction | omega | exact absurd rfl hc | exact absurd (by decide) hc))))))
    all_goals ((with_reducible apply At.retB1 (B := [])); exact rfl; exact rfl; exact zml; exact zkp; exact ⟨rfl, rfl, rfl⟩)
  · rw [decide_eq_false h] at k3
    rw [if_neg h]
    by_cases h2 : v < u
    · rw [decide_eq_true h2] at k4
      rw [if_pos h2]
      clear h h2
      refine Ct.enterV (by rfl) Tryd.func27 rfl Tryd.ntmps27 rfl (fun w0 Rest => ?_)
      (repeat' (first | ((with_reducible apply At.mixed (id := 1) 12 (.q 0 (.q 1 (.q 2 (.q 3 (.q 4 (.q 5 (.q 6 (.q 7 (.b 8 9 (.l 9 (.x 10 (.x 11 .done))) (.l 8 (.x 10 (.x 11 .done))))))))))))); exact rfl; kernel_rfl; kernel_rfl; kernel_rfl) | refine zsx ?_ | refine zss ?_ | ((with_reducible apply AtM.bo); exact rfl; exact rfl; exact rfl) | ((first | (with_reducible first | apply At.val | apply AtQ.val) | ((with_reducible first | apply AtM1.valz | apply AtM1.val); exact rfl) | ((with_reducible apply AtM1.val); exact rfl)); (exact zprA); exact rfl) | refine zs0 ?_ | refine zx0 ?_ | ((with_reducible first | apply AtM1.callp | apply AtQ.callp | apply At.callp); kernel_rfl; exact rfl; exact rfl; exact k1) | ((with_reducible first | apply AtM1.callp | apply AtQ.callp | apply At.callp); kernel_rfl; exact rfl; exact rfl; exact k2) | ((with_reducible first | apply AtM1.callp | apply AtQ.callp | apply At.callp); kernel_rfl; exact rfl; exact rfl; exact k3) | ((with_reducible first | apply AtM1.callp | apply AtQ.callp | apply At.callp); kernel_rfl; exact rfl; exact rfl; exact k4) | ((with_reducible apply At.box (d := 2)); exact rfl; exact rfl; exact rfl; intro b2) | ((with_reducible apply At.box (d := 3)); exact rfl; exact rfl; exact rfl; intro b3) | ((with_reducible apply At.alloc (d := 5)); exact rfl; exact rfl; intro b5) | ((with_reducible apply At.alloc (d := 6)); exact rfl; exact rfl; intro b6) | (refine zsp ?_ ?_ <;> (intro hc; (try simp only [zhcs, reduceCtorEq] at hc); (try (exfalso; first | contradiction | omega | exact absurd rfl hc | exact absurd (by decide) hc))))))
      all_goals ((with_reducible apply At.retB1 (B := [])); exact rfl; exact rfl; exact zml; exact zkp; exact ⟨rfl, rfl, rfl⟩)
    · rw [decide_eq_false h2] at k4
      rw [if_neg h2]
      clear h h2
      refine Ct.enterV (by rfl) Tryd.func27 rfl Tryd.ntmps27 rfl (fun w0 Rest => ?_)
      (repeat' (first | ((with_reducible apply At.mixed (id := 1) 12 (.q 0 (.q 1 (.q 2 (.q 3 (.q 4 (.q 5 (.q 6 (.q 7 (.b 8 9 (.l 9 (.x 10 (.x 11 .done))) (.l 8 (.x 10 (.x 11 .done))))))))))))); exact rfl; kernel_rfl; kernel_rfl; kernel_rfl) | refine zsx ?_ | refine zss ?_ | ((with_reducible apply AtM.bo); exact rfl; exact rfl; exact rfl) | ((first | (with_reducible first | apply At.val | apply AtQ.val) | ((with_reducible first | apply AtM1.valz | apply AtM1.val); exact rfl) | ((with_reducible apply AtM1.val); exact rfl)); (exact zprA); exact rfl) | refine zs0 ?_ | refine zx0 ?_ | ((with_reducible first | apply AtM1.callp | apply AtQ.callp | apply At.callp); kernel_rfl; exact rfl; exact rfl; exact k1) | ((with_reducible first | apply AtM1.callp | apply AtQ.callp | apply At.callp); kernel_rfl; exact rfl; exact rfl; exact k2) | ((with_reducible first | apply AtM1.callp | apply AtQ.callp | apply At.callp); kernel_rfl; exact rfl; exact rfl; exact k3) | ((with_reducible first | apply AtM1.callp | apply AtQ.callp | apply At.callp); kernel_rfl; exact rfl; exact rfl; exact k4) | ((with_reducible apply At.box (d := 2)); exact rfl; exact rfl; exact rfl; intro b2) | ((with_reducible apply At.box (d := 3)); exact rfl; exact rfl; exact rfl; intro b3) | ((with_reducible apply At.alloc (d := 5)); exact rfl; exact rfl; intro b5) | ((with_reducible apply At.alloc (d := 6)); exact rfl; exact rfl; intro b6) | (refine zsp ?_ ?_ <;> (intro hc; (try simp only [zhcs, reduceCtorEq] at hc); (try (exfalso; first | contradiction | omega | exact absurd rfl hc | exact absurd (by decide) hc))))))
      all_goals ((with_reducible apply At.retB1 (B := [])); exact rfl; exact rfl; exact zml; exact zkp; exact ⟨rfl, rfl, rfl⟩)
/-- what a call that changes nothing leaves of a world -/
theorem grown {P : Program} {f : FuncId} {args : Array Value} {V : Value} (h : Pu P f args V) (W : World) : Calls P f args W fun e w' => e = .returned V ∧ ∃ q os', w' = Go.Sort.grow (W.drewN q) os' := by
  unfold Pu Ct at h
  refine (h (memOf W) W [] W (HW.init W)).mono ?_
  rintro e w' ⟨v, m', B, rfl, hm, ⟨rfl, rfl, rfl⟩, hw⟩
  refine ⟨rfl, w'.drawn - W.drawn, w'.heap.extract W.heap.size w'.heap.size, ?_⟩
  have e0 : W.heap ++ w'.heap.extract W.heap.size w'.heap.size = w'.heap := by
    refine Array.ext_getElem? fun i => ?_
    have hs := hw.size
    by_cases hi : i < W.heap.size
    · rw [Array.getElem?_append_left hi]
      have := hw.mem i W.heap[i] (Array.getElem?_eq_getElem hi)
      rw [this, Array.getElem?_eq_getElem hi]
    · rw [Array.getElem?_append_right (Nat.le_of_not_lt hi), Array.getElem?_extract]
      have e1 : W.heap.size + (i - W.heap.size) = i := by omega
      rw [e1]
      split
      · rfl
      · rw [Array.getElem?_eq_none (by omega)]
  have h1 := hw.os
  have h2 := hw.tape
  have h3 := hw.output
  have h4 : W.drawn + (w'.drawn - W.drawn) = w'.drawn := by have := hw.dr; omega
  unfold Go.Sort.grow World.drewN
  dsimp only
  rw [e0, h4, ← h1, ← h2, ← h3]
theorem cmpLays (blk off size : Nat) (w : World) : Go.Proofs.CmpLays Tryd.prog 27 #[] (fun s : S => sm s.1) 2 cf blk off size w :=
  fun _ _ _ _ x y => grown (compare_ x.1 y.1 x.2 y.2) _
theorem sort_s {m : Mem} (p : Option Addr) (c : Nat) (L : List S) (hL : L.length < 4611686018427387904) :
    Ct Tryd.prog 26 #[.slice p L.length c, .func (.func 27) #[] #[]] m [.own sm 2 57 p c (L.map Subtype.val)] fun v m' B => v = .tuple #[] ∧ m = m' ∧ B = [.own sm 2 57 p c (srt (L.map Subtype.val))] := by
  have h := own_sorted (P := Tryd.prog) (fn := 26) (fv := .func (.func 27) #[] #[]) (f := sm) (g := Subtype.val) (enc := fun s : S => sm s.1) (k := 2)
    (fun _ => rfl) (fun _ => rfl) (fun x v hv => by simp at hv; rcases hv with rfl | rfl <;> rfl)
    (fun d => (d.toList.mergeSort fun x y => !ltOf cf y x).toArray) (fun d => by simp [List.length_mergeSort])
    (fun p cap w => AnyF.slices_SortFunc_none sllaysf0n6 p cap _ w)
    (fun blk off cap d w hH hblk hd => AnyQ.slices_SortFunc_total sllaysf0n6 2 Tryd.isAgg57 Tryd.sizeOf57 (fun s : S => sm s.1) (fun _ => rfl) (fun x v hv => by simp at hv; rcases hv with rfl | rfl <;> rfl) cf swo 27 #[] blk off cap d w
      (enters_of Tryd.func27 (by kernel_rfl) rfl) (cmpLays blk off d.size w) hH hblk hd cf_T)
    m p c 57 L hL
  dsimp only at h
  rw [← srt_map]
  exact h
end Qu
end Go.Proofs.YtmnlmmbfjfgfeaaDoor
/- The plain law of a division by digits of 32 bits (no program). -/
set_option linter.unusedSimpArgs false
set_option linter.unusedVariables false
set_option linter.unusedSectionVars false
set_option maxRecDepth 20000
set_option maxHeartbeats 4000000
namespace Go.Proofs.YtmnlmmbfjfgfeaaDoor
namespace Wide
/-- the state of a digit's search: q is not below the digit -/
structure Kn (u d y1 y0 q r : Nat) : Prop where
  eq : q * y1 + r = u
  ge : (u * 4294967296 + d) / (y1 * 4294967296 + y0) ≤ q
  lt : r < 4294967296
structure KnH (u d y1 y0 : Nat) : Prop where
  hu : u < y1 * 4294967296 + y0
  hd : d < 4294967296
  h1 : 2147483648 ≤ y1
  h2 : y1 < 4294967296
  h0 : y0 < 4294967296
theorem kn_ex (q y1 y0 : Nat) : q * (y1 * 4294967296 + y0) = q * y1 * 4294967296 + q * y0 := by rw [Nat.mul_add, ← Nat.mul_assoc]
theorem kn_digit {u d y1 y0 : Nat} (h : KnH u d y1 y0) : (u * 4294967296 + d) / (y1 * 4294967296 + y0) < 4294967296 := by
  have := h.hu; have := h.hd; have := h.h1
  rw [Nat.div_lt_iff_lt_mul (by omega)]
  omega
theorem kn_init {u d y1 y0 : Nat} (h : KnH u d y1 y0) : Kn u d y1 y0 (u / y1) (u % y1) := by
  have := h.hu; have := h.hd; have hy := h.h1; have := h.h2
  refine ⟨by rw [Nat.mul_comm]; exact Nat.div_add_mod u y1, ?_, Nat.lt_trans (Nat.mod_lt _ (by omega)) h.h2⟩
  apply Nat.le_of_lt_succ
  rw [Nat.div_lt_iff_lt_mul (by omega), kn_ex]
  have e := Nat.div_add_mod u y1
  have l := Nat.mod_lt u (show 0 < y1 by omega)
  rw [Nat.succ_mul, Nat.mul_comm (u / y1) y1]
  omega
theorem kn_stop {u d y1 y0 q r : Nat} (h : KnH u d y1 y0) (k : Kn u d y1 y0 q r) (hn : q * y0 ≤ r * 4294967296 + d) : (u * 4294967296 + d) / (y1 * 4294967296 + y0) = q := by
  have := h.h1; have := k.eq
  apply Nat.le_antisymm k.ge
  rw [Nat.le_div_iff_mul_le (by omega), kn_ex]
  omega
theorem kn_lt {u d y1 y0 q r : Nat} (h : KnH u d y1 y0) (k : Kn u d y1 y0 q r) (hn : 4294967296 ≤ q ∨ r * 4294967296 + d < q * y0) : (u * 4294967296 + d) / (y1 * 4294967296 + y0) < q := by
  have h1 := h.h1; have h2 := k.eq
  rcases hn with hn | hn
  · exact Nat.lt_of_lt_of_le (kn_digit h) hn
  · rw [Nat.div_lt_iff_lt_mul (by omega), kn_ex, ← h2, Nat.add_mul, Nat.add_assoc]
    exact Nat.add_lt_add_left hn _
theorem kn_le {u d y1 y0 q r : Nat} (h : KnH u d y1 y0) (k : Kn u d y1 y0 q r) : q ≤ 4294967297 := by
  have h1 := h.h1; have h2 := h.hu; have h3 := h.h0; have h4 := k.eq
  apply Classical.byContradiction
  intro hn
  have : 4294967298 * y1 ≤ q * y1 := Nat.mul_le_mul_right _ (by omega)
  omega
theorem kn_step {u d y1 y0 q r : Nat} (h : KnH u d y1 y0) (k : Kn u d y1 y0 q r) (hn : 4294967296 ≤ q ∨ r * 4294967296 + d < q * y0) (hr : r + y1 < 4294967296) : 0 < q ∧ Kn u d y1 y0 (q - 1) (r + y1) := by
  have l := kn_lt h k hn
  have hq0 : 0 < q := Nat.lt_of_le_of_lt (Nat.zero_le _) l
  obtain ⟨p, rfl⟩ : ∃ p, q = p + 1 := ⟨q - 1, by omega⟩
  have := k.eq
  rw [Nat.succ_mul] at this
  rw [Nat.add_sub_cancel]
  exact ⟨by omega, by omega, by omega, hr⟩
theorem kn_break {u d y1 y0 q r : Nat} (h : KnH u d y1 y0) (k : Kn u d y1 y0 q r) (hn : 4294967296 ≤ q ∨ r * 4294967296 + d < q * y0) (hr : 4294967296 ≤ r + y1) : (u * 4294967296 + d) / (y1 * 4294967296 + y0) = q - 1 := by
  have l := kn_lt h k hn
  have le := kn_le h k
  have h1 := h.h1; have h3 := h.h0
  have hq0 : 0 < q := Nat.lt_of_le_of_lt (Nat.zero_le _) l
  obtain ⟨p, rfl⟩ : ∃ p, q = p + 1 := ⟨q - 1, by omega⟩
  have e := k.eq
  rw [Nat.succ_mul] at e
  rw [Nat.add_sub_cancel]
  apply Nat.le_antisymm (by omega)
  rw [Nat.le_div_iff_mul_le (by omega), kn_ex]
  have : p * y0 ≤ 4294967296 * 4294967295 := Nat.mul_le_mul (by omega) (by omega)
  omega
/-- what is left of a digit, as the machine reckons -/
theorem kn_left {T Y q : Nat} (hY : 0 < Y) (hq : T / Y = q) : q * Y ≤ T ∧ T - q * Y = T % Y := by
  have := Nat.div_add_mod T Y
  rw [hq, Nat.mul_comm] at this
  omega
/-- both digits together -/
theorem kn_all {u d1 d0 Y : Nat} (hY : 0 < Y) :
    (u * 18446744073709551616 + (d1 * 4294967296 + d0)) / Y = (u * 4294967296 + d1) / Y * 4294967296 + ((u * 4294967296 + d1) % Y * 4294967296 + d0) / Y ∧
    (u * 18446744073709551616 + (d1 * 4294967296 + d0)) % Y = ((u * 4294967296 + d1) % Y * 4294967296 + d0) % Y := by
  obtain ⟨T, hT⟩ : ∃ T, T = u * 4294967296 + d1 := ⟨_, rfl⟩
  have e : u * 18446744073709551616 + (d1 * 4294967296 + d0) = Y * (T / Y * 4294967296) + (T % Y * 4294967296 + d0) := by
    have := Nat.div_add_mod T Y
    rw [← Nat.mul_assoc]
    omega
  rw [← hT, e, Nat.mul_add_div hY, Nat.mul_add_mod]
  exact ⟨rfl, rfl⟩
/-- a quotient and what is left, of what both were shifted by -/
theorem shift_div (V y k : Nat) (hk : 0 < k) : V * k / (y * k) = V / y ∧ V * k % (y * k) / k = V % y := by
  rw [Nat.mul_div_mul_right _ _ hk, Nat.mul_mod_mul_right, Nat.mul_div_cancel _ hk]
  exact ⟨rfl, rfl⟩
/-- how far y is shifted -/
theorem lead (y : Nat) (h0 : 0 < y) (h : y < 18446744073709551616) : Lib.bitLen y ≤ 64 ∧ 0 < Lib.bitLen y ∧ 9223372036854775808 ≤ y * 2 ^ (64 - Lib.bitLen y) ∧ y * 2 ^ (64 - Lib.bitLen y) < 18446744073709551616 := by
  have hb := Lib.bitLenAux_bounds 64 y h (by omega)
  have hl := Lib.bitLen_le y 64 (Nat.le_refl _) h
  have e : Lib.bitLen y = Lib.bitLenAux 64 y := rfl
  rw [← e] at hb
  obtain ⟨b, hbl⟩ : ∃ b, Lib.bitLen y = b := ⟨_, rfl⟩
  rw [hbl] at hb hl ⊢
  obtain ⟨h1, h2, h3⟩ := hb
  refine ⟨hl, h1, ?_, ?_⟩
  · calc 9223372036854775808 = 2 ^ (b - 1) * 2 ^ (64 - b) := by rw [← Nat.pow_add, show b - 1 + (64 - b) = 63 by omega]
      _ ≤ _ := Nat.mul_le_mul_right _ h2
  · calc y * 2 ^ (64 - b) < 2 ^ b * 2 ^ (64 - b) := Nat.mul_lt_mul_of_pos_right h3 (Nat.pow_pos (by decide))
      _ = _ := by rw [← Nat.pow_add, show b + (64 - b) = 64 by omega]
/-- the upper part of what is shifted -/
theorem shift_up (h l s b : Nat) (hsb : s + b = 64) : (h * 18446744073709551616 + l) * 2 ^ s / 18446744073709551616 = h * 2 ^ s + l / 2 ^ b ∧ (h * 18446744073709551616 + l) * 2 ^ s % 18446744073709551616 = l * 2 ^ s % 18446744073709551616 := by
  have e : (18446744073709551616 : Nat) = 2 ^ b * 2 ^ s := by rw [← Nat.pow_add, show b + s = 64 by omega]
  have e2 : (h * 18446744073709551616 + l) * 2 ^ s = 18446744073709551616 * (h * 2 ^ s) + l * 2 ^ s := by
    rw [Nat.add_mul, Nat.mul_right_comm, Nat.mul_comm (h * 2 ^ s)]
  have e3 : l * 2 ^ s / 18446744073709551616 = l / 2 ^ b := by
    rw [e, Nat.mul_div_mul_right _ _ (Nat.pow_pos (by decide))]
  rw [e2, Nat.mul_add_div (by decide), Nat.mul_add_mod, e3]
  exact ⟨rfl, rfl⟩
end Wide
end Go.Proofs.YtmnlmmbfjfgfeaaDoor
/- Contracts of the library's shelf as contracts of this layer. -/
set_option linter.unusedSimpArgs false
set_option linter.unusedVariables false
set_option linter.unusedSectionVars false
set_option maxRecDepth 20000
namespace Go.J
open Go Go.RowKit
variable {P : Program} {m : Mem}
theorem Pu.of_same {f : FuncId} {args : Array Value} {V : Value} (h : ∀ w, Calls P f args w fun e w' => e = .returned V ∧ w' = w) : Pu P f args V :=
  fun m w0 Rest w hw => (h w).mono fun e w' ⟨he, hw'⟩ => ⟨V, m, [], he, Mem.le_refl m, ⟨rfl, rfl, rfl⟩, hw' ▸ hw⟩
/-- what comes back is a new list that the caller owns -/
theorem Ct.of_row {α : Type} {f : FuncId} {args : Array Value} {fl : α → List Value} {E : TypeId} {L : List α} (hf : Fl fl 1)
    (h : ∀ w : World, (∀ k o, m k = some o → w.heap[k]? = some o) → Calls P f args w fun e w' => ∃ v', e = .returned v' ∧ w'.ownsRow w.heap.size E 1 v' L.length (L.flatMap fl) ∧ Below w.heap.size w w' ∧ w.drawn ≤ w'.drawn) :
    Ct P f args m [] (fun v m' B => ∃ p c, v = .slice p L.length c ∧ m = m' ∧ B = [.own fl 1 E p c L]) := by
  intro w0 Rest w hw
  refine (h w hw.mem).mono ?_
  rintro e w' ⟨v', rfl, ⟨hl, hv⟩, hb, hdr⟩
  obtain ⟨s, hs, hm⟩ := hw.res
  have hs' : Sat Rest w' s := Sat.loc hs (fun k hk => hb.block k (hs.dom hk))
  have hmem : ∀ k o, m k = some o → w'.heap[k]? = some o := fun k o hk => by
    have h0 := hw.mem k o hk
    rw [hb.block k (Array.getElem?_eq_some_iff.1 h0).1]; exact h0
  rcases hv with ⟨rfl, hn⟩ | ⟨g, cap, cur, rfl, hg, hcell, hn, hcap, hsz, htake⟩
  · have hL : L = [] := List.length_eq_zero_iff.1 hn
    subst hL
    exact ⟨_, m, [_], rfl, Mem.le_refl m, ⟨none, 0, rfl, rfl, rfl⟩, hb.os.trans hw.os, hb.tape.trans hw.tape, hb.output.trans hw.output, Nat.le_trans hw.size hb.size, Nat.le_trans hw.dr hdr, hmem,
      s, ⟨fun _ => False, s, .inl ⟨rfl, rfl, rfl, fun _ h => h⟩, hs', fun k ⟨x, _⟩ => x, fun k => ⟨.inr, fun x => x.elim (fun y => y.elim) id⟩⟩, hm⟩
  · refine ⟨_, m, [_], rfl, Mem.le_refl m, ⟨some ⟨g, 0, none⟩, cap, rfl, rfl, rfl⟩, hb.os.trans hw.os, hb.tape.trans hw.tape, hb.output.trans hw.output, Nat.le_trans hw.size hb.size, Nat.le_trans hw.dr hdr, hmem,
      fun k => k = g ∨ s k, ⟨fun k => k = g, s, .inr ⟨g, 0, cur, rfl, hcell, hn, hcap, by omega, fun j hj => ?_, fun k => Iff.rfl⟩, hs', fun k ⟨x, y⟩ => ?_, fun k => Iff.rfl⟩, ?_⟩
    · rw [← htake, Nat.zero_add, List.getElem?_take, if_pos hj, Array.getElem?_toList]
    · have := hs.dom y
      have hk : k = g := x
      omega
    · rintro k (rfl | hk)
      · cases hk : m k with
        | none => rfl
        | some o =>
          have h0 := (Array.getElem?_eq_some_iff.1 (hw.mem k o hk)).1
          omega
      · exact hm k hk
end Go.J
/- Contracts of Go's library off the shelf, laid at this program (in plain words, by the shelf's own tools). -/
set_option linter.unusedSimpArgs false
set_option linter.unusedVariables false
set_option linter.unusedSectionVars false
set_option maxRecDepth 20000
namespace Go.Proofs.YtmnlmmbfjfgfeaaDoor
open Go Go.Shelf
set_option maxRecDepth 100000
def laysn134_ren : Go.Shelf.Ren := ⟨fun | 134 => 47 | 129 => 69 | n => n, fun | 53 => 23 | 3 => 3 | 4 => 4 | 46 => 73 | 5 => 5 | 9 => 9 | n => n, fun | n => n⟩
theorem laysn134 : Go.Proofs.Lays.n134 Tryd.prog laysn134_ren := {
  mixed := by kernel_rfl
  f129 := Tryd.func69.trans (congrArg some (by kernel_rfl))
  f134 := Tryd.func47.trans (congrArg some (by kernel_rfl))
  t3 := Tryd.underlying3
  a3 := Tryd.isAgg3
  z3 := Tryd.sizeOf3
  v3 := Tryd.zeroValue3
  t4 := Tryd.underlying4
  a4 := Tryd.isAgg4
  z4 := Tryd.sizeOf4
  v4 := Tryd.zeroValue4
  t5 := Tryd.underlying5
  a5 := Tryd.isAgg5
  z5 := Tryd.sizeOf5
  v5 := Tryd.zeroValue5
  t9 := Tryd.underlying9
  a9 := Tryd.isAgg9
  z9 := Tryd.sizeOf9
  v9 := Tryd.zeroValue9
  t46 := Tryd.underlying73
  a46 := Tryd.isAgg73
  z46 := Tryd.sizeOf73
  v46 := Tryd.zeroValue73
  t53 := Tryd.underlying23
  a53 := Tryd.isAgg23
  z53 := Tryd.sizeOf23
  v53 := Tryd.zeroValue23 }
end Go.Proofs.YtmnlmmbfjfgfeaaDoor
/- The package wide: one number less another one, and how often a number goes into another one. -/
set_option linter.unusedSimpArgs false
set_option linter.unusedVariables false
set_option linter.unusedSectionVars false
set_option maxRecDepth 20000
set_option maxHeartbeats 4000000
namespace Go.Proofs.YtmnlmmbfjfgfeaaDoor
open Go Go.J
attribute [local irreducible] At AtQ AtM AtM1 PR Ct Pu Rd Res.blk Res.own Res.ex RVs RV
namespace Wide
def dE (x y : Nat) : Int := if x < y then 1 else 0
theorem sub64 {n : Nat} {F : Fr} {C : World → Prop} {x y z : Operand} {ts : Array TypeId} {a b c : Int} (hx : ev F x = some (.int .u64 a)) (hy : ev F y = some (.int .u64 b)) (hz : ev F z = some (.int .u64 c)) (h0 : 0 ≤ a ∧ a < 18446744073709551616) (h1 : 0 ≤ b ∧ b < 18446744073709551616) (h2 : 0 ≤ c) (h3 : c ≤ 1) :
    PR Tryd.prog n F C (.call ⟨.value (.func 79), #[x, y, z], ts⟩) (.tuple #[.int .u64 ((a - b - c) % 18446744073709551616), .int .u64 (-((a - b - c) / 18446744073709551616))]) :=
  pr_extern (xs := [x, y, z]) (vs := [.int .u64 a, .int .u64 b, .int .u64 c]) (e := sub64Entry) Tryd.func79 (by kernel_rfl) (by kernel_rfl) (by kernel_rfl) (by kernel_rfl) (by simp [evs, hx, hy, hz]) fun w => by
    obtain ⟨p, rfl⟩ : ∃ p : Nat, a = (p : Int) := ⟨a.toNat, by omega⟩
    obtain ⟨q, rfl⟩ : ∃ q : Nat, b = (q : Int) := ⟨b.toNat, by omega⟩
    obtain ⟨k, rfl⟩ : ∃ k : Nat, c = (k : Int) := ⟨c.toNat, by omega⟩
    have e := run_sub64 p q k (by omega) w (P := Tryd.prog)
    have e1 : ((p + 18446744073709551616 - q - k) % 18446744073709551616 : Nat) = (((p : Int) - q - k) % 18446744073709551616).toNat := by omega
    have e2 : (((p + 18446744073709551616 - q - k) % 18446744073709551616 : Nat) : Int) = ((p : Int) - q - k) % 18446744073709551616 := by omega
    have e3 : ((if p < q + k then 1 else 0 : Nat) : Int) = -(((p : Int) - q - k) / 18446744073709551616) := by split <;> omega
    rw [e2, e3] at e
    exact e
theorem sub (x y : Nat) (hx : x < 340282366920938463463374607431768211456) (hy : y < 340282366920938463463374607431768211456) : Pu Tryd.prog 73 #[wv x, wv y] (.tuple #[wv (x - y), .int .i64 (dE x y)]) := Pu.intro fun m => by
  by_cases h : x < y
  · have e1 : x - y = 0 := by omega
    have e2 : dE x y = 1 := if_pos h
    rw [e1, e2]
    refine Ct.enterV (by rfl) Tryd.func73 rfl Tryd.ntmps73 rfl (fun w0 Rest => ?_)
    (repeat' (first | refine zss ?_ | ((first | (with_reducible first | apply At.val | apply AtQ.val)); (first | exact sub64 (by rfl) (by rfl) (by rfl) (by omega) (by omega) (by omega) (by omega) | exact zprA); exact rfl) | refine zs0 ?_ | ((with_reducible first | apply AtM1.callp | apply AtQ.callp | apply At.callp); kernel_rfl; exact rfl; exact rfl; exact sure1 _ _ _ (by omega)) | ((with_reducible apply At.box (d := 2)); exact rfl; exact rfl; exact rfl; intro b2) | ((with_reducible apply At.box (d := 3)); exact rfl; exact rfl; exact rfl; intro b3) | ((with_reducible apply At.alloc (d := 4)); exact rfl; exact rfl; intro b4) | (refine zsp ?_ ?_ <;> (intro hc; (try simp only [zhcs, reduceCtorEq] at hc); (try (exfalso; first | contradiction | omega | exact absurd rfl hc | exact absurd (by decide) hc))))))
    all_goals ((with_reducible apply At.retV (B := [])); exact rfl; (repeat' (first | exact RVs.nil | (with_reducible apply RVs.cons) | exact rv_tmp (by rfl) | exact rv_cellN (by rfl) (by repeat constructor) (by rfl) (by rfl) (by rfl) | exact rv_cell1 (by rfl) (by repeat constructor) (by rfl) (by rfl) | exact rv_cellA (by rfl) (by repeat constructor) (by rfl) (by rfl) zlq)); exact zml; exact zkp; exact ⟨rfl, rfl, rfl⟩)
  · have e2 : dE x y = 0 := if_neg h
    rw [e2]
    refine Ct.enterV (by rfl) Tryd.func73 rfl Tryd.ntmps73 rfl (fun w0 Rest => ?_)
    (repeat' (first | refine zss ?_ | ((first | (with_reducible first | apply At.val | apply AtQ.val)); (first | exact sub64 (by rfl) (by rfl) (by rfl) (by omega) (by omega) (by omega) (by omega) | exact zprA); exact rfl) | refine zs0 ?_ | ((with_reducible first | apply AtM1.callp | apply AtQ.callp | apply At.callp); kernel_rfl; exact rfl; exact rfl; exact sure0 _ _ _ (by omega)) | ((with_reducible apply At.box (d := 2)); exact rfl; exact rfl; exact rfl; intro b2) | ((with_reducible apply At.box (d := 3)); exact rfl; exact rfl; exact rfl; intro b3) | ((with_reducible apply At.alloc (d := 4)); exact rfl; exact rfl; intro b4) | (refine zsp ?_ ?_ <;> (intro hc; (try simp only [zhcs, reduceCtorEq] at hc); (try (exfalso; first | contradiction | omega | exact absurd rfl hc | exact absurd (by decide) hc))))))
    all_goals ((with_reducible apply At.retV (B := [])); exact rfl; (repeat' (first | exact RVs.nil | (with_reducible apply RVs.cons) | exact rv_tmp (by rfl) | exact rv_cellN (by rfl) (by repeat constructor) (by rfl) (by rfl) (by rfl) | exact rv_cell1 (by rfl) (by repeat constructor) (by rfl) (by rfl) | exact rv_cellA (by rfl) (by repeat constructor) (by rfl) (by rfl) zlq)); exact zml; exact zkp; exact ⟨congrArg (fun v => Value.tuple #[v, .int .i64 0]) (wd_mk (by omega) (by omega)), rfl, rfl⟩)
theorem lz (y : Nat) (h : y < 18446744073709551616) : Pu Tryd.prog 47 #[.int .u64 (y : Int)] (.int .i64 (64 - (Lib.bitLen y : Int))) := by
  have := Pu.of_same fun w => Any.bits_LeadingZeros64 laysn134 (y : Int) w (by omega) (by omega)
  rw [Int.toNat_natCast] at this
  exact this
end Wide
end Go.Proofs.YtmnlmmbfjfgfeaaDoor
/- How often a number of 64 bits goes into one of 128. -/
set_option linter.unusedSimpArgs false
set_option linter.unusedVariables false
set_option linter.unusedSectionVars false
set_option maxRecDepth 20000
set_option maxHeartbeats 4000000
namespace Go.Proofs.YtmnlmmbfjfgfeaaDoor
open Go Go.J
attribute [local irreducible] At AtQ AtM AtM1 PR Ct Pu Rd Res.blk Res.own Res.ex RVs RV
namespace Wide
structure KS where
  (q : Nat) (r : Nat)
theorem u_in {a : Int} (h : 0 ≤ a ∧ a < 18446744073709551616) : IntKind.wrap .u64 a = a := by rw [IntKind.wrap_u64]; omega
theorem u_inN {a : Nat} (h : a < 18446744073709551616) : IntKind.wrap .u64 (a : Int) = (a : Int) := u_in (by omega)
theorem u_quo {a b : Nat} (h : a / b < 18446744073709551616) : IntKind.wrap .u64 ((a : Int).tdiv (b : Int)) = ((a / b : Nat) : Int) := by rw [← Int.ofNat_tdiv]; exact u_inN h
theorem u_rem (a b : Nat) : (a : Int).tmod (b : Int) = ((a % b : Nat) : Int) := (Int.ofNat_tmod a b).symm
theorem u_mul {a b : Nat} (h : a * b < 18446744073709551616) : IntKind.wrap .u64 ((a : Int) * (b : Int)) = ((a * b : Nat) : Int) := by rw [← Int.natCast_mul]; exact u_inN h
theorem u_mulw (a b : Nat) : IntKind.wrap .u64 ((a : Int) * (b : Int)) = ((a * b % 18446744073709551616 : Nat) : Int) := by rw [← Int.natCast_mul, IntKind.wrap_u64, Int.natCast_emod]; rfl
theorem u_add {a b : Nat} (h : a + b < 18446744073709551616) : IntKind.wrap .u64 ((a : Int) + (b : Int)) = ((a + b : Nat) : Int) := by rw [← Int.natCast_add]; exact u_inN h
theorem u_sub {a b : Nat} (h : b ≤ a) (ha : a < 18446744073709551616) : IntKind.wrap .u64 ((a : Int) - (b : Int)) = ((a - b : Nat) : Int) := by rw [IntKind.wrap_u64]; omega
theorem u_shl (a k : Nat) : IntKind.wrap .u64 ((a : Int) * 2 ^ ((k : Int)).toNat) = ((a * 2 ^ k % 18446744073709551616 : Nat) : Int) := by
  rw [Int.toNat_natCast, show ((2 : Int) ^ k) = ((2 ^ k : Nat) : Int) by rw [Int.natCast_pow]; rfl]
  exact u_mulw _ _
theorem u_shr (a k : Nat) : (a : Int) / 2 ^ ((k : Int)).toNat = ((a / 2 ^ k : Nat) : Int) := by
  rw [Int.toNat_natCast, show ((2 : Int) ^ k) = ((2 ^ k : Nat) : Int) by rw [Int.natCast_pow]; rfl, Int.natCast_ediv]
theorem u_shr32 (a : Nat) : (a : Int) / 2 ^ ((32 : Int)).toNat = ((a / 4294967296 : Nat) : Int) := u_shr a 32
theorem u_low (a : Nat) (h : a < 18446744073709551616) : bits .and .u64 (a : Int) 4294967295 = ((a % 4294967296 : Nat) : Int) := by rw [and_low32 _ (by omega) (by omega)]; rfl
theorem u_left {T P R : Nat} (h1 : P ≤ T) (h2 : T - P = R) (hR : R < 18446744073709551616) : IntKind.wrap .u64 (((T % 18446744073709551616 : Nat) : Int) - ((P % 18446744073709551616 : Nat) : Int)) = (R : Int) := by rw [IntKind.wrap_u64]; omega
theorem u_top (u d : Nat) : IntKind.wrap .u64 (((u * 4294967296 % 18446744073709551616 : Nat) : Int) + (d : Int)) = (((u * 4294967296 + d) % 18446744073709551616 : Nat) : Int) := by rw [IntKind.wrap_u64]; omega
set_option maxHeartbeats 4000000 in
theorem div64 (h l y V : Nat) (hV : V = h * 18446744073709551616 + l) (hy : h < y) (hyb : y < 18446744073709551616) (hl : l < 18446744073709551616) :
    Pu Tryd.prog 31 #[.int .u64 (h : Int), .int .u64 (l : Int), .int .u64 (y : Int)] (.tuple #[.int .u64 ((V / y : Nat) : Int), .int .u64 ((V % y : Nat) : Int)]) := Pu.intro fun m => by
  by_cases h0 : h = 0
  · subst h0
    rw [Nat.zero_mul, Nat.zero_add] at hV
    subst hV
    have f1 := u_quo (a := V) (b := y) (Nat.lt_of_le_of_lt (Nat.div_le_self _ _) hl)
    have f2 := u_rem V y
    refine Ct.enterV (by rfl) Tryd.func31 rfl Tryd.ntmps31 rfl (fun w0 Rest => ?_)
    (repeat' (first | refine zss ?_ | ((first | (with_reducible first | apply At.val | apply AtQ.val)); (first | exact pr_quo (by rfl) (by rfl) (by omega) f1 | exact pr_rem (by rfl) (by rfl) (by omega) f2 | exact zprA); exact rfl) | refine zs0 ?_ | (refine zsp ?_ ?_ <;> (intro hc; (try simp only [zhcs, reduceCtorEq] at hc); (try (exfalso; first | omega | contradiction | omega | exact absurd rfl hc | exact absurd (by decide) hc))))))
    all_goals ((with_reducible apply At.retB2 (B := [])); (iterate 3 exact rfl); exact zml; exact zkp; exact ⟨rfl, rfl, rfl⟩)
  · obtain ⟨hb1, hb0, hY1, hY2⟩ := lead y (by omega) hyb
    have hlz := lz y hyb
    obtain ⟨b, hb⟩ : ∃ b, b = Lib.bitLen y := ⟨_, rfl⟩
    rw [← hb] at hb1 hb0 hY1 hY2 hlz
    obtain ⟨s, hs⟩ : ∃ s, s = 64 - b := ⟨_, rfl⟩
    have hsb : s + b = 64 := by omega
    rw [show (64 - (b : Int)) = (s : Int) by omega] at hlz
    rw [← hs] at hY1 hY2
    have hk : 0 < 2 ^ s := Nat.pow_pos (by decide)
    obtain ⟨up, lo⟩ := shift_up h l s b hsb
    rw [← hV] at up lo
    obtain ⟨sd, sm⟩ := shift_div V y (2 ^ s) hk
    have hsh := u_shl y s
    rw [Nat.mod_eq_of_lt hY2] at hsh
    have hA : h * 2 ^ s < y * 2 ^ s := Nat.mul_lt_mul_of_pos_right hy hk
    have hfA := u_shl h s
    rw [Nat.mod_eq_of_lt (by omega)] at hfA
    have hfC := u_shr l b
    have hC : l / 2 ^ b < 2 ^ s := by
      rw [Nat.div_lt_iff_lt_mul (Nat.pow_pos (by decide)), ← Nat.pow_add, hsb]; exact hl
    have hor : bits .or .u64 ((h * 2 ^ s : Nat) : Int) ((l / 2 ^ b : Nat) : Int) = ((h * 2 ^ s + l / 2 ^ b : Nat) : Int) := by
      have : l / 2 ^ b ≤ l := Nat.div_le_self _ _
      rw [u64_or_nat _ _ (by omega) (by omega), nat_join s _ _ (Nat.mul_mod_left _ _) hC]
    have hfE := u_shl l s
    have hu : V * 2 ^ s / 18446744073709551616 < y * 2 ^ s := by
      rw [Nat.div_lt_iff_lt_mul (by decide), Nat.mul_right_comm]
      exact Nat.mul_lt_mul_of_pos_right (by omega) hk
    have hsplit := Nat.div_add_mod (V * 2 ^ s) 18446744073709551616
    rw [up] at hu hsplit
    rw [lo] at hsplit
    generalize h * 2 ^ s = A at *
    generalize l / 2 ^ b = C at *
    generalize l * 2 ^ s % 18446744073709551616 = E at *
    generalize V * 2 ^ s = W at *
    generalize y * 2 ^ s = Y at *
    have hEl : E < 18446744073709551616 := by rw [← lo]; exact Nat.mod_lt _ (by decide)
    obtain ⟨u, hue⟩ : ∃ u, u = A + C := ⟨_, rfl⟩
    rw [← hue] at hor hu hsplit
    obtain ⟨y1, hy1⟩ : ∃ y1, y1 = Y / 4294967296 := ⟨_, rfl⟩
    obtain ⟨y0, hy0⟩ : ∃ y0, y0 = Y % 4294967296 := ⟨_, rfl⟩
    obtain ⟨d1, hd1⟩ : ∃ d1, d1 = E / 4294967296 := ⟨_, rfl⟩
    obtain ⟨d0, hd0⟩ : ∃ d0, d0 = E % 4294967296 := ⟨_, rfl⟩
    have hYy : y1 * 4294967296 + y0 = Y := by omega
    have hEd : E = d1 * 4294967296 + d0 := by omega
    have K1 : KnH u d1 y1 y0 := ⟨by omega, by omega, by omega, by omega, by omega⟩
    obtain ⟨a1, a2⟩ := kn_all (u := u) (d1 := d1) (d0 := d0) (Y := Y) (by omega)
    rw [← hEd, Nat.mul_comm u, hsplit] at a1 a2
    obtain ⟨q1, hq1⟩ : ∃ q1, (u * 4294967296 + d1) / Y = q1 := ⟨_, rfl⟩
    obtain ⟨r1, hr1⟩ : ∃ r1, (u * 4294967296 + d1) % Y = r1 := ⟨_, rfl⟩
    obtain ⟨l1, l2⟩ := kn_left (T := u * 4294967296 + d1) (by omega) hq1
    have hr1Y : r1 < Y := by rw [← hr1]; exact Nat.mod_lt _ (by omega)
    rw [hr1] at l2
    rw [hq1, hr1] at a1
    rw [hr1] at a2
    have K2 : KnH r1 d0 y1 y0 := ⟨by omega, by omega, by omega, by omega, by omega⟩
    obtain ⟨q0, hq0⟩ : ∃ q0, (r1 * 4294967296 + d0) / Y = q0 := ⟨_, rfl⟩
    obtain ⟨r0, hr0⟩ : ∃ r0, (r1 * 4294967296 + d0) % Y = r0 := ⟨_, rfl⟩
    obtain ⟨k1, k2⟩ := kn_left (T := r1 * 4294967296 + d0) (by omega) hq0
    have hr0Y : r0 < Y := by rw [← hr0]; exact Nat.mod_lt _ (by omega)
    rw [hr0] at k2
    rw [hq0] at a1
    rw [hr0] at a2
    have hqb1 := kn_digit K1
    have hqb0 := kn_digit K2
    rw [hYy, hq1] at hqb1
    rw [hYy, hq0] at hqb0
    have I1 := kn_init K1
    have I2 := kn_init K2
    have e1 : u / y1 * y1 + u % y1 = u := I1.eq
    have e2 : r1 / y1 * y1 + r1 % y1 = r1 := I2.eq
    have hy10 : y1 ≠ 0 := by omega
    have g1 := u_shr32 Y
    have g2 := u_low Y hY2
    have g3 := u_shr32 E
    have g4 := u_low E hEl
    rw [← hy1] at g1
    rw [← hy0] at g2
    rw [← hd1] at g3
    rw [← hd0] at g4
    have m1 := u_quo (a := u) (b := y1) (Nat.lt_of_le_of_lt (Nat.div_le_self _ _) (by omega))
    have m2 := u_mul (a := u / y1) (b := y1) (by omega)
    have m3 : IntKind.wrap .u64 ((u : Int) - ((u / y1 * y1 : Nat) : Int)) = ((u % y1 : Nat) : Int) := by
      generalize u / y1 * y1 = X at e1 ⊢
      generalize u % y1 = Z at e1 ⊢
      rw [IntKind.wrap_u64]; omega
    have n1 := u_quo (a := r1) (b := y1) (Nat.lt_of_le_of_lt (Nat.div_le_self _ _) (by omega))
    have n2 := u_mul (a := r1 / y1) (b := y1) (by omega)
    have n3 : IntKind.wrap .u64 ((r1 : Int) - ((r1 / y1 * y1 : Nat) : Int)) = ((r1 % y1 : Nat) : Int) := by
      generalize r1 / y1 * y1 = X at e2 ⊢
      generalize r1 % y1 = Z at e2 ⊢
      rw [IntKind.wrap_u64]; omega
    have t1 := u_mulw u 4294967296
    have t2 := u_top u d1
    have t3 := u_mulw q1 Y
    have t4 := u_left l1 l2 (by omega)
    have v1 := u_mulw r1 4294967296
    have v2 := u_top r1 d0
    have v3 := u_mulw q0 Y
    have v4 := u_left k1 k2 (by omega)
    have v5 := u_mul (a := q1) (b := 4294967296) (by omega)
    have v6 := u_add (a := q1 * 4294967296) (b := q0) (by omega)
    have v7 := u_shr r0 s
    have z1 : V / y = q1 * 4294967296 + q0 := sd.symm.trans a1
    have z2 : V % y = r0 / 2 ^ s := by rw [← sm, a2]
    rw [z1, z2]
    clear z1 z2 sd sm a1 a2 up lo hsplit hV I1 I2 e1 e2 hb
    have hsub : IntKind.wrap .u64 (64 - (s : Int)) = (b : Int) := by rw [IntKind.wrap_u64]; omega
    refine Ct.enterV (by rfl) Tryd.func31 rfl Tryd.ntmps31 rfl (fun w0 Rest => ?_)
    (repeat' (first | ((refine At.cutb (id := 0) (σ := Nat) [2, 8, 9, 10, 11, 13, 14] (fun s F0 => (15, .int .u64 (s : Int)) :: F0) (fun s => m) (fun s => Rest) (fun s => s = q1) (by rfl) ?_ ?_)) | refine zss ?_ | ((first | (with_reducible first | apply At.val | apply AtQ.val)); (first | exact pr_sub (by rfl) (by rfl) hsub | exact pr_shlv (by rfl) (by rfl) (by omega) (by simp only [IntKind.bits]; omega) hsh | exact pr_shlv (by rfl) (by rfl) (by omega) (by simp only [IntKind.bits]; omega) hfA | exact pr_shlv (by rfl) (by rfl) (by omega) (by simp only [IntKind.bits]; omega) hfE | exact pr_shrv (by rfl) (by rfl) (by omega) (by simp only [IntKind.bits]; omega) g1 | exact pr_shrv (by rfl) (by rfl) (by omega) (by simp only [IntKind.bits]; omega) g3 | exact pr_shrv (by rfl) (by rfl) (by omega) (by simp only [IntKind.bits]; omega) hfC | exact pr_and (by rfl) (by rfl) g2 | exact pr_and (by rfl) (by rfl) g4 | exact pr_or (by rfl) (by rfl) hor | exact pr_quo (by rfl) (by rfl) (by omega) m1 | exact pr_mul (by rfl) (by rfl) m2 | exact pr_sub (by rfl) (by rfl) m3 | exact zprA); exact rfl) | refine zs0 ?_ | ((with_reducible first | apply AtM1.callp | apply AtQ.callp | apply At.callp); kernel_rfl; exact rfl; exact rfl; exact hlz) | (refine zsp ?_ ?_ <;> (intro hc; (try simp only [zhcs, reduceCtorEq] at hc); (try (exfalso; first | omega | contradiction | omega | exact absurd rfl hc | exact absurd (by decide) hc))))))
    · clear m1 m2 m3 n1 n2 n3 t1 t2 t3 t4 v1 v2 v3 v4 v5 v6 v7 g1 g2 g3 g4 hsh hfA hfC hfE hor hsub hlz k1 k2 l1 l2
      (refine At.loopk (σ := KS) [2, 8, 9, 10, 11, 13, 14] (fun s F0 => (15, .int .u64 (s.q : Int)) :: (16, .int .u64 (s.r : Int)) :: F0) (fun s => m) (fun s => Rest) (fun s => Kn u d1 y1 y0 s.q s.r) (fun s => s.q) ⟨u / y1, u % y1⟩ (by rfl) ?_ zsubs zml zente ?_)
      · exact kn_init K1
      rintro ⟨q, r⟩ kn
      dsimp only at kn ⊢
      have hle := kn_le K1 kn
      have hlt := kn.lt
      by_cases hC : 4294967296 ≤ q ∨ r * 4294967296 + d1 < q * y0
      · obtain ⟨hpos, hst⟩ : 0 < q ∧ (r + y1 < 4294967296 → Kn u d1 y1 y0 (q - 1) (r + y1)) := ⟨Nat.lt_of_le_of_lt (Nat.zero_le _) (kn_lt K1 kn hC), fun hr => (kn_step K1 kn hC hr).2⟩
        have o1 : IntKind.wrap .u64 ((q : Int) - 1) = ((q - 1 : Nat) : Int) := by rw [IntKind.wrap_u64]; omega
        have o2 := u_add (a := r) (b := y1) (by omega)
        by_cases hr : r + y1 < 4294967296
        · by_cases hq : 4294967296 ≤ q
          · (repeat' (first | refine zss ?_ | ((first | (with_reducible first | apply At.val | apply AtQ.val)); (first | exact pr_sub (by rfl) (by rfl) o1 | exact pr_add (by rfl) (by rfl) o2 | exact zprA); exact rfl) | refine zs0 ?_ | (refine zsp ?_ ?_ <;> (intro hc; (try simp only [zhcs, reduceCtorEq] at hc); (try (exfalso; first | omega | contradiction | omega | exact absurd rfl hc | exact absurd (by decide) hc))))))
            all_goals ((with_reducible refine At.reachk (⟨q - 1, r + y1⟩) ?_ ?_ ?_ ?_); exact zsubs; exact zml; exact zente; exact ⟨hst hr, by dsimp only; omega⟩)
          · have hn := hC.resolve_left hq
            have p1 := u_mul (a := q) (b := y0) (by have : q * y0 ≤ 4294967295 * 4294967295 := Nat.mul_le_mul (by omega) (by omega); omega)
            have p2 : IntKind.wrap .u64 (4294967296 * (r : Int)) = ((r * 4294967296 : Nat) : Int) := by rw [IntKind.wrap_u64]; omega
            have p3 := u_add (a := r * 4294967296) (b := d1) (by omega)
            generalize q * y0 = X at hn p1
            (repeat' (first | refine zss ?_ | ((first | (with_reducible first | apply At.val | apply AtQ.val)); (first | exact pr_sub (by rfl) (by rfl) o1 | exact pr_add (by rfl) (by rfl) o2 | exact pr_mul (by rfl) (by rfl) p1 | exact pr_mul (by rfl) (by rfl) p2 | exact pr_add (by rfl) (by rfl) p3 | exact zprA); exact rfl) | refine zs0 ?_ | (refine zsp ?_ ?_ <;> (intro hc; (try simp only [zhcs, reduceCtorEq] at hc); (try (exfalso; first | omega | contradiction | omega | exact absurd rfl hc | exact absurd (by decide) hc))))))
            all_goals ((with_reducible refine At.reachk (⟨q - 1, r + y1⟩) ?_ ?_ ?_ ?_); exact zsubs; exact zml; exact zente; exact ⟨hst hr, by dsimp only; omega⟩)
        · have hbr := kn_break K1 kn hC (by omega)
          rw [hYy, hq1] at hbr
          by_cases hq : 4294967296 ≤ q
          · (repeat' (first | refine zss ?_ | ((first | (with_reducible first | apply At.val | apply AtQ.val)); (first | exact pr_sub (by rfl) (by rfl) o1 | exact pr_add (by rfl) (by rfl) o2 | exact zprA); exact rfl) | refine zs0 ?_ | (refine zsp ?_ ?_ <;> (intro hc; (try simp only [zhcs, reduceCtorEq] at hc); (try (exfalso; first | omega | contradiction | omega | exact absurd rfl hc | exact absurd (by decide) hc))))))
            all_goals ((with_reducible refine At.reachk ((q - 1)) ?_ ?_ ?_ ?_); exact zsubs; exact zml; exact zente; exact hbr.symm)
          · have hn := hC.resolve_left hq
            have p1 := u_mul (a := q) (b := y0) (by have : q * y0 ≤ 4294967295 * 4294967295 := Nat.mul_le_mul (by omega) (by omega); omega)
            have p2 : IntKind.wrap .u64 (4294967296 * (r : Int)) = ((r * 4294967296 : Nat) : Int) := by rw [IntKind.wrap_u64]; omega
            have p3 := u_add (a := r * 4294967296) (b := d1) (by omega)
            generalize q * y0 = X at hn p1
            (repeat' (first | refine zss ?_ | ((first | (with_reducible first | apply At.val | apply AtQ.val)); (first | exact pr_sub (by rfl) (by rfl) o1 | exact pr_add (by rfl) (by rfl) o2 | exact pr_mul (by rfl) (by rfl) p1 | exact pr_mul (by rfl) (by rfl) p2 | exact pr_add (by rfl) (by rfl) p3 | exact zprA); exact rfl) | refine zs0 ?_ | (refine zsp ?_ ?_ <;> (intro hc; (try simp only [zhcs, reduceCtorEq] at hc); (try (exfalso; first | omega | contradiction | omega | exact absurd rfl hc | exact absurd (by decide) hc))))))
            all_goals ((with_reducible refine At.reachk ((q - 1)) ?_ ?_ ?_ ?_); exact zsubs; exact zml; exact zente; exact hbr.symm)
      · have hbr := kn_stop K1 kn (by omega)
        rw [hYy, hq1] at hbr
        have hq : q < 4294967296 := by omega
        have hn : ¬ r * 4294967296 + d1 < q * y0 := fun x => hC (.inr x)
        have p1 := u_mul (a := q) (b := y0) (by have : q * y0 ≤ 4294967295 * 4294967295 := Nat.mul_le_mul (by omega) (by omega); omega)
        have p2 : IntKind.wrap .u64 (4294967296 * (r : Int)) = ((r * 4294967296 : Nat) : Int) := by rw [IntKind.wrap_u64]; omega
        have p3 := u_add (a := r * 4294967296) (b := d1) (by omega)
        clear hC
        generalize q * y0 = X at hn p1
        (repeat' (first | refine zss ?_ | ((first | (with_reducible first | apply At.val | apply AtQ.val)); (first | exact pr_mul (by rfl) (by rfl) p1 | exact pr_mul (by rfl) (by rfl) p2 | exact pr_add (by rfl) (by rfl) p3 | exact zprA); exact rfl) | refine zs0 ?_ | (refine zsp ?_ ?_ <;> (intro hc; (try simp only [zhcs, reduceCtorEq] at hc); (try (exfalso; first | omega | contradiction | omega | exact absurd rfl hc | exact absurd (by decide) hc))))))
        all_goals ((with_reducible refine At.reachk (q) ?_ ?_ ?_ ?_); exact zsubs; exact zml; exact zente; exact hbr.symm)
    · rintro z rfl
      clear m1 m2 m3 g1 g2 g3 g4 hsh hfA hfC hfE hor hsub hlz
      (repeat' (first | ((refine At.cutb (id := 2) (σ := Nat) [2, 8, 14, 15, 17] (fun s F0 => (18, .int .u64 (s : Int)) :: F0) (fun s => m) (fun s => Rest) (fun s => s = q0) (by rfl) ?_ ?_)) | refine zss ?_ | ((first | (with_reducible first | apply At.val | apply AtQ.val)); (first | exact pr_mul (by rfl) (by rfl) t1 | exact pr_add (by rfl) (by rfl) t2 | exact pr_mul (by rfl) (by rfl) t3 | exact pr_sub (by rfl) (by rfl) t4 | exact pr_quo (by rfl) (by rfl) (by omega) n1 | exact pr_mul (by rfl) (by rfl) n2 | exact pr_sub (by rfl) (by rfl) n3 | exact zprA); exact rfl) | refine zs0 ?_ | (refine zsp ?_ ?_ <;> (intro hc; (try simp only [zhcs, reduceCtorEq] at hc); (try (exfalso; first | omega | contradiction | omega | exact absurd rfl hc | exact absurd (by decide) hc))))))
      · clear n1 n2 n3 v1 v2 v3 v4 v5 v6 v7 k1 k2 l1 l2
        (refine At.loopk (σ := KS) [2, 8, 9, 10, 14, 15, 17] (fun s F0 => (18, .int .u64 (s.q : Int)) :: (16, .int .u64 (s.r : Int)) :: F0) (fun s => m) (fun s => Rest) (fun s => Kn r1 d0 y1 y0 s.q s.r) (fun s => s.q) ⟨r1 / y1, r1 % y1⟩ (by rfl) ?_ zsubs zml zente ?_)
        · exact kn_init K2
        rintro ⟨q, r⟩ kn
        dsimp only at kn ⊢
        have hle := kn_le K2 kn
        have hlt := kn.lt
        by_cases hC : 4294967296 ≤ q ∨ r * 4294967296 + d0 < q * y0
        · obtain ⟨hpos, hst⟩ : 0 < q ∧ (r + y1 < 4294967296 → Kn r1 d0 y1 y0 (q - 1) (r + y1)) := ⟨Nat.lt_of_le_of_lt (Nat.zero_le _) (kn_lt K2 kn hC), fun hr => (kn_step K2 kn hC hr).2⟩
          have o1 : IntKind.wrap .u64 ((q : Int) - 1) = ((q - 1 : Nat) : Int) := by rw [IntKind.wrap_u64]; omega
          have o2 := u_add (a := r) (b := y1) (by omega)
          by_cases hr : r + y1 < 4294967296
          · by_cases hq : 4294967296 ≤ q
            · (repeat' (first | refine zss ?_ | ((first | (with_reducible first | apply At.val | apply AtQ.val)); (first | exact pr_sub (by rfl) (by rfl) o1 | exact pr_add (by rfl) (by rfl) o2 | exact zprA); exact rfl) | refine zs0 ?_ | (refine zsp ?_ ?_ <;> (intro hc; (try simp only [zhcs, reduceCtorEq] at hc); (try (exfalso; first | omega | contradiction | omega | exact absurd rfl hc | exact absurd (by decide) hc))))))
              all_goals ((with_reducible refine At.reachk (⟨q - 1, r + y1⟩) ?_ ?_ ?_ ?_); exact zsubs; exact zml; exact zente; exact ⟨hst hr, by dsimp only; omega⟩)
            · have hn := hC.resolve_left hq
              have p1 := u_mul (a := q) (b := y0) (by have : q * y0 ≤ 4294967295 * 4294967295 := Nat.mul_le_mul (by omega) (by omega); omega)
              have p2 : IntKind.wrap .u64 (4294967296 * (r : Int)) = ((r * 4294967296 : Nat) : Int) := by rw [IntKind.wrap_u64]; omega
              have p3 := u_add (a := r * 4294967296) (b := d0) (by omega)
              generalize q * y0 = X at hn p1
              (repeat' (first | refine zss ?_ | ((first | (with_reducible first | apply At.val | apply AtQ.val)); (first | exact pr_sub (by rfl) (by rfl) o1 | exact pr_add (by rfl) (by rfl) o2 | exact pr_mul (by rfl) (by rfl) p1 | exact pr_mul (by rfl) (by rfl) p2 | exact pr_add (by rfl) (by rfl) p3 | exact zprA); exact rfl) | refine zs0 ?_ | (refine zsp ?_ ?_ <;> (intro hc; (try simp only [zhcs, reduceCtorEq] at hc); (try (exfalso; first | omega | contradiction | omega | exact absurd rfl hc | exact absurd (by decide) hc))))))
              all_goals ((with_reducible refine At.reachk (⟨q - 1, r + y1⟩) ?_ ?_ ?_ ?_); exact zsubs; exact zml; exact zente; exact ⟨hst hr, by dsimp only; omega⟩)
          · have hbr := kn_break K2 kn hC (by omega)
            rw [hYy, hq0] at hbr
            by_cases hq : 4294967296 ≤ q
            · (repeat' (first | refine zss ?_ | ((first | (with_reducible first | apply At.val | apply AtQ.val)); (first | exact pr_sub (by rfl) (by rfl) o1 | exact pr_add (by rfl) (by rfl) o2 | exact zprA); exact rfl) | refine zs0 ?_ | (refine zsp ?_ ?_ <;> (intro hc; (try simp only [zhcs, reduceCtorEq] at hc); (try (exfalso; first | omega | contradiction | omega | exact absurd rfl hc | exact absurd (by decide) hc))))))
              all_goals ((with_reducible refine At.reachk ((q - 1)) ?_ ?_ ?_ ?_); exact zsubs; exact zml; exact zente; exact hbr.symm)
            · have hn := hC.resolve_left hq
              have p1 := u_mul (a := q) (b := y0) (by have : q * y0 ≤ 4294967295 * 4294967295 := Nat.mul_le_mul (by omega) (by omega); omega)
              have p2 : IntKind.wrap .u64 (4294967296 * (r : Int)) = ((r * 4294967296 : Nat) : Int) := by rw [IntKind.wrap_u64]; omega
              have p3 := u_add (a := r * 4294967296) (b := d0) (by omega)
              generalize q * y0 = X at hn p1
              (repeat' (first | refine zss ?_ | ((first | (with_reducible first | apply At.val | apply AtQ.val)); (first | exact pr_sub (by rfl) (by rfl) o1 | exact pr_add (by rfl) (by rfl) o2 | exact pr_mul (by rfl) (by rfl) p1 | exact pr_mul (by rfl) (by rfl) p2 | exact pr_add (by rfl) (by rfl) p3 | exact zprA); exact rfl) | refine zs0 ?_ | (refine zsp ?_ ?_ <;> (intro hc; (try simp only [zhcs, reduceCtorEq] at hc); (try (exfalso; first | omega | contradiction | omega | exact absurd rfl hc | exact absurd (by decide) hc))))))
              all_goals ((with_reducible refine At.reachk ((q - 1)) ?_ ?_ ?_ ?_); exact zsubs; exact zml; exact zente; exact hbr.symm)
        · have hbr := kn_stop K2 kn (by omega)
          rw [hYy, hq0] at hbr
          have hq : q < 4294967296 := by omega
          have hn : ¬ r * 4294967296 + d0 < q * y0 := fun x => hC (.inr x)
          have p1 := u_mul (a := q) (b := y0) (by have : q * y0 ≤ 4294967295 * 4294967295 := Nat.mul_le_mul (by omega) (by omega); omega)
          have p2 : IntKind.wrap .u64 (4294967296 * (r : Int)) = ((r * 4294967296 : Nat) : Int) := by rw [IntKind.wrap_u64]; omega
          have p3 := u_add (a := r * 4294967296) (b := d0) (by omega)
          clear hC
          generalize q * y0 = X at hn p1
          (repeat' (first | refine zss ?_ | ((first | (with_reducible first | apply At.val | apply AtQ.val)); (first | exact pr_mul (by rfl) (by rfl) p1 | exact pr_mul (by rfl) (by rfl) p2 | exact pr_add (by rfl) (by rfl) p3 | exact zprA); exact rfl) | refine zs0 ?_ | (refine zsp ?_ ?_ <;> (intro hc; (try simp only [zhcs, reduceCtorEq] at hc); (try (exfalso; first | omega | contradiction | omega | exact absurd rfl hc | exact absurd (by decide) hc))))))
          all_goals ((with_reducible refine At.reachk (q) ?_ ?_ ?_ ?_); exact zsubs; exact zml; exact zente; exact hbr.symm)
      · rintro z rfl
        (repeat' (first | refine zss ?_ | ((first | (with_reducible first | apply At.val | apply AtQ.val)); (first | exact pr_mul (by rfl) (by rfl) v1 | exact pr_add (by rfl) (by rfl) v2 | exact pr_mul (by rfl) (by rfl) v3 | exact pr_sub (by rfl) (by rfl) v4 | exact pr_mul (by rfl) (by rfl) v5 | exact pr_add (by rfl) (by rfl) v6 | exact pr_shrv (by rfl) (by rfl) (by omega) (by simp only [IntKind.bits]; omega) v7 | exact zprA); exact rfl) | refine zs0 ?_ | (refine zsp ?_ ?_ <;> (intro hc; (try simp only [zhcs, reduceCtorEq] at hc); (try (exfalso; first | omega | contradiction | omega | exact absurd rfl hc | exact absurd (by decide) hc))))))
        all_goals ((with_reducible apply At.retB2 (B := [])); (iterate 3 exact rfl); exact zml; exact zkp; exact ⟨rfl, rfl, rfl⟩)
end Wide
end Go.Proofs.YtmnlmmbfjfgfeaaDoor
/- Ratios (plain): noughts at the end of a number, the greatest common divisor by halving. -/
set_option linter.unusedSimpArgs false
set_option linter.unusedVariables false
set_option linter.unusedSectionVars false
set_option maxRecDepth 20000
set_option maxHeartbeats 4000000
namespace Go.Proofs.YtmnlmmbfjfgfeaaDoor
open Go
namespace Ra
/-- how many noughts a number of 128 bits ends in -/
def nt (x : Nat) : Nat := if x % 18446744073709551616 = 0 then 64 + Lib.ctz 64 (x / 18446744073709551616) else Lib.ctz 64 (x % 18446744073709551616)
/-- what is left of it without them -/
def od (x : Nat) : Nat := x / 2 ^ nt x
theorem ctz_at {y : Nat} (h0 : y ≠ 0) (h : y < 18446744073709551616) : ∃ k, y = 2 ^ Lib.ctz 64 y * (2 * k + 1) ∧ Lib.ctz 64 y < 64 := by
  unfold Lib.ctz
  rw [if_neg h0]
  exact Lib.ctzFrom_spec 64 y (Nat.pos_of_ne_zero h0) h
theorem nt_spec {x : Nat} (h0 : x ≠ 0) (hx : x < 340282366920938463463374607431768211456) : ∃ k, x = 2 ^ nt x * (2 * k + 1) ∧ nt x < 128 := by
  unfold nt
  have hd := Nat.div_add_mod x 18446744073709551616
  by_cases h : x % 18446744073709551616 = 0
  · rw [if_pos h]
    rw [h, Nat.add_zero] at hd
    obtain ⟨k, h1, h2⟩ := ctz_at (y := x / 18446744073709551616) (fun e => h0 (by rw [e] at hd; omega)) (by omega)
    refine ⟨k, ?_, by omega⟩
    rw [Nat.pow_add, Nat.mul_assoc, ← h1]
    exact hd.symm
  · rw [if_neg h]
    obtain ⟨k, h1, h2⟩ := ctz_at (y := x % 18446744073709551616) h (by omega)
    generalize Lib.ctz 64 (x % 18446744073709551616) = c at h1 h2
    refine ⟨x / 18446744073709551616 * 2 ^ (63 - c) + k, ?_, by omega⟩
    have e : (18446744073709551616 : Nat) = 2 ^ c * (2 * 2 ^ (63 - c)) := by
      rw [← Nat.pow_succ', ← Nat.pow_add, show c + (63 - c).succ = 64 by omega]
    rw [show 2 * (x / 18446744073709551616 * 2 ^ (63 - c) + k) + 1 = x / 18446744073709551616 * (2 * 2 ^ (63 - c)) + (2 * k + 1) by
      rw [Nat.mul_add, Nat.mul_left_comm, Nat.add_assoc]]
    rw [Nat.mul_add, ← h1, Nat.mul_left_comm, ← e, Nat.mul_comm]
    exact hd.symm
theorem od_spec {x : Nat} (h0 : x ≠ 0) (hx : x < 340282366920938463463374607431768211456) : x = 2 ^ nt x * od x ∧ od x % 2 = 1 := by
  obtain ⟨k, h1, _⟩ := nt_spec h0 hx
  have e : od x = 2 * k + 1 := by
    unfold od
    conv => lhs; lhs; rw [h1]
    exact Nat.mul_div_cancel_left _ (Nat.two_pow_pos _)
  rw [e]
  exact ⟨h1, by omega⟩
theorem odd_co {a : Nat} (h : a % 2 = 1) (i : Nat) : (2 ^ i).Coprime a := by
  refine Nat.Coprime.pow_left i ?_
  show Nat.gcd 2 a = 1
  rw [Nat.gcd_rec, h]; rfl
theorem gcd_od {a b : Nat} (h : a % 2 = 1) (h0 : b ≠ 0) (hb : b < 340282366920938463463374607431768211456) : Nat.gcd a (od b) = Nat.gcd a b := by
  conv => rhs; rw [(od_spec h0 hb).1]
  rw [Nat.gcd_comm a (2 ^ nt b * od b), Nat.Coprime.gcd_mul_left_cancel _ (odd_co h _), Nat.gcd_comm]
/-- a step of the halving -/
theorem gcd_step {a b : Nat} (h : a % 2 = 1) (h0 : b ≠ 0) (hb : b < 340282366920938463463374607431768211456) :
    Nat.gcd (min a (od b)) (max a (od b) - min a (od b)) = Nat.gcd a b ∧ min a (od b) % 2 = 1 ∧ min a (od b) + (max a (od b) - min a (od b)) < a + b := by
  obtain ⟨h1, h2⟩ := od_spec h0 hb
  have hle : od b ≤ b := by
    conv => rhs; rw [h1]
    exact Nat.le_mul_of_pos_left _ (Nat.two_pow_pos _)
  rw [← gcd_od h h0 hb]
  generalize od b = c at h2 hle
  rcases Nat.le_total a c with hac | hac
  · rw [Nat.min_eq_left hac, Nat.max_eq_right hac]
    exact ⟨Nat.gcd_sub_self_right hac, h, by omega⟩
  · rw [Nat.min_eq_right hac, Nat.max_eq_left hac, Nat.gcd_comm a c]
    exact ⟨Nat.gcd_sub_self_right hac, h2, by omega⟩
/-- what the halving comes to -/
theorem gcd_end {a b : Nat} (ha0 : a ≠ 0) (ha : a < 340282366920938463463374607431768211456) (hb0 : b ≠ 0) (hb : b < 340282366920938463463374607431768211456) : 2 ^ min (nt a) (nt b) * Nat.gcd (od a) b = Nat.gcd a b := by
  obtain ⟨h1, h2⟩ := od_spec ha0 ha
  obtain ⟨h3, h4⟩ := od_spec hb0 hb
  have e1 : Nat.gcd (od a) b = Nat.gcd (od a) (od b) := (gcd_od h2 hb0 hb).symm
  rw [e1]
  generalize od a = u at h1 h2
  generalize od b = v at h3 h4
  generalize nt a = i at h1
  generalize nt b = j at h3
  subst h1 h3
  rcases Nat.le_total i j with hij | hij
  · obtain ⟨k, rfl⟩ := Nat.exists_eq_add_of_le hij
    rw [Nat.min_eq_left hij, Nat.pow_add, Nat.mul_assoc, Nat.gcd_mul_left, Nat.gcd_comm u (2 ^ k * v), Nat.Coprime.gcd_mul_left_cancel _ (odd_co h2 _), Nat.gcd_comm v u]
  · obtain ⟨k, rfl⟩ := Nat.exists_eq_add_of_le hij
    rw [Nat.min_eq_right hij, Nat.pow_add, Nat.mul_assoc, Nat.gcd_mul_left, Nat.Coprime.gcd_mul_left_cancel _ (odd_co h4 _)]
theorem pow64 {k : Nat} (hk : k ≤ 64) : (18446744073709551616 : Nat) = 2 ^ k * 2 ^ (64 - k) := by
  rw [← Nat.pow_add, show k + (64 - k) = 64 by omega]
theorem or_add {a b i : Nat} (hb : b < 2 ^ i) : a * 2 ^ i ||| b = a * 2 ^ i + b := by
  rw [← Nat.shiftLeft_eq, Nat.shiftLeft_add_eq_or_of_lt hb]
/-- a number without its last k digits, in parts -/
theorem dn_parts {x k : Nat} (hk : k ≤ 64) : x / 2 ^ k / 18446744073709551616 = x / 18446744073709551616 / 2 ^ k ∧ x / 2 ^ k % 18446744073709551616 = (x / 18446744073709551616 % 2 ^ k) * 2 ^ (64 - k) + x % 18446744073709551616 / 2 ^ k ∧ x % 18446744073709551616 / 2 ^ k < 2 ^ (64 - k) := by
  have hd := Nat.div_add_mod x 18446744073709551616
  have hl : x % 18446744073709551616 < 18446744073709551616 := Nat.mod_lt _ (by decide)
  have e := pow64 hk
  have hA := Nat.two_pow_pos k
  generalize x / 18446744073709551616 = h at hd ⊢
  generalize x % 18446744073709551616 = l at hd hl ⊢
  generalize 18446744073709551616 = D at hd hl e ⊢
  generalize 2 ^ k = A at e hA ⊢
  generalize 2 ^ (64 - k) = B at e ⊢
  subst e
  have h1 : x / A = h * B + l / A := by
    rw [← hd, Nat.mul_assoc, Nat.mul_add_div hA, Nat.mul_comm B h]
  have h2 : l / A < B := Nat.div_lt_of_lt_mul hl
  have h3 : h * B = A * B * (h / A) + h % A * B := by
    conv => lhs; rw [← Nat.div_add_mod h A]
    rw [Nat.add_mul, Nat.mul_right_comm]
  have h4 : h % A * B + l / A < A * B := by
    have := Nat.mod_lt h hA
    calc h % A * B + l / A < h % A * B + B := by omega
      _ = (h % A + 1) * B := by rw [Nat.add_mul, Nat.one_mul]
      _ ≤ A * B := Nat.mul_le_mul_right _ this
  refine ⟨?_, ?_, h2⟩
  · rw [h1, h3, Nat.add_assoc, Nat.mul_add_div (by omega), Nat.div_eq_of_lt h4, Nat.add_zero]
  · rw [h1, h3, Nat.add_assoc, Nat.mul_add_mod, Nat.mod_eq_of_lt h4]
theorem dn_far {x k : Nat} (hx : x < 340282366920938463463374607431768211456) (hk : 64 ≤ k) : x / 2 ^ k / 18446744073709551616 = 0 ∧ x / 2 ^ k % 18446744073709551616 = x / 18446744073709551616 / 2 ^ (k - 64) := by
  have e : x / 2 ^ k = x / 18446744073709551616 / 2 ^ (k - 64) := by
    rw [Nat.div_div_eq_div_mul, show (18446744073709551616 : Nat) = 2 ^ 64 from rfl, ← Nat.pow_add, show 64 + (k - 64) = k by omega]
  have h1 : x / 18446744073709551616 / 2 ^ (k - 64) ≤ x / 18446744073709551616 := Nat.div_le_self _ _
  rw [e]
  generalize x / 18446744073709551616 / 2 ^ (k - 64) = q at h1 ⊢
  omega
/-- a number with k noughts more, in parts -/
theorem up_parts {x k : Nat} (hk : k ≤ 64) : x * 2 ^ k / 18446744073709551616 = x / 18446744073709551616 * 2 ^ k + x % 18446744073709551616 / 2 ^ (64 - k) ∧ x * 2 ^ k % 18446744073709551616 = x % 18446744073709551616 * 2 ^ k % 18446744073709551616 ∧ x % 18446744073709551616 / 2 ^ (64 - k) < 2 ^ k := by
  have hd := Nat.div_add_mod x 18446744073709551616
  have hl : x % 18446744073709551616 < 18446744073709551616 := Nat.mod_lt _ (by decide)
  have e := pow64 hk
  have hA := Nat.two_pow_pos k
  have hB := Nat.two_pow_pos (64 - k)
  have hmm : x * 2 ^ k % 18446744073709551616 = x % 18446744073709551616 * 2 ^ k % 18446744073709551616 := by rw [Nat.mod_mul_mod]
  refine ⟨?_, hmm, ?_⟩
  · generalize x / 18446744073709551616 = h at hd ⊢
    generalize x % 18446744073709551616 = l at hd hl ⊢
    generalize 18446744073709551616 = D at hd hl e ⊢
    generalize 2 ^ k = A at e hA ⊢
    generalize 2 ^ (64 - k) = B at e hB ⊢
    subst e
    rw [← hd, Nat.add_mul, Nat.mul_assoc, Nat.mul_add_div (Nat.mul_pos hA hB), Nat.mul_comm A B, Nat.mul_div_mul_right _ _ hA]
  · exact Nat.div_lt_of_lt_mul (by rw [Nat.mul_comm, ← e]; exact hl)
theorem up_far {x k : Nat} (hx : x * 2 ^ k < 340282366920938463463374607431768211456) (hk : 64 ≤ k) : x * 2 ^ k / 18446744073709551616 = x % 18446744073709551616 * 2 ^ (k - 64) % 18446744073709551616 ∧ x * 2 ^ k % 18446744073709551616 = 0 := by
  have e : x * 2 ^ k = x * 2 ^ (k - 64) * 18446744073709551616 := by
    rw [show (18446744073709551616 : Nat) = 2 ^ 64 from rfl, Nat.mul_assoc, ← Nat.pow_add, show k - 64 + 64 = k by omega]
  rw [e] at hx ⊢
  have hp := Nat.two_pow_pos (k - 64)
  have h1 : x ≤ x * 2 ^ (k - 64) := Nat.le_mul_of_pos_right _ hp
  generalize hq : x * 2 ^ (k - 64) = q at hx h1 ⊢
  have h2 : x % 18446744073709551616 = x := Nat.mod_eq_of_lt (by omega)
  rw [h2, hq]
  omega
end Ra
end Go.Proofs.YtmnlmmbfjfgfeaaDoor

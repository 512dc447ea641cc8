/- Names with places, in order (plain): where a name stands, what is put, dropped and found. -/
import Derived.Test.YtjncahmbllmllaaRows
import Derived.Test.YtjncahmbllmllaaJO
import Derived.Test.YtjncahmbllmllaaLs
import Derived.Test.YtjncahmbllmllaaJT
set_option linter.unusedSimpArgs false
set_option linter.unusedVariables false
set_option linter.unusedSectionVars false
set_option maxRecDepth 20000
set_option maxHeartbeats 4000000
namespace Go.Proofs.Ytjncahmbllmllaa
open Go Go.J
/-- a name with a place -/
structure Nmd where
  (s : List UInt8) (p : Int)
deriving DecidableEq, Inhabited
abbrev Nmd.v (x : Nmd) : Value := .agg #[.string (str x.s), .int .i64 x.p]
namespace Nm
abbrev cells : Nmd → List Value := fun x => [.string (str x.s), .int .i64 x.p]
instance : Fl cells 2 := ⟨fun _ => rfl, fun _ v h => by simp at h; rcases h with rfl | rfl <;> rfl, by decide⟩
def srt (l : List Nmd) : Prop := ∀ i j, i < j → j < l.length → ltB (l[i]!).s (l[j]!).s = true
def cmpS (a b : List UInt8) : Int := if ltB a b = true then -1 else if ltB b a = true then 1 else 0
def pos (l : List Nmd) (t : List UInt8) : Nat := (l.takeWhile fun x => ltB x.s t).length
def has (l : List Nmd) (t : List UInt8) : Bool := l.any fun x => decide (x.s = t)
theorem cmpS_lt {a b : List UInt8} (h : ltB a b = true) : cmpS a b = -1 := if_pos h
theorem cmpS_eq (a : List UInt8) : cmpS a a = 0 := by unfold cmpS; simp [ltB_irrefl]
theorem cmpS_ge {a b : List UInt8} (h : ltB a b = false) : 0 ≤ cmpS a b := by unfold cmpS; rw [h]; simp; split <;> decide
theorem cmpS_ne {a b : List UInt8} (h : a ≠ b) : cmpS a b ≠ 0 := by
  unfold cmpS
  rcases ltB_tri a b with k | k | k
  · rw [if_pos k]; decide
  · exact absurd k h
  · rw [if_neg (by rw [ltB_asymm k]; decide), if_pos k]; decide
theorem pos_eq {l : List Nmd} {t : List UInt8} {i : Nat} (hi : i ≤ l.length) (h1 : ∀ k, k < i → ltB (l[k]!).s t = true) (h2 : i < l.length → ltB (l[i]!).s t = false) : pos l t = i := by
  induction l generalizing i with
  | nil => simp only [List.length_nil] at hi; have : i = 0 := by omega
           subst this; rfl
  | cons x l ih =>
    cases i with
    | zero =>
      have := h2 (by simp)
      show (List.takeWhile (fun x => ltB x.s t) (x :: l)).length = 0
      rw [List.takeWhile_cons, if_neg (by simpa using this)]; rfl
    | succ i =>
      have h0 := h1 0 (by omega)
      show (List.takeWhile (fun x => ltB x.s t) (x :: l)).length = i + 1
      rw [List.takeWhile_cons, if_pos (by simpa using h0), List.length_cons]
      congr 1
      exact ih (by simpa using hi) (fun k hk => by simpa using h1 (k + 1) (by omega)) (fun hl => by simpa using h2 (by simpa using hl))
theorem pos_le (l : List Nmd) (t : List UInt8) : pos l t ≤ l.length := by
  unfold pos; exact (List.takeWhile_prefix _).length_le
theorem pos_lt {l : List Nmd} {t : List UInt8} {k : Nat} (h : k < pos l t) : ltB (l[k]!).s t = true := by
  induction l generalizing k with
  | nil => cases h
  | cons x l ih =>
    unfold pos at h
    rw [List.takeWhile_cons] at h
    split at h
    · rename_i hx
      cases k with
      | zero => simpa using hx
      | succ k => simpa using ih (k := k) (by simpa [pos] using h)
    · simp at h
theorem pos_ge {l : List Nmd} {t : List UInt8} (h : pos l t < l.length) : ltB (l[pos l t]!).s t = false := by
  induction l with
  | nil => cases h
  | cons x l ih =>
    unfold pos at h ⊢
    rw [List.takeWhile_cons] at h ⊢
    split
    · rename_i hx
      rw [if_pos hx] at h
      have := ih (by simpa [pos] using h)
      simpa [pos] using this
    · rename_i hx
      simpa using hx
theorem srt_lt {l : List Nmd} (h : srt l) {i j : Nat} (hj : j < l.length) (hij : ltB (l[i]!).s (l[j]!).s = true) (hi : i < l.length) : i < j := by
  rcases Nat.lt_trichotomy i j with k | k | k
  · exact k
  · subst k; rw [ltB_irrefl] at hij; cases hij
  · have := ltB_trans (h j i k hi) hij; rw [ltB_irrefl] at this; cases this
theorem has_iff {l : List Nmd} {t : List UInt8} : has l t = true ↔ ∃ i, i < l.length ∧ (l[i]!).s = t := by
  unfold has
  rw [List.any_eq_true]
  constructor
  · rintro ⟨x, hx, h⟩
    obtain ⟨i, hi, rfl⟩ := List.mem_iff_getElem.1 hx
    exact ⟨i, hi, by rw [getElem!_pos l i hi]; exact of_decide_eq_true h⟩
  · rintro ⟨i, hi, h⟩
    exact ⟨l[i]!, Ls.mem! hi, decide_eq_true h⟩
/-- where it stands, if it does -/
theorem at_has {l : List Nmd} (hs : srt l) {t : List UInt8} {i : Nat} (hi : i < l.length) (h : (l[i]!).s = t) : pos l t = i :=
  pos_eq (Nat.le_of_lt hi) (fun k hk => by rw [← h]; exact hs k i hk hi) (fun _ => by rw [h]; exact ltB_irrefl t)
theorem has_pos {l : List Nmd} (hs : srt l) (t : List UInt8) : has l t = decide (pos l t < l.length ∧ (l[pos l t]!).s = t) := by
  cases h : has l t with
  | true =>
    obtain ⟨i, hi, e⟩ := has_iff.1 h
    rw [at_has hs hi e, decide_eq_true ⟨hi, e⟩]
  | false =>
    symm; refine decide_eq_false fun ⟨h1, h2⟩ => ?_
    rw [has_iff.2 ⟨_, h1, h2⟩] at h; cases h
/-- what is put -/
def ins (l : List Nmd) (x : Nmd) : List Nmd := l.take (pos l x.s) ++ [x] ++ l.drop (pos l x.s)
def putL (l : List Nmd) (t : List UInt8) (p : Int) : List Nmd := if has l t then l else ins l ⟨t, p⟩
def dropL (l : List Nmd) (t : List UInt8) : List Nmd := l.filter fun x => decide (x.s ≠ t)
def getP (l : List Nmd) (t : List UInt8) : Int := if has l t then (l[pos l t]!).p else 0
def begs (l : List Nmd) (t : List UInt8) : List Nmd := l.filter fun x => decide (t <+: x.s)
theorem get_take {l : List Nmd} {i k : Nat} (h : k < i) : (l.take i)[k]! = l[k]! := by
  rw [List.getElem!_eq_getElem?_getD, List.getElem!_eq_getElem?_getD, List.getElem?_take, if_pos h]
theorem get_drop (l : List Nmd) (i k : Nat) : (l.drop i)[k]! = l[i + k]! := by
  rw [List.getElem!_eq_getElem?_getD, List.getElem!_eq_getElem?_getD, List.getElem?_drop]
theorem srt_pw {l : List Nmd} : srt l ↔ l.Pairwise fun a b => ltB a.s b.s = true := by
  rw [List.pairwise_iff_getElem]
  constructor
  · intro h i j hi hj hij
    have := h i j hij hj
    rwa [getElem!_pos l i hi, getElem!_pos l j hj] at this
  · intro h i j hij hj
    rw [getElem!_pos l i (by omega), getElem!_pos l j hj]
    exact h i j (by omega) hj hij
theorem srt_filter {l : List Nmd} (h : srt l) (f : Nmd → Bool) : srt (l.filter f) := srt_pw.2 ((srt_pw.1 h).filter f)
/-- a list in order, cut at a name: those ahead of it, and those behind it -/
theorem cut_take {l : List Nmd} (h : srt l) (t : List UInt8) : l.take (pos l t) = l.filter fun x => ltB x.s t := by
  induction l with
  | nil => rfl
  | cons x l ih =>
    have hs : srt l := srt_pw.2 (List.pairwise_cons.1 (srt_pw.1 h)).2
    have hx := (List.pairwise_cons.1 (srt_pw.1 h)).1
    cases hc : ltB x.s t with
    | true =>
      have hp : pos (x :: l) t = pos l t + 1 := by unfold pos; rw [List.takeWhile_cons, if_pos (by simpa using hc)]; rfl
      rw [hp, List.take_succ_cons, List.filter_cons, if_pos (by simpa using hc), ih hs]
    | false =>
      have hp : pos (x :: l) t = 0 := by unfold pos; rw [List.takeWhile_cons, if_neg (by simpa using hc)]; rfl
      rw [hp, List.take_zero]
      symm
      rw [List.filter_eq_nil_iff]
      intro a ha hb
      rcases List.mem_cons.1 ha with rfl | ha
      · rw [hc] at hb; cases hb
      · have := ltB_trans (hx a ha) hb; rw [hc] at this; cases this
theorem cut_drop {l : List Nmd} (h : srt l) (t : List UInt8) : l.drop (pos l t) = l.filter fun x => !ltB x.s t := by
  induction l with
  | nil => rfl
  | cons x l ih =>
    have hs : srt l := srt_pw.2 (List.pairwise_cons.1 (srt_pw.1 h)).2
    have hx := (List.pairwise_cons.1 (srt_pw.1 h)).1
    cases hc : ltB x.s t with
    | true =>
      have hp : pos (x :: l) t = pos l t + 1 := by unfold pos; rw [List.takeWhile_cons, if_pos (by simpa using hc)]; rfl
      rw [hp, List.drop_succ_cons, List.filter_cons, if_neg (by simpa using hc), ih hs]
    | false =>
      have hp : pos (x :: l) t = 0 := by unfold pos; rw [List.takeWhile_cons, if_neg (by simpa using hc)]; rfl
      rw [hp, List.drop_zero]
      symm
      rw [List.filter_eq_self]
      intro a ha
      rcases List.mem_cons.1 ha with rfl | ha
      · rw [hc]; rfl
      · cases hb : ltB a.s t with
        | false => rfl
        | true => have := ltB_trans (hx a ha) hb; rw [hc] at this; cases this
theorem cut_drop_gt {l : List Nmd} (h : srt l) {t : List UInt8} (hn : has l t = false) : l.drop (pos l t) = l.filter fun x => ltB t x.s := by
  rw [cut_drop h]
  refine List.filter_congr fun x hx => ?_
  have hne : x.s ≠ t := fun e => by
    have : has l t = true := List.any_eq_true.2 ⟨x, hx, decide_eq_true e⟩
    rw [hn] at this; cases this
  rcases ltB_tri x.s t with k | k | k
  · rw [k, ltB_asymm k]; rfl
  · exact absurd k hne
  · rw [k, ltB_asymm k]; rfl
theorem ins_doc {l : List Nmd} (h : srt l) {x : Nmd} (hn : has l x.s = false) : ins l x = (l.filter fun y => ltB y.s x.s) ++ [x] ++ l.filter fun y => ltB x.s y.s := by
  unfold ins; rw [cut_take h, cut_drop_gt h hn]
theorem srt_ins {l : List Nmd} (h : srt l) {x : Nmd} (hn : has l x.s = false) : srt (ins l x) := by
  rw [ins_doc h hn, srt_pw, List.append_assoc, List.pairwise_append]
  have hp := srt_pw.1 h
  refine ⟨hp.filter _, ?_, ?_⟩
  · rw [List.singleton_append, List.pairwise_cons]
    exact ⟨fun a ha => (List.mem_filter.1 ha).2, hp.filter _⟩
  · intro a ha b hb
    have h1 := (List.mem_filter.1 ha).2
    rcases List.mem_cons.1 hb with rfl | hb
    · exact h1
    · exact ltB_trans h1 (List.mem_filter.1 hb).2
theorem srt_put {l : List Nmd} (h : srt l) (t : List UInt8) (p : Int) : srt (putL l t p) := by
  unfold putL
  split
  · exact h
  · rename_i hn; exact srt_ins h (by simpa using hn)
theorem srt_drop {l : List Nmd} (h : srt l) (t : List UInt8) : srt (dropL l t) := srt_filter h _
theorem len_ins (l : List Nmd) (x : Nmd) : (ins l x).length = l.length + 1 := by
  unfold ins
  have := pos_le l x.s
  simp only [List.length_append, List.length_take, List.length_drop, List.length_singleton]; omega
theorem len_put (l : List Nmd) (t : List UInt8) (p : Int) : (putL l t p).length ≤ l.length + 1 := by
  unfold putL; split
  · omega
  · rw [len_ins]; exact Nat.le_refl _
theorem len_drop (l : List Nmd) (t : List UInt8) : (dropL l t).length ≤ l.length := List.length_filter_le _ _
/-- what is dropped stands at one place -/
theorem drop_at {l : List Nmd} (h : srt l) {i : Nat} (hi : i < l.length) : l.take i ++ l.drop (i + 1) = dropL l (l[i]!).s := by
  have e : l = l.take i ++ (l[i]! :: l.drop (i + 1)) := by rw [← Ls.drop_cons hi, List.take_append_drop]
  have hp := srt_pw.1 h
  rw [e, List.pairwise_append, List.pairwise_cons] at hp
  obtain ⟨_, ⟨h2, _⟩, h3⟩ := hp
  have h4 : dropL l (l[i]!).s = dropL (l.take i ++ (l[i]! :: l.drop (i + 1))) (l[i]!).s := congrArg (fun z => dropL z (l[i]!).s) e
  rw [h4]
  unfold dropL
  rw [List.filter_append, List.filter_cons, if_neg (by simp), List.filter_eq_self.2, List.filter_eq_self.2]
  · intro a ha; exact decide_eq_true (fun e => ltB_ne (h2 a ha) e.symm)
  · intro a ha; exact decide_eq_true (ltB_ne (h3 a ha _ (List.mem_cons_self ..)))
theorem drop_none {l : List Nmd} {t : List UInt8} (hn : has l t = false) : dropL l t = l := by
  unfold dropL
  rw [List.filter_eq_self]
  intro a ha
  refine decide_eq_true fun e => ?_
  have : has l t = true := List.any_eq_true.2 ⟨a, ha, decide_eq_true e⟩
  rw [hn] at this; cases this
/-- those that begin so stand beside one another -/
theorem begs_at {l : List Nmd} (h : srt l) (t : List UInt8) : (l.drop (pos l t)).takeWhile (fun x => decide (t <+: x.s)) = begs l t := by
  induction l with
  | nil => rfl
  | cons x l ih =>
    have hs : srt l := srt_pw.2 (List.pairwise_cons.1 (srt_pw.1 h)).2
    have hx := (List.pairwise_cons.1 (srt_pw.1 h)).1
    cases hc : ltB x.s t with
    | true =>
      have hp : pos (x :: l) t = pos l t + 1 := by unfold pos; rw [List.takeWhile_cons, if_pos (by simpa using hc)]; rfl
      have hn : ¬ t <+: x.s := fun e => by rw [pre_not_lt e] at hc; cases hc
      rw [hp, List.drop_succ_cons, ih hs]
      unfold begs
      rw [List.filter_cons, if_neg (by simpa using hn)]
    | false =>
      have hp : pos (x :: l) t = 0 := by unfold pos; rw [List.takeWhile_cons, if_neg (by simpa using hc)]; rfl
      rw [hp, List.drop_zero]
      unfold begs
      by_cases hb : t <+: x.s
      · rw [List.takeWhile_cons, if_pos (by simpa using hb), List.filter_cons, if_pos (by simpa using hb)]
        congr 1
        have hgs : ∀ (l : List Nmd), (∀ a ∈ l, ltB a.s t = false) → srt l → l.takeWhile (fun x => decide (t <+: x.s)) = l.filter fun x => decide (t <+: x.s) := by
          intro l
          induction l with
          | nil => intros; rfl
          | cons y l ih2 =>
            intro h1 h2
            have h2s : srt l := srt_pw.2 (List.pairwise_cons.1 (srt_pw.1 h2)).2
            have h2x := (List.pairwise_cons.1 (srt_pw.1 h2)).1
            by_cases hy : t <+: y.s
            · rw [List.takeWhile_cons, if_pos (by simpa using hy), List.filter_cons, if_pos (by simpa using hy), ih2 (fun a ha => h1 a (List.mem_cons_of_mem _ ha)) h2s]
            · rw [List.takeWhile_cons, if_neg (by simpa using hy), List.filter_cons, if_neg (by simpa using hy)]
              symm; rw [List.filter_eq_nil_iff]
              intro a ha; simpa using pre_gone (h1 y (List.mem_cons_self ..)) hy (h2x a ha)
        refine hgs l (fun a ha => ?_) hs
        cases k : ltB a.s t with
        | false => rfl
        | true => have := ltB_trans (hx a ha) k; rw [hc] at this; cases this
      · rw [List.takeWhile_cons, if_neg (by simpa using hb), List.filter_cons, if_neg (by simpa using hb)]
        symm; rw [List.filter_eq_nil_iff]
        intro a ha; simpa using pre_gone hc hb (hx a ha)
theorem filt_yes {α : Type} [Inhabited α] (f : α → Bool) (l : List α) (j : Nat) (hj : j < l.length) (h : f (l[j]!) = true) : (l.take (j + 1)).filter f = (l.take j).filter f ++ [l[j]!] := by
  rw [Ls.take_snoc hj, List.filter_append, List.filter_cons, if_pos h]; rfl
theorem filt_no {α : Type} [Inhabited α] (f : α → Bool) (l : List α) (j : Nat) (hj : j < l.length) (h : f (l[j]!) = false) : (l.take (j + 1)).filter f = (l.take j).filter f := by
  rw [Ls.take_snoc hj, List.filter_append, List.filter_cons, if_neg (by rw [h]; decide)]; simp
theorem drop_lt (l : List Nmd) (t : List UInt8) : decide ((dropL l t).length < l.length) = has l t := by
  cases h : has l t with
  | false => rw [drop_none h]; simp
  | true =>
    obtain ⟨x, hx, e⟩ := List.any_eq_true.1 h
    refine decide_eq_true (Nat.lt_of_le_of_ne (len_drop l t) fun hl => ?_)
    have := List.length_filter_eq_length_iff.1 hl x hx
    exact absurd (of_decide_eq_true e) (of_decide_eq_true this)
theorem begs_nil (l : List Nmd) : begs l [] = l := by
  unfold begs; rw [List.filter_eq_self]; intro a _; exact decide_eq_true List.nil_prefix
end Nm
end Go.Proofs.Ytjncahmbllmllaa

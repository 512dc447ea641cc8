/- Labels (plain): which are right, what a name has, their order. -/
import Derived.Test.YtjncahmbllmllaaRows
import Derived.Test.YtjncahmbllmllaaJA
import Derived.Test.YtjncahmbllmllaaJO
import Derived.Test.YtjncahmbllmllaaLs
import Derived.Test.YtjncahmbllmllaaJT
set_option linter.unusedSimpArgs false
set_option linter.unusedVariables false
set_option linter.unusedSectionVars false
set_option maxRecDepth 20000
set_option maxHeartbeats 4000000
namespace Go.Proofs.Ytjncahmbllmllaa
open Go Go.J
/-- a label -/
structure Lab where
  (n v : List UInt8)
deriving DecidableEq, Inhabited
abbrev Lab.val (x : Lab) : Value := .agg #[.string (str x.n), .string (str x.v)]
namespace Lb
abbrev cells : Lab → List Value := fun x => [.string (str x.n), .string (str x.v)]
instance : Fl cells 2 := ⟨fun _ => rfl, fun _ v h => by simp at h; rcases h with rfl | rfl <;> rfl, by decide⟩
def dig (c : UInt8) : Bool := decide (48 ≤ bI c ∧ bI c ≤ 57)
def sgn (c : UInt8) : Bool := decide ((97 ≤ bI c ∧ bI c ≤ 122) ∨ (65 ≤ bI c ∧ bI c ≤ 90) ∨ (48 ≤ bI c ∧ bI c ≤ 57) ∨ bI c = 95)
def nameB (s : List UInt8) : Bool := decide (1 ≤ s.length ∧ s.length ≤ 64 ∧ dig s[0]! = false ∧ ∀ i, i < s.length → sgn s[i]! = true)
def okAt (l : List Lab) (i : Nat) : Bool := decide (nameB l[i]!.n = true ∧ l[i]!.v.length ≤ 128 ∧ (0 < i → ltB l[i - 1]!.n l[i]!.n = true))
def tot (l : List Lab) : Nat := (l.map fun x => x.n.length + x.v.length).sum
def right (l : List Lab) : Prop := 1 ≤ l.length ∧ l.length ≤ 16 ∧ (∀ i, i < l.length → okAt l i = true) ∧ tot l ≤ 256
instance (l : List Lab) : Decidable (right l) := by unfold right; infer_instance
def chk (l : List Lab) : Int := if right l then 0 else 8
def few (l : List Lab) : Prop := l.length ≤ 40 ∧ ∀ i, i < l.length → l[i]!.n.length ≤ 1000 ∧ l[i]!.v.length ≤ 1000
instance (l : List Lab) : Decidable (few l) := by unfold few; infer_instance
def val (l : List Lab) (t : List UInt8) : List UInt8 := match l.find? fun x => decide (x.n = t) with
  | some x => x.v
  | none => []
theorem or_letter : ∀ n : Nat, n < 256 → (decide (97 ≤ bits .or .u8 (n : Int) 32 ∧ bits .or .u8 (n : Int) 32 ≤ 122)) = decide ((97 ≤ (n : Int) ∧ (n : Int) ≤ 122) ∨ (65 ≤ (n : Int) ∧ (n : Int) ≤ 90)) := by decide +kernel
theorem or_let (c : UInt8) : (97 ≤ bits .or .u8 (bI c) 32 ∧ bits .or .u8 (bI c) 32 ≤ 122) ↔ ((97 ≤ bI c ∧ bI c ≤ 122) ∨ (65 ≤ bI c ∧ bI c ≤ 90)) := by
  have := or_letter c.toNat c.toNat_lt
  rwa [decide_eq_decide] at this
theorem lab_ext {a b : Lab} (h1 : a.n = b.n) (h2 : a.v = b.v) : a = b := by cases a; cases b; cases h1; cases h2; rfl
theorem and_lab (a b : Lab) : andL [decide (str a.n = str b.n), decide (str a.v = str b.v)] = decide (a = b) := by
  by_cases h : a = b
  · subst h; simp [andL_cons, andL_nil]
  · rw [decide_eq_false h]
    cases hb : andL [decide (str a.n = str b.n), decide (str a.v = str b.v)] with
    | false => rfl
    | true =>
      simp only [andL_cons, andL_nil, Bool.and_eq_true, decide_eq_true_eq] at hb
      exact absurd (lab_ext (str_inj.1 hb.1) (str_inj.1 hb.2.1)) h
theorem pr_lbne {n : Nat} {F : Fr} {C : World → Prop} {x y : Operand} {u : TypeId} {a b : Lab} (hx : ev F x = some a.val) (hy : ev F y = some b.val) : PR Try.prog n F C (.binOp .neq 29 x y u) (.bool (!decide (a = b))) := by
  rw [← and_lab]
  exact pr_aggne2 hx hy (by rfl) (by kernel_rfl) (by kernel_rfl) (by rfl)
theorem pr_lbeq {n : Nat} {F : Fr} {C : World → Prop} {x y : Operand} {u : TypeId} {a b : Lab} (hx : ev F x = some a.val) (hy : ev F y = some b.val) : PR Try.prog n F C (.binOp .eql 29 x y u) (.bool (decide (a = b))) := by
  rw [← and_lab]
  exact pr_aggeq2 hx hy (by rfl) (by kernel_rfl) (by kernel_rfl) (by rfl)
theorem tot_take {l : List Lab} {i : Nat} (h : i < l.length) : tot (l.take (i + 1)) = tot (l.take i) + (l[i]!.n.length + l[i]!.v.length) := by
  rw [Ls.take_snoc h]; simp [tot]
theorem tot_take_le (l : List Lab) (i : Nat) : tot (l.take i) ≤ tot l := by
  conv => rhs; rw [← List.take_append_drop i l]
  unfold tot
  rw [List.map_append, List.sum_append]
  omega
theorem bad_at {l : List Lab} {i : Nat} (hi : i < l.length) (h : ¬ (nameB l[i]!.n = true ∧ l[i]!.v.length ≤ 128 ∧ (0 < i → ltB l[i - 1]!.n l[i]!.n = true))) : chk l = 8 := by
  unfold chk
  rw [if_neg fun k => h (of_decide_eq_true (k.2.2.1 i hi))]
theorem bad_tot {l : List Lab} {i : Nat} (h : 256 < tot (l.take i)) : chk l = 8 := by
  unfold chk
  have := tot_take_le l i
  rw [if_neg fun k => by have := k.2.2.2; omega]
theorem bad_len {l : List Lab} (h : l.length < 1 ∨ 16 < l.length) : chk l = 8 := by
  unfold chk
  rw [if_neg fun k => by have := k.1; have := k.2.1; omega]
theorem chk_ok {l : List Lab} (h : right l) : chk l = 0 := if_pos h
theorem chk_right {l : List Lab} : chk l = 0 ↔ right l := by
  unfold chk; split
  · simp [*]
  · simp [*]
theorem val_none {l : List Lab} {t : List UInt8} (h : ∀ i, i < l.length → l[i]!.n ≠ t) : val l t = [] := by
  unfold val
  rw [List.find?_eq_none.2]
  intro x hx
  obtain ⟨i, hi, rfl⟩ := List.mem_iff_getElem.1 hx
  have := h i hi
  rw [getElem!_pos l i hi] at this
  simpa using this
theorem val_at : ∀ {l : List Lab} {t : List UInt8} {i : Nat}, i < l.length → l[i]!.n = t → (∀ k, k < i → l[k]!.n ≠ t) → val l t = l[i]!.v
  | [], _, _, h, _, _ => absurd h (Nat.not_lt_zero _)
  | x :: l, t, 0, _, h, _ => by unfold val; rw [List.find?_cons, show decide (x.n = t) = true from decide_eq_true h]; rfl
  | x :: l, t, i + 1, hi, h, hk => by
    have h0 : x.n ≠ t := hk 0 (by omega)
    have := val_at (l := l) (t := t) (i := i) (by simpa using hi) (by simpa using h) (fun k hk' => by simpa using hk (k + 1) (by omega))
    unfold val at this ⊢
    rw [List.find?_cons, show decide (x.n = t) = false from decide_eq_false h0]
    simpa using this
theorem nameB_no {s : List UInt8} (h : ¬ (1 ≤ s.length ∧ s.length ≤ 64 ∧ dig s[0]! = false ∧ ∀ i, i < s.length → sgn s[i]! = true)) : nameB s = false := decide_eq_false h
end Lb
end Go.Proofs.Ytjncahmbllmllaa

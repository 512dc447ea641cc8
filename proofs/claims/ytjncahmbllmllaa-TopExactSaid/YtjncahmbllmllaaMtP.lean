/- Matchers (plain): which are right, what they hit, which labels they ask for. -/
import Derived.Test.YtjncahmbllmllaaLbT
import Derived.Test.YtjncahmbllmllaaJT
set_option linter.unusedSimpArgs false
set_option linter.unusedVariables false
set_option linter.unusedSectionVars false
set_option maxRecDepth 20000
set_option maxHeartbeats 4000000
namespace Go.Proofs.Ytjncahmbllmllaa
open Go Go.J
/-- a matcher -/
structure Mat where
  (k : Nat) (n v : List UInt8)
deriving DecidableEq, Inhabited
abbrev Mat.val (x : Mat) : Value := .agg #[.int .u8 (x.k : Int), .string (str x.n), .string (str x.v)]
namespace Mt
open Lb
abbrev cells : Mat → List Value := fun x => [.int .u8 (x.k : Int), .string (str x.n), .string (str x.v)]
instance : Fl cells 3 := ⟨fun _ => rfl, fun _ v h => by simp at h; rcases h with rfl | rfl | rfl <;> rfl, by decide⟩
def hit (x : Mat) (l : List Lab) : Bool :=
  if x.k = 1 then decide (Lb.val l x.n = x.v) else if x.k = 2 then !decide (Lb.val l x.n = x.v) else if x.k = 3 then decide (x.v <+: Lb.val l x.n) else false
def all (ms : List Mat) (l : List Lab) : Bool := decide (∀ i, i < ms.length → hit ms[i]! l = true)
def lab (x : Mat) : Lab := ⟨x.n, x.v⟩
def rgt (x : Mat) : Bool := decide ((1 ≤ x.k ∧ x.k ≤ 3) ∧ Lb.chk [lab x] = 0)
def chk (ms : List Mat) : Int := if ms.length ≤ 16 ∧ ∀ i, i < ms.length → rgt ms[i]! = true then 0 else 2
def few (ms : List Mat) : Prop := ms.length ≤ 40 ∧ ∀ i, i < ms.length → ms[i]!.n.length ≤ 1000 ∧ ms[i]!.v.length ≤ 1000
instance (ms : List Mat) : Decidable (few ms) := by unfold few; infer_instance
def eqs (ms : List Mat) : Prop := ∀ i, i < ms.length → ms[i]!.k = 1 ∧ ms[i]!.v ≠ []
instance (ms : List Mat) : Decidable (eqs ms) := by unfold eqs; infer_instance
/-- whether labels are asked for, and which -/
def exB (ms : List Mat) : Bool := decide (eqs ms ∧ Lb.right (srtL (ms.map lab)))
def exL (ms : List Mat) : List Lab := if exB ms then srtL (ms.map lab) else []
/-- the places of those that all hit -/
def pick (ms : List Mat) (ls : List (List Lab)) : List Nat := (List.range ls.length).filter fun i => all ms ls[i]!
theorem hit1 {x : Mat} {l : List Lab} (h : x.k = 1) : hit x l = decide (Lb.val l x.n = x.v) := if_pos h
theorem hit2 {x : Mat} {l : List Lab} (h : x.k = 2) : hit x l = !decide (Lb.val l x.n = x.v) := by unfold hit; rw [if_neg (by omega), if_pos h]
theorem hit3 {x : Mat} {l : List Lab} (h : x.k = 3) : hit x l = decide (x.v <+: Lb.val l x.n) := by unfold hit; rw [if_neg (by omega), if_neg (by omega), if_pos h]
theorem hit0 {x : Mat} {l : List Lab} (h1 : x.k ≠ 1) (h2 : x.k ≠ 2) (h3 : x.k ≠ 3) : hit x l = false := by unfold hit; rw [if_neg h1, if_neg h2, if_neg h3]
theorem pick_snoc (ms : List Mat) (ls : List (List Lab)) (i : Nat) : ((List.range (i + 1)).filter fun i => all ms ls[i]!) = ((List.range i).filter fun i => all ms ls[i]!) ++ if all ms ls[i]! then [i] else [] := by
  rw [List.range_succ, List.filter_append]
  congr 1
  simp only [List.filter_cons, List.filter_nil]
theorem ex_no {ms : List Mat} (h : ¬ (eqs ms ∧ Lb.right (srtL (ms.map lab)))) : exB ms = false ∧ exL ms = [] := by
  have : exB ms = false := decide_eq_false h
  exact ⟨this, by unfold exL; rw [this]; rfl⟩
theorem ex_yes {ms : List Mat} (h : eqs ms ∧ Lb.right (srtL (ms.map lab))) : exB ms = true ∧ exL ms = srtL (ms.map lab) := by
  have : exB ms = true := decide_eq_true h
  exact ⟨this, by unfold exL; rw [this]; rfl⟩
theorem len_lab (ms : List Mat) : (srtL (ms.map lab)).length = ms.length := by rw [len_srt, List.length_map]
end Mt
end Go.Proofs.Ytjncahmbllmllaa
